/-
  Plain Lean: what the models of functions compute; no condition.
-/
import Derived.Test.YtmnnglbioibmfaaGreatDoorKz5
import Derived.Test.YtmnnglbioibmfaaGreatDoorPz2
import Derived.Test.YtmnnglbioibmfaaGreatDoorPz1
set_option linter.all false
namespace Go.Proofs.YtmnnglbioibmfaaGreatDoor
open Go Go.Ab
set_option maxHeartbeats 4000000
set_option maxRecDepth 100000
theorem Qs0 {F L:List Bs} (h:ZI F=0) (h2:ZI L=0):Post (QcP (F.map tS) (L.map tS)) fun r=>r.length≤1000∧∀x∈r,x.size≤1000:=by
 have n1:=Zg h;have n2:=Zg h2;have hs:∀x∈F.map tS++L.map tS,x.size≤1000:=fun x hx=>by
  rcases List.mem_append.1 hx with hx|hx
  ·obtain⟨l,hl,rfl⟩:=List.mem_map.1 hx;have:=QhC (QdT h l hl);rw[QaA];omega
  ·obtain⟨l,hl,rfl⟩:=List.mem_map.1 hx;have:=QhC (QdT h2 l hl);rw[QaA];omega
 have hf:(F.map tS).length≤16:=by rw[List.length_map];exact n1
 have hl:(L.map tS).length≤16:=by rw[List.length_map];exact n2
 generalize F.map tS=A at hs hf;generalize L.map tS=B at hs hl;unfold QcP;rw[QdS (by omega),Qa,Qd (by omega)];refine .bd (Q:=fun x=>x.1=x.2.length∧x.2.length≤1000∧∀y∈x.2,y.size≤1000) (.lp (fun s=>∃i:Nat,s.2=(i:Int)∧s.1.length≤i∧i≤(A++B).length∧∀y∈s.1,y.size≤1000) (fun s=>(A++B).length-s.2.toNat) ⟨0,rfl,Nat.le_refl _,Nat.zero_le _,fun y hy=>by cases hy⟩ ?_) ?_
 ·rintro⟨ys,z⟩ ⟨i,e,h1,hi,h3⟩;dsimp only at e h1 h3;subst e;have hab:(A++B).length≤32:=by rw[List.length_append];omega
  refine .ite (fun hc=>?_) fun hc=>.ret ⟨rfl,?_,h3⟩
  ·have hi:i<(A++B).length:=by
    have:=of_decide_eq_true hc;dsimp only at this;omega
   dsimp only;rw[Int.toNat_natCast,QlO (by omega),QlO (by omega)];refine .gd (by omega) ?_;rw[Qa,Qa,Qm hi (by omega)];have hm:=hs _ (JP hi);refine .ite (fun _=>.gd (by rw[List.length_singleton];omega) (.ret ⟨⟨i+1,rfl,by rw[List.length_append,List.length_singleton];omega,hi,fun y hy=>?_⟩,by dsimp only;omega⟩)) fun _=>.ret ⟨⟨i+1,rfl,by dsimp only;omega,hi,h3⟩,by dsimp only;omega⟩;rcases List.mem_append.1 hy with hy|hy
   ·exact h3 y hy
   ·rw[List.mem_singleton.1 hy];exact hm
  ·dsimp only;have:(A++B).length≤32:=by rw[List.length_append];omega
   omega
 ·rintro⟨n,ys⟩ ⟨e,h1,h3⟩;dsimp only at e h1 h3⊢;unfold QP;rw[Qd (by omega),Qa,Qd (by rw[Mg.srtB_len];exact e.symm)];refine .ret ⟨by rw[Mg.srtB_len];exact h1,fun x hx=>?_⟩;have hx':x∈ys:=by
   unfold QkY at hx;obtain⟨l,hl,rfl⟩:=List.mem_map.1 hx;obtain⟨y,hy,e⟩:=List.mem_map.1 ((List.mergeSort_perm _ _).mem_iff.1 hl);subst e;exact hy
  exact h3 x hx'
theorem QxS {F L:List Bs} (h:ZI F=0) (h2:ZI L=0) (u:Bt):Post (QcQ (F.map tS) (L.map tS) u) fun _=>True:=by
 unfold QcQ;rw[QfR h,Qa,Ql (by rfl),QfR h2,Qa,if_neg (by decide)];refine .bd (QlY h u) fun x hx=>.ite (fun _=>.ret trivial) fun _=>.bd (Qs0 h h2) fun y ⟨hy,hz⟩=>?_;refine .bd (Q:=fun _=>True) (.lp (fun s=>∃i:Nat,s=(i:Int)) (fun s=>y.length-s.toNat) ⟨0,rfl⟩ ?_) ?_
 ·rintro _ ⟨i,rfl⟩;refine .ite (fun hc=>?_) fun _=>.ret trivial;have hi:i<y.length:=by
   have:=of_decide_eq_true hc;omega
  have hm:=hz _ (JP hi);unfold Jj;rw[Int.toNat_natCast,QlO (by omega)];refine .gd (by omega) ?_;rw[Qd (by omega),Qa,Qa,Qm hi (by omega)];refine .bd (.gcall (fun _=>by rw[QlO (by omega)];exact .ret (Q:=fun _=>True) trivial) fun _=>trivial) fun _ _=>.ite (fun _=>.ret trivial) fun _=>.ret ⟨⟨i+1,rfl⟩,by first|omega|(simp only[Int.toNat_natCast];omega)⟩
 ·rintro(d|d) _<;>exact .ret trivial
structure CandAt (cs:List Qyf) (u:Bt) (i:Nat):Prop where
 lt:i<cs.length
 user:(cs.getD i default).User=u
 first:∀k,k<i→(cs.getD k default).User≠u
section
variable {E lv:Int} {F L:List Bs} {cs:List Qyf} {o:Qyi} {u:Bt} {i:Nat}
abbrev evC (u:Bt):Qyk:=⟨5,u,ByteArray.empty,0⟩
theorem Qgp {a b:Bt} (h:a≠b):(a==b)=false:=by
 cases e:(a==b)
 ·rfl
 ·exact absurd (Nc.bq.1 e) h
theorem Qbz (a:Bt):(a==a)=true:=Nc.bq.2 rfl
theorem QxT (s:Qyj) (u:Bt):QA s (evC u)=bd (Z9 s u 0) fun x7=>some (x7.1,{s with Box:={s.Box with Cands:=x7.2.Box.Cands},Job:=x7.2.Job}):=by
 unfold QA;rw[if_neg (by simp),if_neg (by simp),Qa,if_neg (by simp),if_neg (by simp),if_pos (by simp)]
theorem Qq5 (h:Whole E lv F cs) (hc:CandAt cs u i) (hl:(cs.getD i default).Lines=L.map tS) (hn:ZI L=0):
  Post (Z9 (sto E F cs lv o E J0) u 0) fun r=>r.1=0→QaD L=0∧r.2={sto E F (cs.filter fun c=>!(c.User==u)) lv o E J0 with Job:=J1 0 E L}:=by
 have h3:=h.cands.few;have hlt:=hc.lt;have hL:=Zg hn;unfold Z9;have hB:(sto E F cs lv o E J0).Box=⟨E,F.map tS,0,[],cs⟩:=rfl;have hJ:(sto E F cs lv o E J0).Job.Kind=0:=rfl;rw[hB,hJ,Qk8 i (.inl i) (fun k hk=>?_) ?_,Qa]
 ·dsimp only;rw[show Qn 0 0 9=some true from rfl,Qa,if_neg (by decide),if_neg (by decide),if_neg (by simp),hl,QmQ (Qdz hn) (by omega)];refine .ite (fun _=>.ret fun e=>by simp at e) fun _=>?_;rw[Qa];refine .ite (fun _=>.ret fun e=>by simp at e) fun hz=>.bd (QxS (Zc h.lines) hn u) fun x _=>.ite (fun _=>.ret fun e=>by simp at e) fun _=>.ite (fun _=>.ret fun e=>by simp at e) fun _=>?_;rw[QdS (by rw[List.length_map];omega),Qa,QlX (by dsimp only[sto];omega),Qa];refine .ret fun _=>⟨by simpa using hz,?_⟩;have e1:=h.e1;have e0:=h.e0;rw[QC (n:=E+1) (by omega) (by omega)]
  rfl
 ·have hg:(0:Int)≤(i:Int)∧(i:Int)<((cs.length:Nat):Int):=by omega
  dsimp only;rw[if_pos (decide_eq_true hg.2),Qd hg,Int.toNat_natCast,hc.user,if_pos (Qbz u),Qd hg]
 ·have hg:(0:Int)≤(k:Int)∧(k:Int)<((cs.length:Nat):Int):=by omega
  dsimp only;rw[if_pos (decide_eq_true hg.2),Qd hg,Int.toNat_natCast,Qgp (hc.first k hk),if_neg (by decide),Qm (n:=cs.length) (by omega) (by omega)]
theorem Qq6 (h:Whole E lv F cs) (ho:SlotOk E o) (hc:CandAt cs u i) (hl:(cs.getD i default).Lines=L.map tS) (hn:ZI L=0):
  ∃c,Qp (sto E F cs lv o E J0) (evC u)=some (if c=0 then sto E F (cs.filter fun c=>!(c.User==u)) lv o E (J1 0 E L) else sto E F cs lv o E J0,c)∧(c=0→QaD L=0):=by
 obtain⟨hok,hf⟩:=h.idle ho;obtain⟨r,e,hr⟩:=Qq5 (o:=o) h hc hl hn;refine⟨r.1,?_,fun h0=>(hr h0).1⟩;rw[Qta (ev:=evC u) hok hf rfl (show(1:Int)≤5∧(5:Int)≤9 by decide) (by rw[QxT,e,Qa])]
 by_cases h0:r.1=0
 ·rw[if_pos h0,if_pos h0,(hr h0).2]
  rfl
 ·rw[if_neg h0,if_neg h0]
end
theorem Qxc {α:Type} [Inhabited α] {pm:α→Option Bool} {p:α→Bool} {xs:List α} (hp:∀x∈xs,pm x=some (p x)) (h:xs.length≤1048576):
  (QtR pm xs=some (-1)∧xs.filter (fun x=>!p x)=xs)∨ ∃(i:Nat) (x:Nat×Int×List α),QtR pm xs=some (i:Int)∧lp (σ:=List α×Int×Int) (β:=(Nat×Int×(List α))) (fun s2=>
    (if(decide (s2.2.2<((s2.1.length:Nat):Int)))=true then
    gd ((0:Int)≤s2.2.2∧s2.2.2<((s2.1.length:Nat):Int))<|
    bd (pm (s2.1.getD s2.2.2.toNat default)) fun x7=>
    (if(!x7)=true then
    gd ((0:Int)≤s2.2.1∧s2.2.1<((s2.1.length:Nat):Int))<|
    some (.inl (s2.1.set s2.2.1.toNat (s2.1.getD s2.2.2.toNat default),IntKind.i64.wrap (s2.2.1+1),IntKind.i64.wrap (s2.2.2+1)))
    else
    some (.inl (s2.1,s2.2.1,IntKind.i64.wrap (s2.2.2+1))))
    else
    some (.inr (s2.1.length,s2.2.1,s2.1)))) (xs,(i:Int),IntKind.i64.wrap ((i:Int)+1))=some x∧∃q:Nat,x.2.1=(q:Int)∧q≤x.1∧x.1=x.2.2.length∧x.2.2.take q=xs.filter (fun r=>!p r):=by
 have hi:=Qsh hp h
 cases hf:JA (fun i=>p (xs.getD i default)) xs.length with
 |none=>
  have:=Qcx hf;rw[hf] at hi;refine .inl ⟨hi,?_⟩;have e:=Qd5 (k:=fun r=>!p r) (xs:=xs) (n:=xs.length) fun q hq _=>by simpa using this q hq
  rw[List.take_length] at e;exact e
 |some i=>
  rw[hf] at hi;obtain⟨h1,h2,h3⟩:=Qcw hf;have start:DlW xs (fun r=>!p r) xs i (i+1):=by
   refine⟨Nat.lt_succ_self _,h1,rfl,?_,fun _ _=>rfl⟩;have e2:xs[i]? =some (xs.getD i default):=by simp[List.getD_eq_getElem?_getD,h1]
   rw[List.take_succ,List.filter_append,e2,Qd5 fun q hq _=>by simpa using h3 q hq];show _=_++([xs.getD i default]).filter (fun r=>!p r);rw[List.filter_cons,if_neg (by rw[h2];decide)];simp
  have key:Post (lp (σ:=List α×Int×Int) (β:=(Nat×Int×(List α))) (fun s2=>
    (if(decide (s2.2.2<((s2.1.length:Nat):Int)))=true then
    gd ((0:Int)≤s2.2.2∧s2.2.2<((s2.1.length:Nat):Int))<|
    bd (pm (s2.1.getD s2.2.2.toNat default)) fun x7=>
    (if(!x7)=true then
    gd ((0:Int)≤s2.2.1∧s2.2.1<((s2.1.length:Nat):Int))<|
    some (.inl (s2.1.set s2.2.1.toNat (s2.1.getD s2.2.2.toNat default),IntKind.i64.wrap (s2.2.1+1),IntKind.i64.wrap (s2.2.2+1)))
    else
    some (.inl (s2.1,s2.2.1,IntKind.i64.wrap (s2.2.2+1))))
    else
    some (.inr (s2.1.length,s2.2.1,s2.1)))) (xs,(i:Int),IntKind.i64.wrap ((i:Int)+1))) fun x=>∃q:Nat,x.2.1=(q:Int)∧q≤x.1∧x.1=x.2.2.length∧x.2.2.take q=xs.filter (fun r=>!p r):=by
   rw[Qm h1 (by omega)];refine .lp (fun s=>∃q j:Nat,s.2.1=(q:Int)∧s.2.2=(j:Int)∧DlW xs (fun r=>!p r) s.1 q j) (fun s=>xs.length-s.2.2.toNat) ⟨i,i+1,rfl,rfl,start⟩ fun s ⟨q,j,ep,ej,D⟩=>?_;obtain⟨ys,sp,sj⟩:=s;dsimp only at ep ej D⊢;subst ep ej;have hlt:=D.lt;have hle:=D.le;have hlen:=D.len;refine .ite (fun c=>?_) fun c=>.ret ?_
   ·have c:=of_decide_eq_true c;have hj:j<xs.length:=by omega
    refine .gd (by omega) ?_;have hpm:pm (ys.getD j default)=some (p (ys.getD j default)):=by rw[D.drop j (Nat.le_refl _)];exact hp _ (JP hj)
    rw[Int.toNat_natCast,hpm,Qa,Qm (n:=xs.length) hj (by omega)];refine .ite (fun k=>.gd (by omega) ?_) fun k=>.ret ⟨⟨q,j+1,rfl,rfl,D.skip hj (by simpa using k)⟩,by dsimp only;omega⟩;rw[Int.toNat_natCast,Qm (n:=xs.length) (by omega) (by omega)];exact .ret ⟨⟨q+1,j+1,rfl,rfl,D.keep hj k⟩,by dsimp only;omega⟩
   ·have:j=xs.length:=by
     simp only[decide_eq_true_eq] at c;omega
    refine⟨q,rfl,by dsimp only;omega,rfl,?_⟩;have t:=D.take;rw[this,List.take_length] at t;exact t
  obtain⟨x,e,q,hq⟩:=key;exact .inr ⟨i,x,hi,e,q,hq⟩
def eR (l:List Bs) (x:Bs):List Bs:=l.filter fun y=>!(Qde y==Qde x)
def eL (l:List Bs) (a:Bs):List Bs:=match Qig a with
 |none=>l
 |some x=>if(eR l x).length=16 then l else Qrf (eR l x++[x])
theorem Qo7 {l:List Bs} (h:ZI l=0) (a:Bs):ZI (eL l a)=0:=by
 unfold eL
 cases hv:Qig a with
 |none=>exact h
 |some x=>
  dsimp only;split
  ·exact h
  ·rename_i hn;have hlen:(eR l x).length≤l.length:=List.length_filter_le _ _;have:=Zg h;refine Qp3 (by rw[List.length_append,List.length_singleton];omega) (fun y hy=>?_) ?_
   ·rcases List.mem_append.1 hy with hy|hy
    ·exact QdT h y (List.mem_filter.1 hy).1
    ·rw[List.mem_singleton.1 hy];exact Qn2 hv
   ·refine List.pairwise_append.2 ⟨(Qkr h).filter _,by simp,fun y hy z hz=>?_⟩;rw[List.mem_singleton.1 hz];have:=(List.mem_filter.1 hy).2;simpa using this
theorem QxU {l:List Bs} (h:l≠ []) (a:Bs):eL l a≠ []:=by
 unfold eL
 cases hv:Qig a with
 |none=>exact h
 |some x=>
  dsimp only;split
  ·exact h
  ·intro e;have:=(Qkx (eR l x++[x])).length_eq;rw[e,List.length_append,List.length_singleton] at this;simp at this
section
variable {E lv:Int} {F l:List Bs} {cs:List Qyf} {o:Qyi} {u:Bt} {i:Nat} {a:Bs}
theorem Qwj {y x:Bs} (hy:y.length≤1000000) (hx:x.length≤1000000):Q6 (tS y) (tS x)=some (Qde y==Qde x):=by
 unfold Q6;rw[QsD hy,Qa,QsD hx,Qa,Ju]
theorem Qxd (l:List Bs) (x:Bs):(l.map tS).filter (fun s=>!(Qde (tB s)==Qde x))=(eR l x).map tS:=by
 rw[List.filter_map];unfold eR
 congr 1
abbrev evE (u:Bt) (a:Bs):Qyk:=⟨2,u,tS a,0⟩
def Qwy (cs:List Qyf) (i:Nat) (l:List Bs):List Qyf:=cs.set i {(cs.getD i default) with Lines:=l.map tS}
theorem Qun (h:Whole E lv F cs) (hc:CandAt cs u i) (hl:(cs.getD i default).Lines=l.map tS) (hn:ZI l=0) (ha:a.length≤1000000):
  Post (ZY (sto E F cs lv o E J0) (evE u a)) fun r=>if r.1=0 then r.2=sto E F (Qwy cs i (eL l a)) lv o E J0 else eL l a=l:=by
 have h3:=h.cands.few;have hlt:=hc.lt;have hL:=Zg hn;unfold ZY;have hB:(sto E F cs lv o E J0).Box=⟨E,F.map tS,0,[],cs⟩:=rfl;rw[hB,Qk8 i (.inl i) (fun k hk=>?_) ?_,Qa]
 ·dsimp only;rw[QsB ha,Qa];unfold eL
  cases hv:Qig a with
  |none=>
   dsimp only;rw[if_pos (by rfl)];exact .ret (by simp)
  |some x=>
   have hx:=QhC (Qn2 hv);dsimp only;rw[if_neg (by decide),if_neg (by decide),hl,QdS (by rw[List.length_map];omega),Qa];have hpm:∀s∈l.map tS,Q6 s (tS x)=some (Qde (tB s)==Qde x):=fun s hs=>by
    obtain⟨y,hy,rfl⟩:=List.mem_map.1 hs;rw[Qwj (Qdz hn y hy) (by omega),tB_tS]
   have hfin:∀ys:List Bt,ys=(eR l x).map tS→(eR l x).length≠16→ys.length=(eR l x).length∧QP (ys++[tS x])=some ((Qrf (eR l x++[x])).map tS)∧((Qrf (eR l x++[x])).map tS).length=(ys++[tS x]).length:=fun ys e hne=>by
    subst e;have hlen:(eR l x).length≤l.length:=List.length_filter_le _ _;refine⟨List.length_map _,?_,?_⟩
    ·unfold QP;rw[Qd (by rw[List.length_append,List.length_singleton,List.length_map];omega),show(eR l x).map tS++[tS x]=(eR l x++[x]).map tS by rw[List.map_append];rfl,QsT]
    ·rw[List.length_map,(Qkx _).length_eq,List.length_append,List.length_append,List.length_map]
     rfl
   have e0:QS (l.map tS) (tS x)=QtR (fun s=>Q6 s (tS x)) (l.map tS):=rfl;rw[e0];have hlen:(eR l x).length≤l.length:=List.length_filter_le _ _;rcases Qxc (pm:=fun s=>Q6 s (tS x)) hpm (by rw[List.length_map];omega) with ⟨e1,e2⟩|⟨j,y,e1,e2,q,q1,q2,q3,q4⟩
   ·rw[Qxd] at e2;have el:(eR l x).length=l.length:=by have:=congrArg List.length e2;rwa[List.length_map,List.length_map] at this
    rw[e1,Qa,if_pos (by decide)]
    by_cases h16:(eR l x).length=16
    ·rw[if_pos (by rw[List.length_map,←el,h16];rfl),if_pos h16];exact .ret (by simp)
    ·obtain⟨f1,f2,f3⟩:=hfin (l.map tS) e2.symm h16;rw[if_neg (by rw[f1];simp<;>omega),Qd ⟨hlt,h3,rfl⟩,Qd (by rw[f1,List.length_singleton];omega),f2,Qa,Qd f3,if_neg h16];exact .ret (by rw[if_pos rfl];rfl)
   ·rw[Qxd] at q4;rw[e1,Qa,if_neg (by simp<;>omega)];refine(congrArg (fun m=>Post (bd m _) _) e2).mpr ?_;have hq:(QkT y.2.2 q (QhI ((y.1:Nat):Int) (q:Int))).take q=(eR l x).map tS:=by rw[QnK,q4]
    have hql:q=(eR l x).length:=by
     have:=congrArg List.length q4;rw[List.length_take,List.length_map] at this;omega
    rw[Qa,q1,Qd (by omega),Qd (by omega),Int.toNat_natCast,hq]
    by_cases h16:(eR l x).length=16
    ·rw[if_pos (by rw[hql,h16];rfl),if_pos h16];exact .ret (by simp)
    ·obtain⟨f1,f2,f3⟩:=hfin ((eR l x).map tS) rfl h16;rw[if_neg (by rw[hql];simp<;>omega),Qd ⟨hlt,h3,by rw[f1];exact hql⟩,Qd (by rw[hql,List.length_singleton];omega),f2,Qa,Qd f3,if_neg h16];exact .ret (by rw[if_pos rfl];rfl)
 ·have hg:(0:Int)≤(i:Int)∧(i:Int)<((cs.length:Nat):Int):=by omega
  dsimp only;rw[if_pos (decide_eq_true hg.2),Qd hg,Int.toNat_natCast,hc.user,if_pos (Qbz u),Qd hg]
 ·have hg:(0:Int)≤(k:Int)∧(k:Int)<((cs.length:Nat):Int):=by omega
  dsimp only;rw[if_pos (decide_eq_true hg.2),Qd hg,Int.toNat_natCast,Qgp (hc.first k hk),if_neg (by decide),Qm (n:=cs.length) (by omega) (by omega)]
theorem Qxe (s:Qyj) (u:Bt) (a:Bs):QA s (evE u a)=bd (ZY s (evE u a)) fun x7=>some (x7.1,{s with Box:={s.Box with Cands:=x7.2.Box.Cands}}):=by
 unfold QA;rw[if_neg (by simp),if_pos (by simp),Qa,if_pos (by simp)]
theorem Qs1 (hl:(cs.getD i default).Lines=l.map tS) (hlt:i<cs.length):Qwy cs i l=cs:=by
 unfold Qwy;rw[←hl];exact Qp1 hlt
theorem Quo (h:Whole E lv F cs) (ho:SlotOk E o) (hc:CandAt cs u i) (hl:(cs.getD i default).Lines=l.map tS) (hn:ZI l=0) (ha:a.length≤1000000):
  ∃c,Qp (sto E F cs lv o E J0) (evE u a)=some (sto E F (Qwy cs i (eL l a)) lv o E J0,c):=by
 obtain⟨hok,hf⟩:=h.idle ho;obtain⟨r,e,hr⟩:=Qun (o:=o) h hc hl hn ha;refine⟨r.1,?_⟩;rw[Qta (ev:=evE u a) hok hf rfl (show(1:Int)≤2∧(2:Int)≤9 by decide) (by rw[Qxe,e,Qa])]
 by_cases h0:r.1=0
 ·rw[if_pos h0] at hr;rw[if_pos h0,hr]
  rfl
 ·rw[if_neg h0] at hr;rw[if_neg h0,hr,Qs1 hl hc.lt]
end
def kfB (s:Bt):Bt:=tS (Qde (tB s))
def kk (xs:List Bs):List Bt:=(xs.map Qde).map tS
theorem Qup (xs:List Bs):kk xs=(xs.map tS).map kfB:=by
 unfold kk kfB
 rw[List.map_map,List.map_map]
 refine List.map_congr_left fun x _=>?_
 show tS (Qde x)=tS (Qde (tB (tS x)))
 rw[tB_tS]
def lk (xs:List Bs) (k:Bt):Bt:=Zd (xs.map tS) (kk xs) k
def mg (f l t:List Bs):List Bt×Int:=Qdf (lk f) (lk l) (lk t) (kk f++kk l++kk t)
theorem QlZ {xs:List Bs} (h:ZI xs=0):((xs.map tS).map kfB).Nodup:=by
 rw[←Qup]
 unfold kk
 rw[List.map_map]
 exact List.pairwise_map.2 ((Qkr h).imp fun h e=>h (QlJ e))
theorem Qxf {xs:List Bs} (h:ZI xs=0) (k:Bt):lk xs k=ByteArray.empty∨(QaW (tB (lk xs k))=true∧kfB (lk xs k)=k):=by
 unfold lk
 rw[Qup]
 by_cases hx:∃x∈xs.map tS,kfB x=k
 ·obtain⟨x,hx,rfl⟩:=hx
  rw[Qil (QlZ h) hx]
  obtain⟨y,hy,rfl⟩:=List.mem_map.1 hx
  refine .inr ⟨?_,rfl⟩
  rw[tB_tS]
  exact QdT h y hy
 ·exact .inl (QlV fun x hx' e=>hx ⟨x,hx',e⟩)
theorem Quq:(ByteArray.empty:Bt)=tS []:=rfl
theorem Qwk {f l t:List Bs} (hf:ZI f=0) (hl:ZI l=0) (ht:ZI t=0):(∃M,mg f l t=(M.map tS,0)∧ZI M=0)∨(mg f l t).2=2∨(mg f l t).2=3:=by
 unfold mg Qdf
 generalize kk f++kk l++kk t=ks
 split
 ·exact .inr (.inl rfl)
 ·split
  ·exact .inr (.inr rfl)
  ·rename_i _ h16
   refine .inl ?_
   have hone:∀k,QdX (lk f k) (lk l k) (lk t k)=ByteArray.empty∨(QaW (tB (QdX (lk f k) (lk l k) (lk t k)))=true∧kfB (QdX (lk f k) (lk l k) (lk t k))=k):=fun k=>by
    unfold QdX
    split
    ·exact Qxf ht k
    ·exact Qxf hl k
   generalize hon:(fun k=>QdX (lk f k) (lk l k) (lk t k))=one at h16⊢
   have hone':∀k,one k=ByteArray.empty∨(QaW (tB (one k))=true∧kfB (one k)=k):=fun k=>by rw[←hon];exact hone k
   have hY:∀s∈((QjI ks).map one).filter (fun l=>!(l==ByteArray.empty)),QaW (tB s)=true:=fun s hs=>by
    obtain⟨h1,h2⟩:=List.mem_filter.1 hs
    obtain⟨k,_,rfl⟩:=List.mem_map.1 h1
    rcases hone' k with e|e
    ·rw[e,Qbz] at h2;cases h2
    ·exact e.1
   have hP:(((QjI ks).map one).filter (fun l=>!(l==ByteArray.empty))).Pairwise fun s s'=>kfB s≠kfB s':=by
    refine List.pairwise_filter.2 (List.pairwise_map.2 ((Mg.nubB_nodup ks).imp fun {k k'} hk h1 h2=>?_))
    rcases hone' k with e|e
    ·rw[e,Qbz] at h1;cases h1
    ·rcases hone' k' with e'|e'
     ·rw[e',Qbz] at h2;cases h2
     ·rw[e.2,e'.2];exact hk
   generalize ((QjI ks).map one).filter (fun l=>!(l==ByteArray.empty))=Y at hY hP h16⊢
   have eY:Y=(Y.map tB).map tS:=back Y
   refine⟨Qrf (Y.map tB),by rw[←QsT,←eY],Qp3 ?_ ?_ ?_⟩
   ·rw[Mg.srtB_len] at h16
    rw[List.length_map]
    omega
   ·intro l hl
    obtain⟨s,hs,rfl⟩:=List.mem_map.1 hl
    exact hY s hs
   ·exact List.pairwise_map.2 (hP.imp fun h e=>h (congrArg tS e))
theorem Qur {f l t:List Bs} (hf:ZI f=0) (hl:ZI l=0) (ht:ZI t=0) (nf:f≠ []) (nl:l≠ []) (nt:t≠ []):QaO (f.map tS) (l.map tS) (t.map tS)=some (mg f l t):=by
 have key:∀xs:List Bs,ZI xs=0→QiQ (xs.map tS)=some (kk xs):=fun xs h=>QoZ (Qdz h) fun y _=>by have:=QpY y;omega
 have sz:∀xs:List Bs,ZI xs=0→∀x∈xs.map tS,x.size≤1000000:=fun xs h x hx=>by
  obtain⟨y,hy,rfl⟩:=List.mem_map.1 hx
  rw[QaA]
  exact Qdz h y hy
 have hg:(0<(f.map tS).length∧0<(l.map tS).length∧0<(t.map tS).length)∧((f.map tS).length≤16∧(l.map tS).length≤16∧(t.map tS).length≤16)∧∀x∈f.map tS++l.map tS++t.map tS,x.size≤1000000:=by
  refine⟨?_,?_,?_⟩
  ·simp only[List.length_map]
   exact⟨List.length_pos_iff.2 nf,List.length_pos_iff.2 nl,List.length_pos_iff.2 nt⟩
  ·simp only[List.length_map]
   exact⟨Zg hf,Zg hl,Zg ht⟩
  ·intro x hx
   rcases List.mem_append.1 hx with hx|hx
   ·rcases List.mem_append.1 hx with hx|hx
    ·exact sz f hf x hx
    ·exact sz l hl x hx
   ·exact sz t ht x hx
 unfold QaO
 rw[QfR hf,Qa,Qd rfl,QfR hl,Qa,Qd rfl,QfR ht,Qa,Qd rfl,key f hf,Qa,key l hl,Qa,key t ht,Qa,Qd hg]
 rfl
section
variable {E lv:Int} {F f l:List Bs} {cs:List Qyf} {o:Qyi} {u:Bt} {i:Nat} {a:Bs}
abbrev evR (u:Bt):Qyk:=⟨4,u,ByteArray.empty,0⟩
theorem Qxg (s:Qyj) (u:Bt):QA s (evR u)=bd (Zz s u) fun x7=>some (x7.1,{s with Box:={s.Box with Cands:=x7.2.Box.Cands}}):=by
 unfold QA
 rw[if_neg (by simp),if_neg (by simp),Qa,if_neg (by simp),if_pos (by simp)]
theorem Qq7 (h:Whole E lv F cs) (hc:CandAt cs u i) (hfr:(cs.getD i default).From=f.map tS) (hl:(cs.getD i default).Lines=l.map tS) (hf:ZI f=0) (hn:ZI l=0) (nf:f≠ []) (nl:l≠ []):
  Post (Zz (sto E F cs lv o E J0) u) fun r=>r.1=0→∃M,mg f l F=(M.map tS,0)∧ZI M=0∧r.2=sto E F (cs.set i ⟨u,E,F.map tS,M.map tS⟩) lv o E J0:=by
 have h3:=h.cands.few
 have hlt:=hc.lt
 have hF:=Zg (Zc h.lines)
 unfold Zz
 have hB:(sto E F cs lv o E J0).Box=⟨E,F.map tS,0,[],cs⟩:=rfl
 rw[hB,Qk8 i (.inl i) (fun k hk=>?_) ?_,Qa]
 ·dsimp only
  rw[hfr,hl,Qur hf hn (Zc h.lines) nf nl (QmR h.lines),Qa]
  rcases Qwk hf hn (Zc h.lines) with ⟨M,e,hM⟩|e|e
  ·rw[e,if_neg (by simp),if_neg (by simp),Qjo (by rw[List.length_map];omega),Qa,Qa,Qa,Qa]
   refine .ret fun _=>⟨M,rfl,hM,?_⟩
   have hs:∀x:Qyf,(cs.set i x).getD i default=x:=fun x=>by simp[List.getD_eq_getElem?_getD,hlt]
   dsimp only
   simp only[hs,List.set_set,hc.user]
   rfl
  ·rw[e,if_pos (by decide)]
   exact .ret fun e=>by simp at e
  ·rw[e,if_neg (by decide),if_pos (by decide)]
   exact .ret fun e=>by simp at e
 ·have hg:(0:Int)≤(i:Int)∧(i:Int)<((cs.length:Nat):Int):=by omega
  dsimp only
  rw[if_pos (decide_eq_true hg.2),Qd hg,Int.toNat_natCast,hc.user,if_pos (Qbz u),Qd hg]
 ·have hg:(0:Int)≤(k:Int)∧(k:Int)<((cs.length:Nat):Int):=by omega
  dsimp only
  rw[if_pos (decide_eq_true hg.2),Qd hg,Int.toNat_natCast,Qgp (hc.first k hk),if_neg (by decide),Qm (n:=cs.length) (by omega) (by omega)]
theorem Qq8 (h:Whole E lv F cs) (ho:SlotOk E o) (hc:CandAt cs u i) (hfr:(cs.getD i default).From=f.map tS) (hl:(cs.getD i default).Lines=l.map tS) (hf:ZI f=0) (hn:ZI l=0) (nf:f≠ []) (nl:l≠ []):
  (∃c,c≠0∧Qp (sto E F cs lv o E J0) (evR u)=some (sto E F cs lv o E J0,c))∨ ∃M,mg f l F=(M.map tS,0)∧ZI M=0∧Qp (sto E F cs lv o E J0) (evR u)=some (sto E F (cs.set i ⟨u,E,F.map tS,M.map tS⟩) lv o E J0,0):=by
 obtain⟨hok,hfw⟩:=h.idle ho
 obtain⟨r,e,hr⟩:=Qq7 (o:=o) h hc hfr hl hf hn nf nl
 have hd:=Qta (ev:=evR u) hok hfw rfl (show(1:Int)≤4∧(4:Int)≤9 by decide) (by rw[Qxg,e,Qa])
 by_cases h0:r.1=0
 ·obtain⟨M,e1,e2,e3⟩:=hr h0
  refine .inr ⟨M,e1,e2,?_⟩
  rw[hd,if_pos h0,h0,e3]
  rfl
 ·refine .inl ⟨r.1,h0,?_⟩
  rw[hd,if_neg h0]
theorem QkA {β:Type} {P:Nat⊕Unit→Option β} (h3:cs.length≤3) (hno:∀c∈cs,c.User≠u):bd (lp (σ:=Int) (β:=(Nat⊕Unit)) (fun s1=>
  (if(decide (s1<((cs.length:Nat):Int)))=true then
  gd ((0:Int)≤s1∧s1<((cs.length:Nat):Int))<|
  (if(((cs.getD s1.toNat default).User)==u)=true then
  gd ((0:Int)≤s1∧s1<((cs.length:Nat):Int))<|
  some (.inr (.inl s1.toNat))
  else
  some (.inl (IntKind.i64.wrap (s1+1))))
  else
  some (.inr (.inr ())))) 0) P=P (.inr ()):=by
 rw[Qk8 cs.length (.inr ()) (fun k hk=>?_) ?_,Qa]
 ·rw[if_neg (by simp)]
 ·have hg:(0:Int)≤(k:Int)∧(k:Int)<((cs.length:Nat):Int):=by omega
  rw[if_pos (decide_eq_true hg.2),Qd hg,Int.toNat_natCast,Qgp (hno _ (JP hk)),if_neg (by decide),Qm hk (by omega)]
theorem Qxh (h:Whole E lv F cs) (ho:SlotOk E o) (hno:∀c∈cs,c.User≠u):Qp (sto E F cs lv o E J0) (evE u a)=some (sto E F cs lv o E J0,3)∧Qp (sto E F cs lv o E J0) (evR u)=some (sto E F cs lv o E J0,3):=by
 obtain⟨hok,hfw⟩:=h.idle ho
 have h3:=h.cands.few
 have e1:ZY (sto E F cs lv o E J0) (evE u a)=some (3,sto E F cs lv o E J0):=QkA (cs:=cs) (u:=u) h3 hno
 have e2:Zz (sto E F cs lv o E J0) u=some (3,sto E F cs lv o E J0):=QkA (cs:=cs) (u:=u) h3 hno
 have d1:=Qta (ev:=evE u a) hok hfw rfl (show(1:Int)≤2∧(2:Int)≤9 by decide) (by rw[Qxe,e1,Qa])
 have d2:=Qta (ev:=evR u) hok hfw rfl (show(1:Int)≤4∧(4:Int)≤9 by decide) (by rw[Qxg,e2,Qa])
 rw[if_neg (by simp)] at d1 d2
 exact⟨d1,d2⟩
end
set_option maxRecDepth 100000 in
theorem Qn3 {n:Int} (h:0≤n∧n≤255):∃k,J3 n=some k:=by
 unfold J3 Qcs;rw[if_neg (by simp;omega),Qa];dsimp only;rw[if_neg (by simp;omega),Qa];dsimp only;rw[if_neg (by simp;omega),QuT h.1 h.2,Qd ⟨h.1,by
  have e:∀a:Array UInt8,(⟨a⟩:Bt).size=a.size:=fun _=>rfl;rw[e,List.size_toArray];simp only[List.length_cons,List.length_nil];omega⟩,Qa]
 exact⟨_,rfl⟩
theorem QxV:∃k,J3 (IntKind.u64.wrap (1:Int))=some k:=Qn3 (by decide)
theorem QxW:∃k,J3 (IntKind.u64.wrap (2:Int))=some k:=Qn3 (by decide)
theorem Qya (c:Qyf):Qk [c] 0 1=some [c]:=by
 unfold Qk;rw[ZN (b:=([c],1)) (by dsimp only;rw[if_neg (show ¬decide (IntKind.i64.wrap ((0:Int)+1)<1)=true by decide)];rfl),Qa];exact Qd rfl
theorem Qyb {a b:Qyf} (h:bsl b.User a.User=false):Qk [a,b] 0 2=some [a,b]:=by
 unfold Qk;rw[J5 (s':=([a,b],(2:Int))),ZN (b:=([a,b],2)) (by dsimp only;rw[if_neg (by simp)];rfl),Qa];exact Qd rfl;dsimp only;rw[if_pos (show decide (IntKind.i64.wrap ((0:Int)+1)<2)=true by decide),ZN (b:=(2,[a,b])),Qa]
 ·rfl
 ·dsimp only;have e0:IntKind.i64.wrap ((0:Int)+1)=1:=rfl;have e1:IntKind.i64.wrap ((1:Int) -1)=0:=rfl;rw[e0,e1,Qd (by intro _;exact⟨by decide,by show(1:Int)<((2:Nat):Int);decide⟩),Qd (by intro _;exact⟨by decide,by show(0:Int)<((2:Nat):Int);decide⟩),Ql (show decide ((1:Int)>0)=true by decide)];show bd (Jy b a) _=_;unfold Jy;rw[h,if_neg (by decide),Qa,if_neg (show ¬(decide ((1:Int)>0)&&decide ((1:Int)<0))=true by decide)]
  rfl
theorem Qs2 {cs:List Qyf} {n:Int} (hn:n=((cs.length:Nat):Int)) (h12:cs.length≤12) (hl:∃k,J3 (IntKind.u64.wrap n)=some k) (hi:Qk cs 0 n=some cs):Qi cs=some cs:=by
 unfold Qi QR;obtain⟨k,hl⟩:=hl;rw[←hn,hl,Qa,ZN (b:=cs),Qa,Qa,Qd rfl];rw[if_pos (by rw[QC (by omega) (by omega)];exact decide_eq_true (by omega)),hi,Qa,Qd rfl]
theorem Qxi (c:Qyf):Qi [c]=some [c]:=Qs2 (n:=1) rfl (by simp) QxV (Qya c)
theorem QxX {a b:Qyf} (h:bsl b.User a.User=false):Qi [a,b]=some [a,b]:=Qs2 (n:=2) rfl (by simp) QxW (Qyb h)
section
variable {E lv:Int} {F:List Bs} {cs:List Qyf} {o:Qyi} {u:Bt}
abbrev evB (u:Bt):Qyk:=⟨1,u,ByteArray.empty,0⟩
def Qim (u:Bt) (E:Int) (F:List Bs):Qyf:=⟨u,E,F.map tS,F.map tS⟩
theorem Qwl (h:Whole E lv F cs) (h3:cs.length<3) (hno:∀c∈cs,c.User≠u) (hs:Qi (cs++[Qim u E F])=some (cs++[Qim u E F])):
  Post (Jf (sto E F cs lv o E J0) u) fun r=>r.1=0→r.2=sto E F (cs++[Qim u E F]) lv o E J0:=by
 have hF:=Zg (Zc h.lines);unfold Jf;have hB:(sto E F cs lv o E J0).Box=⟨E,F.map tS,0,[],cs⟩:=rfl;rw[hB];refine .bd (QlY (Zc h.lines) u) fun x _=>.ite (fun _=>.ret fun e=>by simp at e) fun _=>?_;refine .bd (Q:=fun y=>y=.inl ()) ?_ ?_
 ·refine⟨.inl (),?_,rfl⟩;refine(QkA (cs:=cs) (u:=u) (by omega) hno).trans ?_;dsimp only;rw[if_neg (by simp;omega)]
 ·rintro _ rfl;dsimp only;have hfil:cs.filter (fun c=>!(c.User==u))=cs:=List.filter_eq_self.2 fun c hc=>by rw[Qgp (hno c hc)];rfl
  rw[QlX (by dsimp only[sto];omega),Qa,Qjo (by rw[List.length_map];omega),Qa,Qa];dsimp only;rw[show(sto E F cs lv o E J0).Box.Cands=cs from rfl,hfil,Qd (by rw[List.length_singleton];omega)];refine .bd ⟨_,hs,rfl⟩ fun y hy=>?_;subst hy;refine .gd rfl (.ret fun _=>rfl)
theorem QxY (s:Qyj) (u:Bt):QA s (evB u)=bd (Jf s u) fun x7=>some (x7.1,{s with Box:={s.Box with Cands:=x7.2.Box.Cands}}):=by
 unfold QA;rw[if_pos (by simp)]
theorem QkB (h:Whole E lv F cs) (ho:SlotOk E o) (h3:cs.length<3) (hno:∀c∈cs,c.User≠u) (hs:Qi (cs++[Qim u E F])=some (cs++[Qim u E F])):
  ∃c cs',Qp (sto E F cs lv o E J0) (evB u)=some (sto E F cs' lv o E J0,c)∧(cs'=cs∨cs'=cs++[Qim u E F]):=by
 obtain⟨hok,hf⟩:=h.idle ho;obtain⟨r,e,hr⟩:=Qwl (o:=o) h h3 hno hs;have hd:=Qta (ev:=evB u) hok hf rfl (show(1:Int)≤1∧(1:Int)≤9 by decide) (by rw[QxY,e,Qa])
 by_cases h0:r.1=0
 ·refine⟨r.1,_,?_,.inr rfl⟩;rw[hd,if_pos h0,hr h0]
  rfl
 ·refine⟨r.1,_,?_,.inl rfl⟩;rw[hd,if_neg h0]
end
abbrev Qp5:Bs:=[97,110,110]
abbrev Qo8:Bs:=[98,111,98]
theorem Qs3 {E:Int} {F:List Bs} {u:Bs} (hE:0≤E) (hF:ZI F=0) (hu:Qdd u=true):CandOk E (Qim (tS u) E F):=⟨⟨u,rfl,hu⟩,⟨hE,Int.le_refl _⟩,⟨F,rfl,hF⟩,⟨F,rfl,hF⟩⟩
theorem Qus {F:List Bs} (hF:QaD F=0) {o:Qyi} (ho:SlotOk 0 o):∃c1 c2 s1 cs,Qp (sto 0 F [] 0 o 0 J0) (evB (tS Qp5))=some (s1,c1)∧Qp s1 (evB (tS Qo8))=some (sto 0 F cs 0 o 0 J0,c2)∧Whole 0 0 F cs∧cs.length≤2∧(∀c∈cs,c=Qim (tS Qp5) 0 F∨c=Qim (tS Qo8) 0 F):=by
 have hn:=Zc hF;have W0:Whole 0 0 F []:=⟨.inl rfl,by decide,by decide,hF,⟨by simp,fun c hc=>(by cases hc),fun i hi=>absurd hi (by simp)⟩⟩;have okA:=Qs3 (E:=0) (Int.le_refl _) hn (show Qdd Qp5=true by decide);have okB:=Qs3 (E:=0) (Int.le_refl _) hn (show Qdd Qo8=true by decide);have one:∀c,CandOk 0 c→Whole 0 0 F [c]:=fun c hc=>⟨.inl rfl,by decide,by decide,hF,⟨by simp,fun x hx=>(by rw[List.mem_singleton.1 hx];exact hc),fun i hi=>absurd hi (by simp)⟩⟩;have hab:bsl (tS Qo8) (tS Qp5)=false:=by rw[Qp2];decide
 have hba:bsl (tS Qp5) (tS Qo8)=true:=by rw[Qp2];decide
 have hne:tS Qp5≠tS Qo8:=fun e=>absurd (QlJ e) (by decide);have two:Whole 0 0 F [Qim (tS Qp5) 0 F,Qim (tS Qo8) 0 F]:=⟨.inl rfl,by decide,by decide,hF,⟨by simp,fun x hx=>(by
  rcases List.mem_cons.1 hx with rfl|hx
  ·exact okA
  ·rw[List.mem_singleton.1 hx];exact okB),fun i hi=>(by
  have:i=0:=by simp at hi;omega
  subst this;exact hba)⟩⟩
 obtain⟨c1,cs1,e1,h1⟩:=QkB (u:=tS Qp5) W0 ho (by simp) (fun c hc=>by cases hc) (Qxi _);rcases h1 with rfl|rfl
 ·obtain⟨c2,cs2,e2,h2⟩:=QkB (u:=tS Qo8) W0 ho (by simp) (fun c hc=>by cases hc) (Qxi _);rcases h2 with rfl|rfl
  ·exact⟨c1,c2,_,_,e1,e2,W0,by simp,fun c hc=>by cases hc⟩
  ·exact⟨c1,c2,_,_,e1,e2,one _ okB,by simp,fun c hc=>.inr (List.mem_singleton.1 hc)⟩
 ·obtain⟨c2,cs2,e2,h2⟩:=QkB (u:=tS Qo8) (one _ okA) ho (by simp) (fun c hc=>by rw[List.mem_singleton.1 hc];exact hne) (QxX hab);rcases h2 with rfl|rfl
  ·exact⟨c1,c2,_,_,e1,e2,one _ okA,by simp,fun c hc=>.inl (List.mem_singleton.1 hc)⟩
  ·refine⟨c1,c2,_,_,e1,e2,two,by simp,fun c hc=>?_⟩;rcases List.mem_cons.1 hc with rfl|hc
   ·exact .inl rfl
   ·exact .inr (List.mem_singleton.1 hc)
def fd (cs:List Qyf) (u:Bt):Option Qyf:=cs.find? fun c=>c.User==u
theorem QxZ {cs:List Qyf} {u:Bt} {c:Qyf} (h:fd cs u=some c):∃i,CandAt cs u i∧cs.getD i default=c:=by
 obtain⟨h1,i,hi,h2,h3⟩:=List.find?_eq_some_iff_getElem.1 h;have e:cs.getD i default=c:=by rw[←h2];simp[List.getD_eq_getElem?_getD,hi]
 refine⟨i,⟨hi,by rw[e];exact Nc.bq.1 h1,fun k hk e2=>?_⟩,e⟩;have:=h3 k hk;have e3:cs.getD k default=cs[k]:=by simp[List.getD_eq_getElem?_getD,show k<cs.length by omega]
 rw[e3] at e2;rw[e2,Qbz] at this
 cases this
theorem Qwm {cs:List Qyf} {u:Bt} (h:fd cs u=none):∀c∈cs,c.User≠u:=fun c hc e=>by
 have:=List.find?_eq_none.1 h c hc;rw[e,Qbz] at this;exact this rfl
theorem Qp6 {p:Qyf→Bool} {c':Qyf} (h2:p c'=false):∀ {cs:List Qyf} {i:Nat},i<cs.length→p (cs.getD i default)=false→(cs.set i c').find? p=cs.find? p
 |[],_,h,_=>absurd h (by simp)
 |x::r,0,_,h1=>by
  have h1:p x=false:=h1;rw[List.set_cons_zero,List.find?_cons_of_neg (by rw[h2];decide),List.find?_cons_of_neg (by rw[h1];decide)]
 |x::r,i+1,h,h1=>by
  have ih:=Qp6 h2 (cs:=r) (i:=i) (by simpa using h) (by simpa using h1);rw[List.set_cons_succ,List.find?_cons,List.find?_cons,ih]
theorem Qu1 {cs:List Qyf} {u v:Bt} {i:Nat} {c':Qyf} (hc:CandAt cs u i) (hu:c'.User=u) (hv:v≠u):fd (cs.set i c') v=fd cs v:=
 Qp6 (Qgp (by rw[hu];exact hv.symm)) hc.lt (Qgp (by rw[hc.user];exact hv.symm))
theorem Qs4 {cs:List Qyf} {u v:Bt} (hv:v≠u):fd (cs.filter fun c=>!(c.User==u)) v=fd cs v:=by
 unfold fd;rw[List.find?_filter]
 congr 1
 funext c
 by_cases h:c.User=v
 ·rw[h,Qbz,Qgp hv];rfl
 ·rw[Qgp h];simp
theorem Qjr {cs:List Qyf} {u:Bt} {i:Nat} {c':Qyf} (hc:CandAt cs u i) (hu:c'.User=u) (j:Nat):((cs.set i c').getD j default).User=(cs.getD j default).User:=by
 by_cases h:i=j
 ·subst h;have:=hc.lt;have e:(cs.set i c').getD i default=c':=by simp[List.getD_eq_getElem?_getD,this]
  rw[e,hu,hc.user]
 ·have e:(cs.set i c').getD j default=cs.getD j default:=by simp[List.getD_eq_getElem?_getD,List.getElem?_set_ne h]
  rw[e]
theorem Qu2 {cs:List Qyf} {u:Bt} {i:Nat} {c':Qyf} (hc:CandAt cs u i) (hu:c'.User=u):CandAt (cs.set i c') u i∧(cs.set i c').getD i default=c':=by
 have:=hc.lt;refine⟨⟨by rw[List.length_set];exact this,by rw[Qjr hc hu,hc.user],fun k hk=>by rw[Qjr hc hu];exact hc.first k hk⟩,by simp[List.getD_eq_getElem?_getD,this]⟩
theorem Qu3 {E:Int} {cs:List Qyf} {u:Bt} {i:Nat} {c':Qyf} (h:CandsOk E cs) (hc:CandAt cs u i) (hu:c'.User=u) (hk:CandOk E c'):CandsOk E (cs.set i c'):=by
 refine⟨by rw[List.length_set];exact h.few,fun x hx=>?_,fun j hj=>?_⟩
 ·rcases List.mem_or_eq_of_mem_set hx with hx|rfl
  ·exact h.each x hx
  ·exact hk
 ·rw[Qjr hc hu,Qjr hc hu];rw[List.length_set] at hj;exact h.rise j hj
theorem Qs5 {E:Int} {cs:List Qyf} {u:Bt} {i:Nat} (h:CandsOk E cs) (h2:cs.length≤2) (hc:CandAt cs u i):CandsOk E (cs.filter fun c=>!(c.User==u))∧(cs.filter fun c=>!(c.User==u)).length≤1:=by
 have hl:(cs.filter fun c=>!(c.User==u)).length≤1:=by
  have:(cs.filter fun c=>!(c.User==u)).length<cs.length:=by
   rw[List.length_filter_lt_length_iff_exists];exact⟨_,JP hc.lt,by rw[hc.user,Qbz];decide⟩
  omega
 exact⟨⟨by omega,fun x hx=>h.each x (List.mem_filter.1 hx).1,fun j hj=>absurd hj (by omega)⟩,hl⟩
section
variable {E lv:Int} {F:List Bs} {cs:List Qyf} {o:Qyi} {u:Bt} {a:Bs}
theorem wcc (h:Whole E lv F cs) (h2:cs.length≤2) (he:E+1≤999990) (ho:SlotOk E o) (ha:a.length≤1000000)
  (hfd:∀c,fd cs u=some c→∃b f l,c=⟨u,b,f.map tS,l.map tS⟩∧ZI f=0∧ZI l=0∧f≠ []∧l≠ []):
  ∃E' F' cs' lv' o' c,Zt (sto E F cs lv o E J0) u (tS a)=some (sto E' F' cs' lv' o' E' J0,c)∧Whole E' lv' F' cs'∧SlotOk E' o'∧cs'.length≤2∧E'≤E+1∧(∀v,v≠u→fd cs' v=fd cs v)∧
   (c=0→E'=E+1∧∃b f l,fd cs u=some ⟨u,b,f.map tS,l.map tS⟩∧mg f (eL l a) F=(F'.map tS,0)):=by
 unfold Zt
 cases hf:fd cs u with
 |none=>
  obtain⟨d1,d2⟩:=Qxh (a:=a) h ho (Qwm hf);rw[show Qp (sto E F cs lv o E J0) ⟨2,u,tS a,0⟩=_ from d1,Qa];dsimp only;rw[show Qp (sto E F cs lv o E J0) ⟨4,u,ByteArray.empty,0⟩=_ from d2,Qa];dsimp only;rw[if_pos (by decide)];exact⟨E,F,cs,lv,o,3,rfl,h,ho,h2,by omega,fun _ _=>rfl,fun e=>absurd e (by decide)⟩
 |some c=>
  obtain⟨b,f,l,rfl,nf,nl,ef,el⟩:=hfd c hf;obtain⟨i,hc,hi⟩:=QxZ hf;have okc:=h.cands.each _ (JP hc.lt);rw[hi] at okc;obtain⟨c1,d1⟩:=Quo (l:=l) h ho hc (by rw[hi]) nl ha;have nE:=Qo7 nl a;have neE:=QxU el a;have hse:Qwy cs i (eL l a)=cs.set i ⟨u,b,f.map tS,(eL l a).map tS⟩:=by unfold Qwy;rw[hi]
  rw[hse] at d1;have hk1:CandOk E ⟨u,b,f.map tS,(eL l a).map tS⟩:=⟨okc.name,okc.base,⟨f,rfl,nf⟩,⟨_,rfl,nE⟩⟩;have W1:Whole E lv F (cs.set i ⟨u,b,f.map tS,(eL l a).map tS⟩):=⟨h.lv,h.e0,h.e1,h.lines,Qu3 h.cands hc rfl hk1⟩;obtain⟨hc1,hi1⟩:=Qu2 (c':=⟨u,b,f.map tS,(eL l a).map tS⟩) hc rfl;have f1:∀v,v≠u→fd (cs.set i ⟨u,b,f.map tS,(eL l a).map tS⟩) v=fd cs v:=fun v hv=>Qu1 hc rfl hv;have l1:(cs.set i ⟨u,b,f.map tS,(eL l a).map tS⟩).length≤2:=by rw[List.length_set];exact h2
  generalize cs.set i ⟨u,b,f.map tS,(eL l a).map tS⟩=cs1 at d1 W1 hc1 hi1 f1 l1;rw[show Qp (sto E F cs lv o E J0) ⟨2,u,tS a,0⟩=_ from d1,Qa];dsimp only;rcases Qq8 (f:=f) (l:=eL l a) W1 ho hc1 (by rw[hi1]) (by rw[hi1]) nf nE ef neE with ⟨c2,hc2,d2⟩|⟨M,eM,nM,d2⟩
  ·rw[show Qp (sto E F cs1 lv o E J0) ⟨4,u,ByteArray.empty,0⟩=_ from d2,Qa];dsimp only;rw[if_pos (by simpa using hc2)];exact⟨E,F,cs1,lv,o,c2,rfl,W1,ho,l1,by omega,f1,fun e=>absurd e hc2⟩
  ·rw[show Qp (sto E F cs1 lv o E J0) ⟨4,u,ByteArray.empty,0⟩=_ from d2,Qa];dsimp only;rw[if_neg (by decide)];have hk2:CandOk E ⟨u,E,F.map tS,M.map tS⟩:=⟨okc.name,⟨h.e0,Int.le_refl _⟩,⟨F,rfl,Zc h.lines⟩,⟨_,rfl,nM⟩⟩;have W2:Whole E lv F (cs1.set i ⟨u,E,F.map tS,M.map tS⟩):=⟨h.lv,h.e0,h.e1,h.lines,Qu3 W1.cands hc1 rfl hk2⟩;obtain⟨hc2,hi2⟩:=Qu2 (c':=⟨u,E,F.map tS,M.map tS⟩) hc1 rfl;have f2:∀v,v≠u→fd (cs1.set i ⟨u,E,F.map tS,M.map tS⟩) v=fd cs v:=fun v hv=>by rw[Qu1 hc1 rfl hv,f1 v hv]
   have l2:(cs1.set i ⟨u,E,F.map tS,M.map tS⟩).length≤2:=by rw[List.length_set];exact l1
   generalize cs1.set i ⟨u,E,F.map tS,M.map tS⟩=cs2 at d2 W2 hc2 hi2 f2 l2;obtain⟨c3,d3,hchk⟩:=Qq6 (L:=M) W2 ho hc2 (by rw[hi2]) nM;rw[show Qp (sto E F cs2 lv o E J0) ⟨5,u,ByteArray.empty,0⟩=_ from d3,Qa];dsimp only
   by_cases h0:c3=0
   ·have hM:=hchk h0;obtain⟨okf,lf⟩:=Qs5 W2.cands l2 hc2;have W3:Whole E lv F (cs2.filter fun c=>!(c.User==u)):=⟨h.lv,h.e0,h.e1,h.lines,okf⟩;rw[if_pos h0,show(⟨8,ByteArray.empty,ByteArray.empty,0⟩:Qyk)=evW from rfl,Qo5 W3 hM he ho,Qa];exact⟨E+1,M,_,1-lv,_,c3,rfl,W3.next hM he,.whole E false F h.e0 (by omega) h.lines,by omega,Int.le_refl _,fun v hv=>by rw[Qs4 hv,f2 v hv],fun _=>⟨rfl,b,f,l,rfl,eM⟩⟩
   ·rw[if_neg h0,show(⟨8,ByteArray.empty,ByteArray.empty,0⟩:Qyk)=evW from rfl,show Ja (sto E F cs2 lv o E J0) evW 19=_ from Qkz W2 ho 19 (by omega),Qa];exact⟨E,F,cs2,lv,o,c3,rfl,W2,ho,l2,by omega,f2,fun e=>absurd e h0⟩
end
theorem Qq9 {b:List Int} (hb:b.length≤1048576) (h:∀x∈b,Qoy x):Post (Qcz b) fun r=>Rq r.b r.p 0:=by
 unfold Qcz;refine .ite (fun hc=>.gd (by have:=of_decide_eq_true hc;omega) (.ret ?_)) fun hc=>.ret ?_
 ·exact⟨fun x hx=>h x (List.mem_of_mem_take hx),by dsimp only;rw[List.length_take];omega,Int.le_refl _,Int.le_refl _⟩
 ·have:¬(((b.length:Nat):Int)>2000):=fun e=>hc (decide_eq_true e);exact⟨h,by dsimp only;omega,Int.le_refl _,Int.le_refl _⟩
theorem Qxj {s:Bt} (h:s.size≤1000):Sm [s] 1:=⟨by simp,fun x hx=>by rw[List.mem_singleton.1 hx];omega⟩
theorem Qra {b:List Int} {p k:Int} (h:Rq b p k) (hk:k≤1000):Post (QcJ ⟨b,p⟩) fun x=>Sm x.1 60∧Rq b x.2.p (k+600):=by
 unfold QcJ;have s0:Sm [(⟨#[117,115,101,114,32,97,110,110,32,97,108,108]⟩:Bt)] 1:=Qxj (by rw[Qks,List.size_toArray];simp only[List.length_cons,List.length_nil];omega);refine .bd (Q:=fun x=>Sm x.2 2∧Rq b x.1 (k+1)) (.bd (pk5 h (by omega) (by omega)) ?_) ?_
 ·rintro x ⟨_,hx⟩;refine .ite (fun _=>.bd (Qjn s0 (by omega) (by rw[Qks,List.size_toArray];simp only[List.length_cons,List.length_nil];omega)) fun ls hs=>.ret ⟨hs,hx⟩) fun _=>.ret ⟨s0.mono (by omega),hx⟩
 ·rintro⟨p1,l1⟩ ⟨s1,h1⟩;dsimp only at s1 h1⊢;refine .bd (Q:=fun x=>Sm x.2 3∧Rq b x.1 (k+3)) (.bd (pk5 h1 (by omega) (by omega)) ?_) ?_
  ·rintro x ⟨_,hx⟩;refine .ite (fun _=>.bd (of5 hx (by omega) (by kernel_rfl)) ?_) fun _=>.ret ⟨s1.mono (by omega),hx.mono (by omega)⟩;rintro y ⟨hy,hr⟩;refine .gd (by simp only[Qks,List.size_toArray,List.length_cons,List.length_nil];omega) (.bd (Qjn s1 (by omega) (by simp only[ByteArray.size_append,Qks,List.size_toArray,List.length_cons,List.length_nil];omega)) fun ls hs=>.ret ⟨hs,hr.mono (by omega)⟩)
  ·rintro⟨p2,l2⟩ ⟨s2,h2⟩;dsimp only at s2 h2⊢;refine .bd (Q:=fun x=>Sm x.2 4∧Rq b x.1 (k+4)) (.bd (pk5 h2 (by omega) (by omega)) ?_) ?_
   ·rintro x ⟨_,hx⟩;refine .ite (fun _=>.bd (Qjn s2 (by omega) (by rw[Qks,List.size_toArray];simp only[List.length_cons,List.length_nil];omega)) fun ls hs=>.ret ⟨hs,hx.mono (by omega)⟩) fun _=>.ret ⟨s2.mono (by omega),hx.mono (by omega)⟩
   ·rintro⟨p3,l3⟩ ⟨s3,h3⟩;dsimp only at s3 h3⊢;refine .bd (pk5 h3 (by omega) (by omega)) ?_;rintro⟨n,r4⟩ ⟨⟨hn0,hn1⟩,hr4⟩;dsimp only at hn0 hn1 hr4⊢;refine .bd (Q:=fun x=>(0≤x.2∧x.2≤40)∧Rq b x.1 (k+6)) (.bd (pk5 hr4 (by omega) (by omega)) ?_) ?_
    ·rintro x ⟨_,hx⟩;refine .ite (fun _=>.ret ⟨⟨by dsimp only;omega,by dsimp only;omega⟩,hx.mono (by omega)⟩) fun _=>.ret ⟨⟨hn0,by dsimp only;omega⟩,hx.mono (by omega)⟩
    ·rintro⟨p5,m⟩ ⟨⟨hm0,hm1⟩,h5⟩;dsimp only at hm0 hm1 h5⊢;refine .bd (Q:=fun x=>Sm x.1 60∧Rq b x.2 (k+600)) (.lp (fun s=>∃i:Nat,s.2.2=(i:Int)∧i≤40∧Sm s.2.1 (4+(40-i))∧Rq b s.1 (k+6+12*((40:Int) -i))) (fun s=>s.2.2.toNat) ⟨m.toNat,by dsimp only;omega,by omega,s3.mono (by omega),h5.mono (by omega)⟩ ?_) ?_
     ·rintro⟨p6,ls6,z⟩ ⟨i,e,hi,hs6,hr6⟩;dsimp only at e hs6 hr6⊢;subst e;refine .ite (fun hc=>?_) fun _=>.ret ⟨hs6.mono (by omega),hr6.mono (by omega)⟩;have hc:=of_decide_eq_true hc;have ew:IntKind.i64.wrap ((i:Int) -1)=((i-1:Nat):Int):=(QC (by omega) (by omega)).trans (by omega);refine .bd (Qkt hr6 (by omega)) ?_;rintro x ⟨hx,hr7⟩;refine .bd (Qjn hs6 (by omega) (by omega)) fun ls7 hs7=>.ret ⟨⟨i-1,ew,by omega,hs7.mono (by omega),hr7.mono (by omega)⟩,?_⟩;dsimp only;rw[ew];omega
     ·rintro x ⟨h6,h7⟩;exact .ret ⟨h6,h7⟩
theorem Qn4 {a:List Int} (ha:a.length≤1048576) (h:∀x∈a,Qoy x):Post (QaX a) fun x=>Sm x.1 80∧x.2.1.size≤1000∧x.2.2.size≤1000:=by
 unfold QaX;refine .bd (Qq9 ha h) ?_;rintro⟨b,p⟩ hq;refine .bd (Qra hq (by omega)) ?_;rintro⟨ls,r⟩ ⟨hs,hr⟩;dsimp only at hs hr⊢;refine .bd (Q:=fun x=>Sm x 60) (.ite (fun _=>.ret ⟨by simp,fun s hs=>?_⟩) fun _=>.ret hs) fun l3 h3=>?_
 ·rcases List.mem_cons.1 hs with rfl|hs
  ·rw[Qks,List.size_toArray];simp only[List.length_cons,List.length_nil];omega
  ·rw[List.mem_singleton.1 hs,Qks,List.size_toArray];simp only[List.length_cons,List.length_nil];omega
 ·refine .bd (QlU h3 (by omega)) fun k hk=>.bd (Q:=fun x=>Sm x 60) (.ite (fun hc=>.bd (QiH h3 (by omega) (of_decide_eq_true hc) hk) fun y hy=>.ret hy) fun _=>.ret h3) fun l7 h7=>.bd (QpZ h7 (by omega) (by rw[Qks,List.size_toArray];simp only[List.length_cons,List.length_nil];omega)) fun l11 h11=>?_;refine .bd (Qkt hr (by omega)) ?_;rintro x ⟨hx,hr2⟩;refine .bd (Qkt hr2 (by omega)) ?_;rintro y ⟨hy,_⟩;have kx:=Qjm (s:=x.1) (by omega);have ky:=Qjm (s:=y.1) (by omega);refine .bd kx fun _ _=>.bd ky fun _ _=>.bd (.gcall (Q:=fun _=>True) (fun _=>kx) fun _=>trivial) fun _ _=>.bd (.gcall (Q:=fun _=>True) (fun _=>ky) fun _=>trivial) fun _ _=>.bd (.gcall (Q:=fun _=>True) (fun _=>kx) fun _=>trivial) fun _ _=>.bd (.gcall (Q:=fun _=>True) (fun _=>ky) fun _=>trivial) fun _ _=>.ite (fun _=>.ret ⟨h11.mono (by omega),?_,?_⟩) fun _=>.ret ⟨h11.mono (by omega),by dsimp only;omega,by dsimp only;omega⟩
  ·dsimp only;rw[Qks,List.size_toArray];simp only[List.length_cons,List.length_nil];omega
  ·dsimp only;rw[Qks,List.size_toArray];simp only[List.length_cons,List.length_nil];omega
theorem QdU {xs:List Bt} (h:xs.length≤1000):Jl xs xs=some true:=by
 unfold Jl;rw[if_neg (by simp),Qk8 xs.length (.inr ()) (fun i hi=>?_) ?_,Qa]
 ·rw[if_neg (by simp)]
 ·have hg:(0:Int)≤(i:Int)∧(i:Int)<((xs.length:Nat):Int):=by omega
  rw[if_pos (decide_eq_true hg.2),Qd hg,Qd hg,if_neg (by simp),Qm hi (by omega)]
theorem Qn5 {xs:List Qyi} (h:xs.length≤1000) (hs:∀s∈xs,s.Lines.length≤1000):QcO xs xs=some true:=by
 unfold QcO;rw[if_neg (by simp),Qk8 xs.length (.inr ()) (fun i hi=>?_) ?_,Qa]
 ·rw[if_neg (by simp)]
 ·have hg:(0:Int)≤(i:Int)∧(i:Int)<((xs.length:Nat):Int):=by omega
  have hm:=hs _ (JP hi);rw[if_pos (decide_eq_true hg.2),Qd hg,Qd hg,Qd (fun _=>hg),Qd (fun _=>hg),Qd (fun _=>hg),Qd (fun _=>hg),Qd (fun _=>hg),Qd (fun _=>hg),Int.toNat_natCast,QdU hm];generalize xs.getD i default=s;rw[Ql (by simp),Qa,if_neg (by simp),Qm hi (by omega)]
theorem Qrb:Qdo [] []=some true:=by
 unfold Qdo;rw[if_neg (by decide),Qk8 0 (.inr ()) (fun i hi=>absurd hi (by omega)) (by rw[if_neg (by simp)]),Qa]
theorem QiJ {s:Qyj} (hc:s.Box.Cands=[]) (h:StFew s):Qbr s s=some true:=by
 unfold Qbr;rw[hc,QdU h.box.lines,QdU h.box.back,Qrb,QdU h.job,Qn5 h.slots h.slot];rw[Ql (by simp),Qa,Ql (by simp),Qa,Ql (by simp),Qa,Ql (by simp),Qa,Ql (by simp),Qa];simp
theorem Qjs {xs:List Bt} (h:xs.length≤1000):Z8 xs=some xs:=by
 unfold Z8;rw[Qd (by omega)]
theorem Qwn {s:Qyj} (hc:s.Box.Cands=[]) (h:StFew s):QcN s=some s:=by
 unfold QcN;have hs:=h.slots;rw[hc,Qjs h.box.lines,Qa,Qjs h.box.back,Qa,ZN (b:=(0,[])) (by dsimp only;rw[if_neg (by simp)];rfl),Qa,Qih s.Slots.length (fun i=>s.Slots.getD i default) (fun ys=>(ys.length,ys)) (fun i a hi ha=>?_) (fun a ha=>?_),Qa,Qjs h.job,Qa]
 ·have:=QdQ s.Slots id;simp only[id_eq,List.map_id] at this;dsimp only;rw[this,←hc]
 ·have hm:=h.slot _ (JP hi);have hg:(0:Int)≤(i:Int)∧(i:Int)<((s.Slots.length:Nat):Int):=by omega
  dsimp only;rw[if_pos (decide_eq_true hg.2),Qd hg,Int.toNat_natCast,Qjs hm,Qa,Qd (by rw[List.length_singleton];omega),Qm hi (by omega)]
 ·dsimp only;rw[if_neg (by simp)]
theorem QmV {xs ys:List Bs} (h:xs.map tS=ys.map tS):xs=ys:=by
 have e:∀zs:List Bs,(zs.map tS).map tB=zs:=fun zs=>by
  rw[List.map_map];exact(List.map_congr_left fun x _=>(tB_tS x:(tB∘tS) x=id x)).trans (List.map_id zs)
 rw[←e xs,h,e]
theorem Qs6 {F L:List Bs} (hL:ZI L=0):mg F L F=(L.map tS,0):=by
 unfold mg;have e:lk L=Zd (L.map tS) ((L.map tS).map kfB):=by
  funext k
  unfold lk;rw[Qup]
 rw[e,Qo2 (QlZ hL) (fun x hx=>?_) (fun x hx=>?_) (by rw[List.length_map];exact Zg hL),QsT,Qul hL]
 ·obtain⟨l,hl,rfl⟩:=List.mem_map.1 hx;refine Qgp fun e=>?_;have hk:=QdT hL l hl;rw[QlJ (e.trans Quq)] at hk;exact absurd hk (by decide)
 ·rw[Qup L];exact List.mem_append.2 (.inl (List.mem_append.2 (.inr (List.mem_map_of_mem hx))))
theorem Qxk (F A B:List Bs):mg F A B=mg F B A:=by
 unfold mg;exact QqZ fun s=>by simp only[List.mem_append];constructor<;>rintro((h|h)|h)<;>simp[h]
theorem QmW {a0:List Int} (h:a0.length≤9223372036854775807∧∀x∈a0,Qoy x):Qcd a0=some true:=by
 unfold Qcd
 by_cases hc0:decide (((a0.length:Nat):Int)>1048576)=true
 ·rw[if_pos hc0]
 rw[if_neg hc0];have h48:¬(((a0.length:Nat):Int)>1048576):=fun e=>hc0 (decide_eq_true e);obtain⟨⟨xs,a,b⟩,e,hs,ha,hb⟩:=Qn4 (a:=a0) (by omega) h.2;rw[e,Qa];dsimp only at hs ha hb⊢;have hl:∀l∈xs.map tB,l.length≤1000000:=fun l hl=>by
  obtain⟨s,hs',rfl⟩:=List.mem_map.1 hl;have:=hs.short s hs';rw[QnH];omega
 have hn:(xs.map tB).length≤1000:=by rw[List.length_map];have:=hs.few;omega
 rw[back xs,show a=tS (tB a) from(QoM a).symm,show b=tS (tB b) from(QoM b).symm];have ha':(tB a).length≤1000000:=by rw[QnH];omega
 have hb':(tB b).length≤1000000:=by rw[QnH];omega
 generalize xs.map tB=F at hl hn;generalize tB a=a at ha';generalize tB b=b at hb';clear e hs hc0 xs ha hb;unfold QdD QdE;rw[QmQ hl hn,QpS hl hn,Qa,Qa]
 by_cases hz:QaD F=0
 ·have W:Whole 0 0 F []:=⟨.inl rfl,by decide,by decide,hz,⟨by simp,fun c hc=>(by cases hc),fun i hi=>absurd hi (by simp)⟩⟩;have ho:SlotOk 0 ⟨false,0,false,[]⟩:=.part [] (by decide);obtain⟨_,few⟩:=W.idle ho;have nF:=Zc hz;have fF:=Zg nF;rw[if_neg (by simp[hz]),if_neg (by simp[hz]),QdS (by rw[List.length_map];omega),Qa,Qa,Qa,
   show(⟨true,⟨0,F.map tS,0,[],[]⟩,[(⟨true,0,false,F.map tS⟩:Qyi),(⟨false,0,false,[]⟩:Qyi)],0,0,⟨0,0,0,0,[]⟩⟩:Qyj)=sto 0 F [] 0 ⟨false,0,false,[]⟩ 0 J0 from rfl,Qwn rfl few,Qa,Qa]
  dsimp only;rw[Ql (by decide),QiJ rfl few,Qa,if_neg (by decide)];obtain⟨c1,c2,s1,cs,e1,e2,W7,l7,hcs⟩:=Qus hz ho;rw[show Qp (sto 0 F [] 0 ⟨false,0,false,[]⟩ 0 J0) ⟨1,⟨#[97,110,110]⟩,ByteArray.empty,0⟩=_ from e1,Qa];dsimp only;rw[show Qp s1 ⟨1,⟨#[98,111,98]⟩,ByteArray.empty,0⟩=_ from e2,Qa];dsimp only;have hab:tS Qo8≠tS Qp5:=fun e=>absurd (QlJ e) (by decide);have at7:∀u c,(u=tS Qp5∨u=tS Qo8)→fd cs u=some c→c=Qim u 0 F:=fun u c hu hf=>by
   have hm:=List.mem_of_find?_eq_some hf;have hu2:(c.User==u)=true:=List.find?_some (p:=fun c:Qyf=>c.User==u) hf;have hu2:=Nc.bq.1 hu2;rcases hcs c hm with e|e<;>rcases hu with rfl|rfl
   ·exact e
   ·rw[e] at hu2;exact absurd hu2.symm hab
   ·rw[e] at hu2;exact absurd hu2 hab
   ·exact e
  have neF:=QmR hz;have fdA:∀c,fd cs (tS Qp5)=some c→∃b f l,c=⟨tS Qp5,b,f.map tS,l.map tS⟩∧ZI f=0∧ZI l=0∧f≠ []∧l≠ []:=fun c hf=>⟨0,F,F,at7 _ c (.inl rfl) hf,nF,nF,neF,neF⟩;have fdB:∀c,fd cs (tS Qo8)=some c→∃b f l,c=⟨tS Qo8,b,f.map tS,l.map tS⟩∧ZI f=0∧ZI l=0∧f≠ []∧l≠ []:=fun c hf=>⟨0,F,F,at7 _ c (.inr rfl) hf,nF,nF,neF,neF⟩;have from7:∀u,(u=tS Qp5∨u=tS Qo8)→∀b f l,fd cs u=some ⟨u,b,f.map tS,l.map tS⟩→f=F∧l=F:=fun u hu b f l hf=>by
   have e:=at7 u _ hu hf;unfold Qim at e
   injection e with _ _ e3 e4
   exact⟨QmV e3,QmV e4⟩
  obtain⟨E8,F8,cs8,lv8,o8,c8,d8,W8,ho8,l8,hE8,f8,k8⟩:=wcc (a:=a) W7 l7 (by decide) ho ha' fdA;obtain⟨E9,F9,cs9,lv9,o9,c9,d9,W9,_,_,_,_,k9⟩:=wcc (u:=tS Qo8) (a:=b) W8 l8 (by omega) ho8 hb' (by rw[f8 _ hab];exact fdB);obtain⟨E10,F10,cs10,lv10,o10,c10,d10,W10,ho10,l10,hE10,f10,k10⟩:=wcc (a:=b) W7 l7 (by decide) ho hb' fdB;obtain⟨E11,F11,cs11,lv11,o11,c11,d11,W11,_,_,_,_,k11⟩:=wcc (u:=tS Qp5) (a:=a) W10 l10 (by omega) ho10 ha' (by rw[f10 _ hab.symm];exact fdA);rw[show Zt (sto 0 F cs 0 ⟨false,0,false,[]⟩ 0 J0) ⟨#[97,110,110]⟩ (tS a)=_ from d8,Qa];dsimp only;rw[show Zt (sto E8 F8 cs8 lv8 o8 E8 J0) ⟨#[98,111,98]⟩ (tS b)=_ from d9,Qa];dsimp only;rw[show Zt (sto 0 F cs 0 ⟨false,0,false,[]⟩ 0 J0) ⟨#[98,111,98]⟩ (tS b)=_ from d10,Qa];dsimp only;rw[show Zt (sto E10 F10 cs10 lv10 o10 E10 J0) ⟨#[97,110,110]⟩ (tS a)=_ from d11,Qa];dsimp only;have b9:(sto E9 F9 cs9 lv9 o9 E9 J0).Box=⟨E9,F9.map tS,0,[],cs9⟩:=rfl;have b11:(sto E11 F11 cs11 lv11 o11 E11 J0).Box=⟨E11,F11.map tS,0,[],cs11⟩:=rfl;rw[b9,b11];dsimp only
  by_cases hcc:((((c8 !=0)||(c9 !=0))||(c10 !=0))||(c11 !=0))=true
  ·have hp:decide ((((F9.map tS).length:Nat):Int)>0)=true:=decide_eq_true (by
    rw[List.length_map];have:=List.length_pos_iff.2 (QmR W9.lines);omega)
   rw[if_pos hcc,hp,Ql rfl,Qjp W9.lines,Qa,Ql (by decide),Qjp W11.lines,Qa]
   rfl
  ·rw[if_neg hcc];have hcc:((c8=0∧c9=0)∧c10=0)∧c11=0:=by simpa using hcc
   obtain⟨⟨⟨z8,z9⟩,z10⟩,z11⟩:=hcc;obtain⟨e8,b8,f8',l8',g8,m8⟩:=k8 z8;obtain⟨e9,b9,f9',l9',g9,m9⟩:=k9 z9;obtain⟨e10,b10,f10',l10',g10,m10⟩:=k10 z10;obtain⟨e11,b11,f11',l11',g11,m11⟩:=k11 z11;rw[f8 _ hab] at g9;rw[f10 _ hab.symm] at g11;obtain⟨q1,q2⟩:=from7 _ (.inl rfl) _ _ _ g8;obtain⟨q3,q4⟩:=from7 _ (.inr rfl) _ _ _ g9;obtain⟨q5,q6⟩:=from7 _ (.inr rfl) _ _ _ g10;obtain⟨q7,q8⟩:=from7 _ (.inl rfl) _ _ _ g11;rw[q1,q2,Qs6 (Qo7 nF a)] at m8;rw[q5,q6,Qs6 (Qo7 nF b)] at m10;have x8:=QmV (congrArg Prod.fst m8);have x10:=QmV (congrArg Prod.fst m10);rw[q3,q4,←x8,Qxk] at m9;rw[q7,q8,←x10] at m11;have x9:F9.map tS=F11.map tS:=congrArg Prod.fst (m9.symm.trans m11);rw[x9,QdU (by rw[List.length_map];have:=Zg (Zc W11.lines);omega),Qa,e9,e11,e8,e10]
   rfl
 ·rw[if_pos (by simpa using hz),if_pos (by simpa using hz),Qa,Qa];have few:StFew (⟨false,⟨0,[],0,[],[]⟩,[],0,0,⟨0,0,0,0,[]⟩⟩:Qyj):=⟨⟨by simp,by simp,by simp,fun c hc=>by cases hc⟩,by simp,by simp,fun c hc=>by cases hc⟩;dsimp only;rw[Ql (by decide),QiJ rfl few,Qa,if_pos (by decide),Ql (by decide),Qa]
  rfl
end Go.Proofs.YtmnnglbioibmfaaGreatDoor
