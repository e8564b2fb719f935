/-
  Plain Lean: worlds in plain functions; the program's functions compute these.
-/
import Derived.Test.YtjgjdobkahdgfaaGreatKz5
import Derived.Test.YtjgjdobkahdgfaaGreatHelMz
import Derived.Test.YtjgjdobkahdgfaaGreatHelWbz
set_option linter.all false
namespace Go.Proofs.YtjgjdobkahdgfaaGreat
open Go Go.Ab
set_option maxHeartbeats 1000000
set_option maxRecDepth 100000
theorem Qjm {xs:List Qw7} (h:xs.length≤1048576):Zo xs=some xs:=by
  unfold Zo;rw [Qp (by omega),Qp (by simp; omega)]; rfl
theorem Qh1 {xs:List Qw8} (h:xs.length≤1048576):QD xs=some xs:=by
  unfold QD;rw [Qp (by omega),Qp (by simp; omega)]; rfl
theorem QtW {xs:List Qxa} (h:xs.length≤1048576):Js xs=some xs:=by
  unfold Js;rw [Qp (by omega),Qp (by simp; omega)]; rfl
theorem QtX {xs:List Qxd} (h:xs.length≤1048576):JC xs=some xs:=by
  unfold JC;rw [Qp (by omega),Qp (by simp; omega)]; rfl
theorem QqY {t:List Qw8} (h:t.length≤1048576) (ho:Ord idE t) (x:Qw8):QR t x=some (!QhY t x):=by
  have e:Q2 t x=some (match Z3 (fun i=>decide (t.getD i default=x)) t.length with | some i=>(i:Int) | none=>-1):=by
    unfold Q2;rw [QbF t.length (fun i=>decide (t.getD i default=x)) (fun i=>Sum.inl (i:Int)) (.inr ()) (fun i hi=>?_) (by rw [if_neg (by simp)]),Qb]
    · cases Z3 (fun i=>decide (t.getD i default=x)) t.length <;> rfl
    · rw [if_pos (by simp; omega),Qp (by omega),Int.toNat_natCast,QK hi (by omega)];generalize t.getD i default=y;have:(x.Addr == y.Addr && (x.Len == y.Len && (x.Cost == y.Cost && (x.Label == y.Label && true))))=decide (y=x):=by
        cases x; cases y
        rw [Bool.eq_iff_iff];simp only [Bool.and_eq_true,beq_iff_eq,decide_eq_true_eq,Qw8.mk.injEq,and_true];exact ⟨fun ⟨q1,q2,q3,q4⟩=>⟨q1.symm,q2.symm,q3.symm,q4.symm⟩,fun ⟨q1,q2,q3,q4⟩=>⟨q1.symm,q2.symm,q3.symm,q4.symm⟩⟩
      rw [this];split <;> rfl
  unfold QR;rw [e,Qb];unfold QhY
  cases hf:Z3 (fun i=>decide (t.getD i default=x)) t.length with
  | some i =>
    obtain ⟨q1,q2,_⟩:=ZF hf;have q2:t.getD i default=x:=by simpa using q2
    obtain ⟨r1,r2⟩:=QdE (f:=idE) ho (e:=x) q1 (by rw [q2]; exact ⟨rfl,rfl⟩);rw [r2,← r1,q2];simp
  | none =>
    have q:=JK hf;have:(!Qbd idE t x || !decide (t.getD (posK idE t x) default=x))=true:=by
      cases hh:Qbd idE t x
      · rfl
      · have q2:decide (t.getD (posK idE t x) default=x)=false:=q _ (J5.1 hh).1;rw [q2]; rfl
    rw [this]
    rfl
theorem QvB {e:Qxb} (ht:To e.Told) (hw:To e.Want):Qae e=some (QdS e):=by
  have l1:=ht.len;have l2:=hw.len;unfold Qae QdS;rw [QbF e.Told.length (fun i=>!Qbd idE e.Want (e.Told.getD i default)) (fun i=>Sum.inl ((e.Told.getD i default).Addr,(e.Told.getD i default).Len)) (.inr ()) (fun i hi=>?_) (by rw [if_neg (by simp)]),Qb]
  · cases hf:Z3 (fun i=>!Qbd idE e.Want (e.Told.getD i default)) e.Told.length with
    | some i=>rfl
    | none =>
      dsimp only;rw [QbF e.Want.length (fun i=>QhY e.Told (e.Want.getD i default)) (fun i=>Sum.inl ((e.Want.getD i default).Addr,(e.Want.getD i default).Len,(e.Want.getD i default).Cost,(e.Want.getD i default).Label)) (.inr ()) (fun i hi=>?_) (by rw [if_neg (by simp)]),Qb]
      · cases Z3 (fun i=>QhY e.Told (e.Want.getD i default)) e.Want.length with
        | some i=>rfl
        | none =>
          dsimp only
          cases e.All <;> rfl
      · rw [if_pos (by simp; omega),Qp (by omega),Int.toNat_natCast,QK hi (by omega),QqY (by omega) (QeV ht),Qb,Bool.not_not];split <;> rfl
  · rw [if_pos (by simp; omega),Qp (by omega),Int.toNat_natCast,QK hi (by omega),Qbo,Qb,QrZ (by omega) (QeV hw) (Qat (ht.ent _ (Zj hi))),Qb];split <;> rfl
theorem QuB {e:Qxb} (h:Eo e):JI e=some ((QfC e).2.1,(QfC e).2.2,(QfC e).1):=by
  have L:=(ZT h).mono (m:=1048576) (by decide);have hb:=h.boot;have ht:=h.turn;have hn:=h.num;unfold JI QfC ZQ;rw [Qb]
  by_cases cb:e.Boot=1000
  · rw [if_pos (by simpa using cb),if_pos cb]; rfl
  rw [if_neg (by simpa using cb),if_neg cb]
  by_cases ct:e.Turn=1000000
  · rw [if_pos (by simpa using ct),if_pos ct,Qjj L.h hb,Qb]; rfl
  rw [if_neg (by simpa using ct),if_neg ct];have kp:=Qjk h;have e0:((e.Keys.length:Nat):Int) - 1=((e.Keys.length - 1:Nat):Int):=by omega
  rw [wrap_i64 (n:=e.Turn+1) (by omega) (by omega),wrap_i64 (n:=((e.Keys.length:Nat):Int) - 1) (by omega) (by omega),e0,Int.toNat_natCast];refine (QjY (x:=((QcU e).1,(QcU e).2.Kind,(QcU e).2.Entry.Addr,(QcU e).2.Entry.Len,(QcU e).2.Entry.Cost,(QcU e).2.Entry.Label)) ?_).trans ?_
  · unfold QcU
    by_cases c:e.Up=true∧e.Under.Kind=0
    · rw [if_pos (by simpa using c),if_pos c,QvB (e:={ e with Turn:=e.Turn+1 }) h.told h.want,Qb];have en:QdS { e with Turn:=e.Turn+1 }=QdS e:=rfl;have ck:QT (QdS e)=true:=by
        obtain ⟨c,e1,c1,_⟩:=Qiy (e:=e) h.told h.want;rw [QoG h.told h.want] at e1;rw [Option.some.inj e1]; exact c1
      rw [en,wrap_i64 (n:=e.Num+1) (by omega) (by omega),← Qc6 ck]
      by_cases k:(QdS e).Kind > 0
      · rw [if_pos (by simpa using k),if_pos k]
      · rw [if_neg (by simpa using k),if_neg k]
    · rw [if_neg (by simpa using c),if_neg c]
  · dsimp only;rw [Qp (by omega),Qut,Qb]
    rfl
theorem QpK {e:Qxb} (h:Eo e):Qb4 e=some (QqV e):=by
  have L:=ZT h;have l1:=L.k;have l2:=L.w;unfold Qb4;rw [Qjm (by omega),Qb,Qh1 (by omega),Qb]
  rfl
theorem QpL {e:Qxb} (h:Eo e):Zi e=some e:=by
  have L:=ZT h;have l1:=L.k;have l2:=L.w;have l3:=L.t;have l4:=L.h;unfold Zi;rw [Qjm (by omega),Qb,Qh1 (by omega),Qb,Qh1 (by omega),Qb,QtW (by omega),Qb]
theorem QsF {a b:Qxc} {R:List Qxd} (h:Gs (a,b,R)):QeD a b R=some (a,b,R):=by
  have hl:R.length≤12:=h.len;have t:Two a b:=h.two;unfold QeD;rw [QtX (by omega),Qb,QpL t.a.eo,Qb,QpL t.b.eo,Qb]
theorem QpM {R:List Qxd} (hl:R.length≤12) (x:Qxd):Qem R x=some (QmH R x):=by
  unfold Qem QmH
  by_cases c:R.length < 12
  · rw [if_pos (by simp; omega),if_pos c,Qp (by simp; omega)]
  · rw [if_neg (by simp; omega),if_neg c]
theorem Qnz {e:Qxb} (h:Eo e) (w:Qxd):Qqb e (helloHear e w)=helloHear e w:=by
  have hr:=QtO (Jw.2 h);have q:(helloHear e w).Name=e.Name∧(helloHear e w).Peer=e.Peer∧(helloHear e w).Boot=e.Boot∧(helloHear e w).Turn=e.Turn∧(helloHear e w).Keys=e.Keys∧(helloHear e w).Want=e.Want:=by
    unfold helloHear;rw [if_pos (Jw.2 h)];split
    · obtain ⟨q1,q2,q3,q4⟩:=Qhg (y:=Jy e w) (w:=w);obtain ⟨r1,r2,_⟩:=Qhf (QhX hr w) w;obtain ⟨k1,k2⟩:=Qit (e:=e) (w:=w);have b:(Jy e w).Name=e.Name∧(Jy e w).Peer=e.Peer∧(Jy e w).Boot=e.Boot∧(Jy e w).Turn=e.Turn:=by
        unfold Jy;split <;> exact ⟨rfl,rfl,rfl,rfl⟩
      exact ⟨q1.trans b.1,q2.trans b.2.1,q3.trans b.2.2.1,q4.trans b.2.2.2,r1.trans k1,r2.trans k2⟩
    · exact ⟨rfl,rfl,rfl,rfl,rfl,rfl⟩
  obtain ⟨q1,q2,q3,q4,q5,q6⟩:=q;unfold Qqb;rw [← q1,← q2,← q3,← q4,← q5,← q6]
theorem QpN {e:Qxb} (h:Eo e) (w:Qxd):ZZ e w=some (helloHear e w):=by
  have L:=(ZT h).mono (m:=1048576) (by decide);rw [QsB L.k (QtO (Jw.2 h))];unfold helloHear;rw [if_pos (Jw.2 h)]
theorem QtY {a b:Qxc} (t:Two a b):a.End.Name ≠ b.End.Name:=fun q=>t.a.eo.ne (by rw [q,t.ba])
theorem QtZ {a b:Qxc} (t:Two a b) (x:Qxd):QeE a b x=some (QcV a x,QcV b x):=by
  have hn:=QtY t;unfold QeE
  by_cases c:a.Up=true∧a.End.Name=x.To
  · rw [if_pos (by simpa using c),QpN t.a.eo,Qb,Qnz t.a.eo,QeW c,Qdw (s:=b) fun q=>hn (c.2.trans q.2.symm)]
  · rw [if_neg (by simpa using c),Qdw c]
    by_cases d:b.Up=true∧b.End.Name=x.To
    · rw [if_pos (by simpa using d),QpN t.b.eo,Qb,Qnz t.b.eo,QeW d]
    · rw [if_neg (by simpa using d),Qdw d]
theorem QvC {t:List Qxd} (h:t.length≤1048576) {i:Int} (hi:0≤i∧i < (t.length:Int)):Q7 t i (IntKind.i64.wrap (i+1))=some (QvU t i.toNat):=by
  unfold Q7;rw [wrap_i64 (by omega) (by omega),Qp (by omega),show (i+1).toNat=i.toNat+1 by omega]
  rfl
theorem Qmx {s:W3} (h:Gs s) {k:Int} (hk:k=2 ∨ k=3 ∨ k=4) (at_:Int):Qa9 s.1 s.2.1 s.2.2 k at_=some (Qi1 s k at_):=by
  have hl:=h.len;unfold Qa9 Qi1;rw [Z6,Qb,wrap_i64 (n:=((s.2.2.length:Nat):Int) - 1) (by omega) (by omega)]
  by_cases c:0≤at_∧at_ < (s.2.2.length:Int)
  · rw [Jv.2 (by omega),if_neg (by decide),if_pos c,Qp c]
    by_cases k3:k=3
    · rw [if_pos (by simpa using k3),if_neg (by omega),if_pos k3,QpM hl,Qb]
    · rw [if_neg (by simpa using k3),QvC (by omega) c,Qb]
      by_cases k2:k=2
      · rw [if_pos (by simpa using k2),if_pos k2,QtZ h.two,Qb]; rfl
      · rw [if_neg (by simpa using k2),if_neg k2,if_neg k3]
  · have:inR at_ 0 (((s.2.2.length:Nat):Int) - 1)=false:=by
      rw [Bool.eq_false_iff];intro q;have:=Jv.1 q;omega
    rw [this,if_pos (by decide),if_neg c]
theorem QuC {s:W3} (h:Gs s):Qb5 s.1 s.2.1 s.2.2=some (QgM s):=by
  obtain ⟨a,b,R⟩:=s;unfold Qb5
  induction R generalizing a b with
  | nil=>exact QdC rfl
  | cons x r ih =>
    have e:=Qmx h (.inl rfl) 0;have w:Qi1 (a,b,x :: r) 2 0=QcF (a,b,x :: r) 0:=by
      unfold Qi1;rw [if_pos ⟨Int.le_refl _,by simp <;> omega⟩,if_pos rfl]; rfl
    rw [w] at e;refine (Qg3 (s':=QcF (a,b,x :: r) 0) ?_).trans (ih _ _ (Qgp (i:=0) h (by simp)));dsimp only;rw [if_pos (by simp <;> omega),show Qa9 a b (x :: r) 2 0=_ from e,Qb]
theorem QpO {a b:Qxc} (t:Two a b) (x:Qxd):QeF a b x=some (QN a.End.Keys x || QN b.End.Keys x):=by
  have ka:=(ZT t.a.eo).k;have kb:=(ZT t.b.eo).k;have e:Qn [a,b] x=some (match Z3 (fun i=>QN (([a,b]:List Qxc).getD i default).End.Keys x) 2 with | some i=>(i:Int) | none=>-1):=by
    unfold Qn;rw [QbF 2 (fun i=>QN (([a,b]:List Qxc).getD i default).End.Keys x) (fun i=>Sum.inl (i:Int)) (.inr ()) (fun i hi=>?_) (by rw [if_neg (by simp)]),Qb]
    · cases Z3 (fun i=>QN (([a,b]:List Qxc).getD i default).End.Keys x) 2 <;> rfl
    · have hl:(([a,b]:List Qxc).getD i default).End.Keys.length≤1048576:=by
        have:i=0 ∨ i=1:=by omega
        rcases this with q | q <;> subst q
        · exact Nat.le_trans ka (by decide)
        · exact Nat.le_trans kb (by decide)
      rw [if_pos (by simp; omega),Qp (by simp; omega),Int.toNat_natCast,QK hi (by omega)];unfold Zv;dsimp only;rw [Qpx hl,Qb,Qb];split <;> rfl
  unfold QeF Qj;rw [e,Qb];have f:Z3 (fun i=>QN (([a,b]:List Qxc).getD i default).End.Keys x) 2=if QN a.End.Keys x=true then some 0 else if QN b.End.Keys x=true then some 1 else none:=by
    cases hf:Z3 (fun i=>QN (([a,b]:List Qxc).getD i default).End.Keys x) 2 with
    | some i =>
      obtain ⟨q1,q2,q3⟩:=ZF hf;have:i=0 ∨ i=1:=by omega
      rcases this with q | q <;> subst q
      · have q2:QN a.End.Keys x=true:=q2;rw [if_pos q2]
      · have q2:QN b.End.Keys x=true:=q2;have q4:QN a.End.Keys x=false:=q3 0 (by decide);rw [if_neg (by rw [q4]; decide),if_pos q2]
    | none =>
      have q:=JK hf;have q1:QN a.End.Keys x=false:=q 0 (by decide);have q2:QN b.End.Keys x=false:=q 1 (by decide);rw [if_neg (by rw [q1]; decide),if_neg (by rw [q2]; decide)]
  rw [f]
  cases QN a.End.Keys x
  · cases QN b.End.Keys x <;> rfl
  · rfl
theorem Qwy {a b:Qxc} (t:Two a b) (x:Qxd):QgO a b x=some (!(QN a.End.Keys x || QN b.End.Keys x)):=by
  unfold QgO;rw [QpO t,Qb]
theorem Qwz {b:Bool} (h:(!b)=false):b=true:=by cases b; cases h; rfl
theorem QuD {s:W3} (h:Gs s):Qgc s.1 s.2.1 s.2.2=some (Qhh s):=by
  obtain ⟨a,b,xs⟩:=s;have t:Two a b:=h.two;have hl:xs.length≤12:=h.len;have ix:Qhq a b xs=some (match Z3 (fun i=>!(QN a.End.Keys (xs.getD i default) || QN b.End.Keys (xs.getD i default))) xs.length with | some i=>(i:Int) | none=>-1):=by
    unfold Qhq;rw [QbF xs.length (fun i=>!(QN a.End.Keys (xs.getD i default) || QN b.End.Keys (xs.getD i default))) (fun i=>Sum.inl (i:Int)) (.inr ()) (fun i hi=>?_) (by rw [if_neg (by simp)]),Qb]
    · cases Z3 (fun i=>!(QN a.End.Keys (xs.getD i default) || QN b.End.Keys (xs.getD i default))) xs.length <;> rfl
    · rw [if_pos (by simp; omega),Qp (by omega),Int.toNat_natCast,QK hi (by omega),Qwy t,Qb];split <;> rfl
  unfold Qgc Qhh;dsimp only;rw [ix,Qb]
  cases hf:Z3 (fun i=>!(QN a.End.Keys (xs.getD i default) || QN b.End.Keys (xs.getD i default))) xs.length with
  | none =>
    have:=JK hf;dsimp only;rw [if_pos (by decide)];have e:=Qfo (k:=fun w=>QN a.End.Keys w || QN b.End.Keys w) (xs:=xs) (n:=xs.length) fun q hq _=>Qwz (this q hq);rw [List.take_length] at e;rw [e]
  | some i =>
    obtain ⟨h1,h2,h3⟩:=ZF hf;dsimp only;rw [if_neg (by simp <;> omega)];have start:Dl xs (fun w=>QN a.End.Keys w || QN b.End.Keys w) xs i (i+1):=by
      refine ⟨Nat.lt_succ_self _,h1,rfl,?_,fun _ _=>rfl⟩;have e2:xs[i]?=some (xs.getD i default):=by simp [List.getD_eq_getElem?_getD,h1]
      rw [List.take_succ,List.filter_append,e2,Qfo fun q hq _=>Qwz (h3 q hq)];show _=_ ++ ([xs.getD i default]).filter (fun w=>QN a.End.Keys w || QN b.End.Keys w);have h2:¬ (QN a.End.Keys (xs.getD i default) || QN b.End.Keys (xs.getD i default))=true:=by simpa using h2
      rw [List.filter_cons,if_neg h2];simp
    have key:Post (lp (σ:=List Qxd × Int × Int) (β:=Nat × Int × List Qxd) (fun s2 =>
        (if (decide (s2.2.2 < ((s2.1.length:Nat):Int)))=true then
        gd ((0:Int)≤s2.2.2∧s2.2.2 < ((s2.1.length:Nat):Int)) <|
        bd (QgO a b (s2.1.getD s2.2.2.toNat default)) fun x7 =>
        (if (!x7)=true then
        gd ((0:Int)≤s2.2.1∧s2.2.1 < ((s2.1.length:Nat):Int)) <|
        bd (some (s2.1.set s2.2.1.toNat (s2.1.getD s2.2.2.toNat default))) fun x9 =>
        some (.inl (x9,IntKind.i64.wrap (s2.2.1+1),IntKind.i64.wrap (s2.2.2+1)))
        else
        some (.inl (s2.1,s2.2.1,IntKind.i64.wrap (s2.2.2+1))))
        else
        some (.inr (s2.1.length,s2.2.1,s2.1)))) (xs,(i:Int),IntKind.i64.wrap ((i:Int)+1))) fun x=>∃ q:Nat,x.2.1=(q:Int)∧q≤x.1∧x.2.2.take q=xs.filter (fun w=>QN a.End.Keys w || QN b.End.Keys w):=by
      rw [QK h1 (by omega)];refine .lp (fun s=>∃ p j:Nat,s.2.1=(p:Int)∧s.2.2=(j:Int)∧Dl xs (fun w=>QN a.End.Keys w || QN b.End.Keys w) s.1 p j) (fun s=>xs.length - s.2.2.toNat) ⟨i,i+1,rfl,rfl,start⟩ fun s ⟨p,j,ep,ej,D⟩=>?_;obtain ⟨ys,sp,sj⟩:=s;dsimp only at ep ej D ⊢;subst ep ej;have hlt:=D.lt;have hle:=D.le;have hlen:=D.len;refine .ite (fun c=>?_) fun c=>.ret ?_
      · have c:=of_decide_eq_true c;have hj:j < xs.length:=by omega
        refine .gd (by omega) ?_;rw [Int.toNat_natCast,Qwy t,Qb,QK (n:=xs.length) hj (by omega),Bool.not_not];refine .ite (fun k=>.gd (by omega) ?_) fun k=>.ret ⟨⟨p,j+1,rfl,rfl,D.skip hj (by simpa using k)⟩,by dsimp only; omega⟩;rw [Int.toNat_natCast,Qb,QK (n:=xs.length) (by omega) (by omega)];exact .ret ⟨⟨p+1,j+1,rfl,rfl,D.keep hj k⟩,by dsimp only; omega⟩
      · have:j=xs.length:=by
          simp only [decide_eq_true_eq] at c;omega
        refine ⟨p,rfl,by dsimp only; omega,?_⟩;have t:=D.take;rw [this,List.take_length] at t;exact t
    obtain ⟨x,e,q,e1,e2,e3⟩:=key;refine (congrArg (fun m=>bd m _) e).trans ?_;rw [Qb,e1,Qp (by omega),Qp (by omega),Int.toNat_natCast,Qpu,e3]
theorem QnA (e:Qxb):Qhr e (ZH e)=ZH e:=rfl
theorem QnB (e:Qxb):Qhr e (Qce e)=Qce e:=by
  have k:Qhr e (keepTick e)=keepTick e:=by
    unfold keepTick;split <;> rfl
  unfold Qce QcT;generalize keepTick e=x at *;rw [← k];split
  · split <;> rfl
  · rfl
theorem QpP (e:Qxb):Qhr e (QfC e).1=(QfC e).1:=by
  unfold QfC;split
  · rfl
  split <;> rfl
theorem QpQ {e:Qxb} (h:Eo e):Z0 e=some (Qce e):=by
  have L:=(ZT h).mono (m:=1048576) (by decide);obtain ⟨n1,n2,n3⟩:=Qlw (Jw.2 h);exact Qsw L.h n1 n2 n3
theorem Qmy {s:W3} (h:Gs s) (k:Int) {want:List Qw8} {keys:List Qw7} (h1:want.length≤1048576) (h2:keys.length≤1048576):QbQ s.1 s.2.1 s.2.2 k want keys=some (QaQ s k 0 want keys):=by
  have hd:=QuD h;obtain ⟨a,b,R⟩:=s;have t:Two a b:=h.two;have so:=t.a;have hl:R.length≤12:=h.len;have yes:∀ {x:Qxc} {rd:List Qxd},QaT a k want keys=x→Q9 a R (Qhh (a,b,R)) k keys=rd→some (x,b,rd)=some (QaQ (a,b,R) k 0 want keys):=fun e1 e2=>by
    subst e1; subst e2; rfl
  have L:=(ZT so.eo).mono (m:=1048576) (by decide);dsimp only at hd ⊢;unfold QbQ
  by_cases c1:k=1∧a.Up=true
  · rw [if_pos (by simpa using c1),QuB so.eo,Qb];dsimp only;rw [QpP]
    by_cases w:(QfC a.End).2.2=true
    · rw [if_pos w,QpM hl,Qb];exact yes (by simp [QaT,c1]) (by simp [Q9,c1,w])
    · rw [if_neg w];exact yes (by simp [QaT,c1]) (by simp [Q9,c1,w])
  rw [if_neg (by simpa using c1)]
  by_cases c5:k=5∧a.Up=true
  · rw [if_pos (by simpa using c5),QpQ so.eo,Qb,QnB];exact yes (by simp [QaT,c5]) (by simp [Q9,c5])
  rw [if_neg (by simpa using c5)]
  by_cases c6:k=6
  · rw [if_pos (by simpa using c6),QpK so.eo,Qb];exact yes (by simp [QaT,c6]) (by simp [Q9,c6])
  rw [if_neg (by simpa using c6)]
  by_cases c7:k=7∧a.Up=false
  · rw [if_pos (by simpa using c7),Qjj L.h so.eo.boot,Qb,QnA];exact yes (by simp [QaT,c7]) (by simp [Q9,c7])
  rw [if_neg (by simpa using c7),QhS h1,Qdu,Qb]
  by_cases c8:k=8∧JY want=true
  · rw [if_pos (by simp [c8]),Qh1 h1,Qb];exact yes (by simp [QaT,c8]) (by simp [Q9,c8])
  rw [if_neg (by simp only [Bool.and_eq_true,beq_iff_eq]; intro q; rw [if_pos (by simpa using q.1)] at q; exact c8 q),Qmk h2,Qdu,Qb]
  by_cases c9:k=9∧Qa5 keys=true
  · rw [if_pos (by simp [c9]),hd,Qb,Qjm h2,Qb];exact yes (by simp [QaT,c9]) (by simp [Q9,c9])
  rw [if_neg (by simp only [Bool.and_eq_true,beq_iff_eq]; intro q; rw [if_pos (by simpa using q.1)] at q; exact c9 q)];refine yes ?_ ?_
  · unfold QaT;split
    · next q=>rw [if_neg fun u=>c1 ⟨q,u⟩]
    split
    · next q=>rw [if_neg fun u=>c5 ⟨q,u⟩]
    try rw [if_neg c6]
    split
    · next q=>rw [if_pos (by cases hu:a.Up; exact absurd ⟨q,hu⟩ c7; rfl)]
    split
    · next q=>rw [if_neg fun u=>c8 ⟨q,u⟩]
    split
    · next q=>rw [if_neg fun u=>c9 ⟨q,u⟩]
    rfl
  · unfold Q9;split
    · next q=>rw [if_neg fun u=>c1 ⟨q,u.1⟩]
    first | rw [if_neg c9] | rfl
theorem Qmz {s:W3} (h:Gs s) (k:Int) {want:List Qw8} {keys:List Qw7} (h1:want.length≤1048576) (h2:keys.length≤1048576):QbR s.1 s.2.1 s.2.2 k want keys=some (QaQ s k 1 want keys):=by
  have hd:=QuD h;obtain ⟨b,a,R⟩:=s;have t:Two b a:=h.two;have so:=t.b;have hl:R.length≤12:=h.len;have yes:∀ {x:Qxc} {rd:List Qxd},QaT a k want keys=x→Q9 a R (Qhh (b,a,R)) k keys=rd→some (b,x,rd)=some (QaQ (b,a,R) k 1 want keys):=fun e1 e2=>by
    subst e1; subst e2; rfl
  have L:=(ZT so.eo).mono (m:=1048576) (by decide);dsimp only at hd ⊢;unfold QbR
  by_cases c1:k=1∧a.Up=true
  · rw [if_pos (by simpa using c1),QuB so.eo,Qb];dsimp only;rw [QpP]
    by_cases w:(QfC a.End).2.2=true
    · rw [if_pos w,QpM hl,Qb];exact yes (by simp [QaT,c1]) (by simp [Q9,c1,w])
    · rw [if_neg w];exact yes (by simp [QaT,c1]) (by simp [Q9,c1,w])
  rw [if_neg (by simpa using c1)]
  by_cases c5:k=5∧a.Up=true
  · rw [if_pos (by simpa using c5),QpQ so.eo,Qb,QnB];exact yes (by simp [QaT,c5]) (by simp [Q9,c5])
  rw [if_neg (by simpa using c5)]
  by_cases c6:k=6
  · rw [if_pos (by simpa using c6),QpK so.eo,Qb];exact yes (by simp [QaT,c6]) (by simp [Q9,c6])
  rw [if_neg (by simpa using c6)]
  by_cases c7:k=7∧a.Up=false
  · rw [if_pos (by simpa using c7),Qjj L.h so.eo.boot,Qb,QnA];exact yes (by simp [QaT,c7]) (by simp [Q9,c7])
  rw [if_neg (by simpa using c7),QhS h1,Qdu,Qb]
  by_cases c8:k=8∧JY want=true
  · rw [if_pos (by simp [c8]),Qh1 h1,Qb];exact yes (by simp [QaT,c8]) (by simp [Q9,c8])
  rw [if_neg (by simp only [Bool.and_eq_true,beq_iff_eq]; intro q; rw [if_pos (by simpa using q.1)] at q; exact c8 q),Qmk h2,Qdu,Qb]
  by_cases c9:k=9∧Qa5 keys=true
  · rw [if_pos (by simp [c9]),hd,Qb,Qjm h2,Qb];exact yes (by simp [QaT,c9]) (by simp [Q9,c9])
  rw [if_neg (by simp only [Bool.and_eq_true,beq_iff_eq]; intro q; rw [if_pos (by simpa using q.1)] at q; exact c9 q)];refine yes ?_ ?_
  · unfold QaT;split
    · next q=>rw [if_neg fun u=>c1 ⟨q,u⟩]
    split
    · next q=>rw [if_neg fun u=>c5 ⟨q,u⟩]
    try rw [if_neg c6]
    split
    · next q=>rw [if_pos (by cases hu:a.Up; exact absurd ⟨q,hu⟩ c7; rfl)]
    split
    · next q=>rw [if_neg fun u=>c8 ⟨q,u⟩]
    split
    · next q=>rw [if_neg fun u=>c9 ⟨q,u⟩]
    rfl
  · unfold Q9;split
    · next q=>rw [if_neg fun u=>c1 ⟨q,u.1⟩]
    first | rw [if_neg c9] | rfl
theorem QvD {a b:Qxc} {R:List Qxd} (h:Gs (a,b,R)) {e:Qxf} (h1:e.Want.length≤1048576) (h2:e.Keys.length≤1048576):Qd5 a b R e.Kind e.At e.Want e.Keys e.Word=some (ZI (a,b,R) e):=by
  unfold Qd5 ZI;rw [QsF h,Qb];dsimp only
  by_cases k2:e.Kind=2
  · rw [if_pos (by simpa using k2),if_pos (.inl k2)];exact Qmx h (.inl k2) e.At
  rw [if_neg (by simpa using k2)]
  by_cases k3:e.Kind=3
  · rw [if_pos (by simpa using k3),if_pos (.inr (.inl k3))];exact Qmx h (.inr (.inl k3)) e.At
  rw [if_neg (by simpa using k3)]
  by_cases k4:e.Kind=4
  · rw [if_pos (by simpa using k4),if_pos (.inr (.inr k4))];exact Qmx h (.inr (.inr k4)) e.At
  rw [if_neg (by simpa using k4),if_neg (show ¬ (e.Kind=2 ∨ e.Kind=3 ∨ e.Kind=4) by omega)]
  by_cases k10:e.Kind=10
  · rw [if_pos (by simpa using k10),if_pos k10,Qoo,Qb,QpO h.two];unfold Qh0;dsimp only
    cases Z4 e.Word
    · simp [gcall]
    · cases QN a.End.Keys e.Word
      · cases QN b.End.Keys e.Word
        · simp [gcall,QpM (show R.length≤12 from h.len)]
        · simp [gcall]
      · simp [gcall]
  rw [if_neg (by simpa using k10),if_neg k10]
  by_cases z0:e.At=0
  · rw [if_pos (by simpa using z0),z0];exact Qmy h e.Kind h1 h2
  rw [if_neg (by simpa using z0)]
  by_cases z1:e.At=1
  · rw [if_pos (by simpa using z1),z1];exact Qmz h e.Kind h1 h2
  rw [if_neg (by simpa using z1),Z6,Qb];have:inR e.At 0 (IntKind.i64.wrap (((2:Nat):Int) - 1))=false:=by
    rw [Bool.eq_false_iff];intro q;have q:=Jv.1 q;have:IntKind.i64.wrap (((2:Nat):Int) - 1)=1:=by decide
    omega
  rw [this,if_neg (by decide)];unfold QaQ;rw [if_neg z0,if_neg z1]
theorem Qt0 {s:W3} (h:Gs s):Qgd s=some (Qau s):=by
  have h1:=QiN h;have h2:=QcW h1 1 0 [] [];have h3:=QcW h2 1 1 [] [];have h4:=QiN h3;have h5:=QcW h4 5 0 [] [];unfold Qgd Qau;rw [QuC h,Qb,Qmy h1 1 (Nat.zero_le _) (Nat.zero_le _),Qb,Qmz h2 1 (Nat.zero_le _) (Nat.zero_le _),Qb,QuC h3,Qb,Qmy h4 5 (Nat.zero_le _) (Nat.zero_le _),Qb,Qmz h5 5 (Nat.zero_le _) (Nat.zero_le _)]
theorem QvE {a b:Qxc} {R:List Qxd} (h:Gs (a,b,R)) (n:Int):Qd6 a b R n=some (calmG (roundsN n) (a,b,R)):=by
  have hN:Qs6 n=((roundsN n:Nat):Int)∧roundsN n≤100:=by
    unfold Qs6 roundsN
    constructor
    · (repeat' split) <;> omega
    · (repeat' split) <;> omega
  unfold Qd6;rw [QsF h,Qb,hN.1];refine QdF (.lp (fun t=>∃ i:Nat,i≤roundsN n∧t.1=calmG i (a,b,R)∧t.2=i) (fun t=>(100 - t.2).toNat) ⟨0,Nat.zero_le _,rfl,rfl⟩ fun t ⟨i,i0,i1,i2⟩=>.ite (fun c=>?_) fun c=>.ret ?_)
  · have c:t.2 < ((roundsN n:Nat):Int):=by simpa using c
    rw [i1,Qt0 (QoJ h i),Qb,← QlB,wrap_i64 (by omega) (by omega)];exact .ret ⟨⟨i+1,by omega,rfl,by dsimp only; omega⟩,by dsimp only; omega⟩
  · have c:¬ t.2 < ((roundsN n:Nat):Int):=by simpa using c
    have:i=roundsN n:=by omega
    rw [i1,this]
theorem Qt1 {s:Qxc} (h:So s) (u:s.Up=false):Qa1 s.End=some true:=by
  have d:=h.down u;have pt:=h.eo.pp.1 d.pboot;have lf:s.End.Left=0:=by
    exact h.eo.lp d.pboot
  have kp:s.End.Keep=0:=by
    have k:=h.eo.heard.keep;have:=h.eo.heard.any;rw [d.heard] at this;have:¬ 0 < s.End.Keep:=fun q=>by
      have:=this.1 q
      cases this
    omega
  have un:Qkf s.End.Under.Entry=true:=by
    have:=h.eo.under;unfold QT at this;rw [if_pos (.inl d.kind)] at this;exact this
  unfold Qkf at un;simp only [Bool.and_eq_true,beq_iff_eq] at un;unfold Qa1;rw [d.turn,d.pboot,pt,d.up,lf,d.num,d.kind,un.1,un.2.1,un.2.2.1,un.2.2.2,d.told,d.all,d.got,d.full,d.heard,kp]
  rfl
theorem QwA {s:W3} (h:Gs s):Zt (toW s)=some true:=by
  obtain ⟨a,b,R⟩:=s;have t:Two a b:=h.two;have hl:R.length≤12:=h.len;refine QdF ?_;show Post (Zt ⟨[a,b],R⟩) _;unfold Zt;refine .ite (fun c=>?_) fun _=>?_
  · exfalso;simp only [Bool.or_eq_true,bne_iff_ne,ne_eq,decide_eq_true_eq] at c;rcases c with c | c
    · exact c rfl
    · omega
  have side:∀ (x y:Qxc),So x→x.End.Name=y.End.Peer→Jd x.End=some true∧(x.Up=false→Qa1 x.End=some true):=fun x y h1 h2=>by
    have L:=(ZT h1.eo).mono (m:=1048576) (by decide);exact ⟨by rw [Qus L.k L.w L.t L.h,Jw.2 h1.eo],Qt1 h1⟩
  obtain ⟨a1,a2⟩:=side a b t.a t.ab;obtain ⟨b1,b2⟩:=side b a t.b t.ba;refine .bd (Q:=fun x=>x=Sum.inr ()) (.lp (fun i=>i=0 ∨ i=1 ∨ i=2) (fun i=>(2 - i).toNat) (.inl rfl) fun i hi=>?_) fun x hx=>?_
  · rcases hi with q | q | q <;> subst q
    · refine .ite (fun _=>.gd (by simp) (.bd (Q:=fun x=>x=true) ⟨_,a1,rfl⟩ fun x6 h6=>.gd (fun _=>⟨(by decide:(0:Int)≤IntKind.i64.wrap (1 - 0)),(by decide:IntKind.i64.wrap (1 - 0) < (2:Int))⟩) ?_)) fun c=>absurd (by rfl) c;subst h6;have hne:((([a,b]:List Qxc).getD ((0:Int)).toNat default).End.Name != (([a,b]:List Qxc).getD ((IntKind.i64.wrap (1 - 0)).toNat) default).End.Peer)=false:=by
        show (a.End.Name != b.End.Peer)=false;rw [t.ab]; simp
      rw [hne];refine .bd (Q:=fun x=>a.Up=false→x=true) (.gcall (fun c=>⟨_,a2 (by simpa using c.1),fun _=>rfl⟩) fun c q=>absurd ⟨by show (!a.Up)=true; rw [q]; rfl,rfl⟩ c) fun x8 h8=>.ite (fun c=>?_) fun _=>.ret ⟨.inr (.inl (by decide)),by show (2 - IntKind.i64.wrap ((0:Int)+1)).toNat < (2 - (0:Int)).toNat; decide⟩;exfalso;have c:(((!true) || false) || ((!a.Up) && (!x8)))=true:=c
      cases hu:a.Up
      · rw [hu,h8 hu] at c; cases c
      · rw [hu] at c; cases c
    · refine .ite (fun _=>.gd (by simp) (.bd (Q:=fun x=>x=true) ⟨_,b1,rfl⟩ fun x6 h6=>.gd (fun _=>⟨(by decide:(0:Int)≤IntKind.i64.wrap (1 - 1)),(by decide:IntKind.i64.wrap (1 - 1) < (2:Int))⟩) ?_)) fun c=>absurd (by rfl) c;subst h6;have hne:((([a,b]:List Qxc).getD ((1:Int)).toNat default).End.Name != (([a,b]:List Qxc).getD ((IntKind.i64.wrap (1 - 1)).toNat) default).End.Peer)=false:=by
        show (b.End.Name != a.End.Peer)=false;rw [t.ba]; simp
      rw [hne];refine .bd (Q:=fun x=>b.Up=false→x=true) (.gcall (fun c=>⟨_,b2 (by simpa using c.1),fun _=>rfl⟩) fun c q=>absurd ⟨by show (!b.Up)=true; rw [q]; rfl,rfl⟩ c) fun x8 h8=>.ite (fun c=>?_) fun _=>.ret ⟨.inr (.inr (by decide)),by show (2 - IntKind.i64.wrap ((1:Int)+1)).toNat < (2 - (1:Int)).toNat; decide⟩;exfalso;have c:(((!true) || false) || ((!b.Up) && (!x8)))=true:=c
      cases hu:b.Up
      · rw [hu,h8 hu] at c; cases c
      · rw [hu] at c; cases c
    · exact .ite (fun c=>absurd c (by simp)) fun _=>.ret rfl
  subst hx;dsimp only;refine .bd (Q:=fun x=>x=Sum.inr ()) ⟨_,QgL R.length (fun i=>Z4 (R.getD i default)) (.inl ()) (.inr ()) (fun i hi _=>?_) (fun _=>?_),?_⟩ fun x hx=>?_
  · rw [if_pos (by simp; omega),Qp (by omega),Int.toNat_natCast,QK hi (by omega)];refine (congrArg (fun m=>bd m _) (Qoo _)).trans ?_;rw [Qb];show (if (!(Z4 (R.getD i default)))=true then _ else _)=_
    cases Z4 (R.getD i default) <;> rfl
  · rw [if_neg (by simp)]
  · rw [if_pos (Qfj fun i hi=>h.words _ (Zj hi))]
  · subst hx;exact .ret rfl
theorem QiB {s:W3} (h:Gs s) {e:Qxf} (h1:e.Want.length≤1048576) (h2:e.Keys.length≤1048576):J7 (toW s) e=some (toW (ZI s e)):=by
  unfold J7 Qda;rw [QwA h,Qb,if_neg (by decide)];show bd (Qd5 s.1 s.2.1 s.2.2 e.Kind e.At e.Want e.Keys e.Word) _=_;rw [QvD h h1 h2,Qb]
  rfl
theorem QsG {s:W3} (h:Gs s) (n:Int):QaA (toW s) n=some (toW (calmG (roundsN n) s)):=by
  unfold QaA Qc9;rw [QwA h,Qb,if_neg (by decide)];show bd (Qd6 s.1 s.2.1 s.2.2 n) _=_;rw [QvE h,Qb]
  rfl
end Go.Proofs.YtjgjdobkahdgfaaGreat
