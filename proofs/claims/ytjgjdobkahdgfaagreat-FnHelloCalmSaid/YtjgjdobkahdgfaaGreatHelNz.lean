/-
  Plain Lean: worlds in plain functions; the program's functions compute these.
-/
import Derived.Test.YtjgjdobkahdgfaaGreatKz5
import Derived.Test.YtjgjdobkahdgfaaGreatHelMz
import Derived.Test.YtjgjdobkahdgfaaGreatHelWbz
set_option linter.all false
namespace Go.Proofs.YtjgjdobkahdgfaaGreat
open Go Go.Ab
set_option maxHeartbeats 1000000
set_option maxRecDepth 100000
theorem Qjx {xs:List Qxl} (h:xs.length≤1048576):Zt xs=some xs:=by
  unfold Zt;rw [Qp (by omega),Qp (by simp; omega)]; rfl
theorem Qh9 {xs:List Qxm} (h:xs.length≤1048576):QE xs=some xs:=by
  unfold QE;rw [Qp (by omega),Qp (by simp; omega)]; rfl
theorem QpZ {xs:List Qxo} (h:xs.length≤1048576):ZA xs=some xs:=by
  unfold ZA;rw [Qp (by omega),Qp (by simp; omega)]; rfl
theorem Qt7 {xs:List Qxr} (h:xs.length≤1048576):JF xs=some xs:=by
  unfold JF;rw [Qp (by omega),Qp (by simp; omega)]; rfl
theorem Qre {t:List Qxm} (h:t.length≤1048576) (ho:Ord idE t) (x:Qxm):QT t x=some (!Qh7 t x):=by
  have e:Q4 t x=some (match Z7 (fun i=>decide (t.getD i default=x)) t.length with | some i=>(i:Int) | none=>-1):=by
    unfold Q4;rw [QbM t.length (fun i=>decide (t.getD i default=x)) (fun i=>Sum.inl (i:Int)) (.inr ()) (fun i hi=>?_) (by rw [if_neg (by simp)]),Qb]
    · cases Z7 (fun i=>decide (t.getD i default=x)) t.length <;> rfl
    · rw [if_pos (by simp; omega),Qp (by omega),Int.toNat_natCast,QM hi (by omega)];generalize t.getD i default=y;have:(x.Addr == y.Addr && (x.Len == y.Len && (x.Cost == y.Cost && (x.Label == y.Label && true))))=decide (y=x):=by
        cases x; cases y
        rw [Bool.eq_iff_iff];simp only [Bool.and_eq_true,beq_iff_eq,decide_eq_true_eq,Qxm.mk.injEq,and_true];exact ⟨fun ⟨q1,q2,q3,q4⟩=>⟨q1.symm,q2.symm,q3.symm,q4.symm⟩,fun ⟨q1,q2,q3,q4⟩=>⟨q1.symm,q2.symm,q3.symm,q4.symm⟩⟩
      rw [this];split <;> rfl
  unfold QT;rw [e,Qb];unfold Qh7
  cases hf:Z7 (fun i=>decide (t.getD i default=x)) t.length with
  | some i =>
    obtain ⟨q1,q2,_⟩:=ZK hf;have q2:t.getD i default=x:=by simpa using q2
    obtain ⟨r1,r2⟩:=QdO (f:=idE) ho (e:=x) q1 (by rw [q2]; exact ⟨rfl,rfl⟩);rw [r2,← r1,q2];simp
  | none =>
    have q:=JP hf;have:(!Qbk idE t x || !decide (t.getD (posK idE t x) default=x))=true:=by
      cases hh:Qbk idE t x
      · rfl
      · have q2:decide (t.getD (posK idE t x) default=x)=false:=q _ (J8.1 hh).1;rw [q2]; rfl
    rw [this]
    rfl
theorem QvL {e:Qxp} (ht:To e.Told) (hw:To e.Want):Qah e=some (Qd1 e):=by
  have l1:=ht.len;have l2:=hw.len;unfold Qah Qd1;rw [QbM e.Told.length (fun i=>!Qbk idE e.Want (e.Told.getD i default)) (fun i=>Sum.inl ((e.Told.getD i default).Addr,(e.Told.getD i default).Len)) (.inr ()) (fun i hi=>?_) (by rw [if_neg (by simp)]),Qb]
  · cases hf:Z7 (fun i=>!Qbk idE e.Want (e.Told.getD i default)) e.Told.length with
    | some i=>rfl
    | none =>
      dsimp only;rw [QbM e.Want.length (fun i=>Qh7 e.Told (e.Want.getD i default)) (fun i=>Sum.inl ((e.Want.getD i default).Addr,(e.Want.getD i default).Len,(e.Want.getD i default).Cost,(e.Want.getD i default).Label)) (.inr ()) (fun i hi=>?_) (by rw [if_neg (by simp)]),Qb]
      · cases Z7 (fun i=>Qh7 e.Told (e.Want.getD i default)) e.Want.length with
        | some i=>rfl
        | none =>
          dsimp only
          cases e.All <;> rfl
      · rw [if_pos (by simp; omega),Qp (by omega),Int.toNat_natCast,QM hi (by omega),Qre (by omega) (QeC ht),Qb,Bool.not_not];split <;> rfl
  · rw [if_pos (by simp; omega),Qp (by omega),Int.toNat_natCast,QM hi (by omega),Qbw,Qb,Qse (by omega) (QeC hw) (QaA (ht.ent _ (Zo hi))),Qb];split <;> rfl
theorem QuL {e:Qxp} (h:Eo e):JN e=some ((QfP e).2.1,(QfP e).2.2,(QfP e).1):=by
  have L:=(ZX h).mono (m:=1048576) (by decide);have hb:=h.boot;have ht:=h.turn;have hn:=h.num;unfold JN QfP ZU;rw [Qb]
  by_cases cb:e.Boot=1000
  · rw [if_pos (by simpa using cb),if_pos cb]; rfl
  rw [if_neg (by simpa using cb),if_neg cb]
  by_cases ct:e.Turn=1000000
  · rw [if_pos (by simpa using ct),if_pos ct,Qju L.h hb,Qb]; rfl
  rw [if_neg (by simpa using ct),if_neg ct];have kp:=Qjv h;have e0:((e.Keys.length:Nat):Int) - 1=((e.Keys.length - 1:Nat):Int):=by omega
  rw [wrap_i64 (n:=e.Turn+1) (by omega) (by omega),wrap_i64 (n:=((e.Keys.length:Nat):Int) - 1) (by omega) (by omega),e0,Int.toNat_natCast];refine (Qka (x:=((Qc7 e).1,(Qc7 e).2.Kind,(Qc7 e).2.Entry.Addr,(Qc7 e).2.Entry.Len,(Qc7 e).2.Entry.Cost,(Qc7 e).2.Entry.Label)) ?_).trans ?_
  · unfold Qc7
    by_cases c:e.Up=true∧e.Under.Kind=0
    · rw [if_pos (by simpa using c),if_pos c,QvL (e:={ e with Turn:=e.Turn+1 }) h.told h.want,Qb];have en:Qd1 { e with Turn:=e.Turn+1 }=Qd1 e:=rfl;have ck:QV (Qd1 e)=true:=by
        obtain ⟨c,e1,c1,_⟩:=QiH (e:=e) h.told h.want;rw [QoV h.told h.want] at e1;rw [Option.some.inj e1]; exact c1
      rw [en,wrap_i64 (n:=e.Num+1) (by omega) (by omega),← Qdj ck]
      by_cases k:(Qd1 e).Kind > 0
      · rw [if_pos (by simpa using k),if_pos k]
      · rw [if_neg (by simpa using k),if_neg k]
    · rw [if_neg (by simpa using c),if_neg c]
  · dsimp only;rw [Qp (by omega),QuD,Qb]
    rfl
theorem Qp0 {e:Qxp} (h:Eo e):Qcb e=some (Qrb e):=by
  have L:=ZX h;have l1:=L.k;have l2:=L.w;unfold Qcb;rw [Qjx (by omega),Qb,Qh9 (by omega),Qb]
  rfl
theorem Qp1 {e:Qxp} (h:Eo e):Zm e=some e:=by
  have L:=ZX h;have l1:=L.k;have l2:=L.w;have l3:=L.t;have l4:=L.h;unfold Zm;rw [Qjx (by omega),Qb,Qh9 (by omega),Qb,Qh9 (by omega),Qb,QpZ (by omega),Qb]
theorem QsR {a b:Qxq} {R:List Qxr} (h:Gs (a,b,R)):QeP a b R=some (a,b,R):=by
  have hl:R.length≤12:=h.len;have t:Two a b:=h.two;unfold QeP;rw [Qt7 (by omega),Qb,Qp1 t.a.eo,Qb,Qp1 t.b.eo,Qb]
theorem Qp2 {R:List Qxr} (hl:R.length≤12) (x:Qxr):Qev R x=some (QmX R x):=by
  unfold Qev QmX
  by_cases c:R.length < 12
  · rw [if_pos (by simp; omega),if_pos c,Qp (by simp; omega)]
  · rw [if_neg (by simp; omega),if_neg c]
theorem QnP {e:Qxp} (h:Eo e) (w:Qxr):Qqr e (helloHear e w)=helloHear e w:=by
  have hr:=QtZ (JI.2 h);have q:(helloHear e w).Name=e.Name∧(helloHear e w).Peer=e.Peer∧(helloHear e w).Boot=e.Boot∧(helloHear e w).Turn=e.Turn∧(helloHear e w).Keys=e.Keys∧(helloHear e w).Want=e.Want:=by
    unfold helloHear;rw [if_pos (JI.2 h)];split
    · obtain ⟨q1,q2,q3,q4⟩:=Qhs (y:=JB e w) (w:=w);obtain ⟨r1,r2,_⟩:=Qhr (Qh6 hr w) w;obtain ⟨k1,k2⟩:=QiC (e:=e) (w:=w);have b:(JB e w).Name=e.Name∧(JB e w).Peer=e.Peer∧(JB e w).Boot=e.Boot∧(JB e w).Turn=e.Turn:=by
        unfold JB;split <;> exact ⟨rfl,rfl,rfl,rfl⟩
      exact ⟨q1.trans b.1,q2.trans b.2.1,q3.trans b.2.2.1,q4.trans b.2.2.2,r1.trans k1,r2.trans k2⟩
    · exact ⟨rfl,rfl,rfl,rfl,rfl,rfl⟩
  obtain ⟨q1,q2,q3,q4,q5,q6⟩:=q;unfold Qqr;rw [← q1,← q2,← q3,← q4,← q5,← q6]
theorem Qp3 {e:Qxp} (h:Eo e) (w:Qxr):Z3 e w=some (helloHear e w):=by
  have L:=(ZX h).mono (m:=1048576) (by decide);rw [QsN L.k (QtZ (JI.2 h))];unfold helloHear;rw [if_pos (JI.2 h)]
theorem Qt8 {a b:Qxq} (t:Two a b):a.End.Name ≠ b.End.Name:=fun q=>t.a.eo.ne (by rw [q,t.ba])
theorem Qt9 {a b:Qxq} (t:Two a b) (x:Qxr):QeQ a b x=some (Qc8 a x,Qc8 b x):=by
  have hn:=Qt8 t;unfold QeQ
  by_cases c:a.Up=true∧a.End.Name=x.To
  · rw [if_pos (by simpa using c),Qp3 t.a.eo,Qb,QnP t.a.eo,Qe6 c,QdH (s:=b) fun q=>hn (c.2.trans q.2.symm)]
  · rw [if_neg (by simpa using c),QdH c]
    by_cases d:b.Up=true∧b.End.Name=x.To
    · rw [if_pos (by simpa using d),Qp3 t.b.eo,Qb,QnP t.b.eo,Qe6 d]
    · rw [if_neg (by simpa using d),QdH d]
theorem QvM {t:List Qxr} (h:t.length≤1048576) {i:Int} (hi:0≤i∧i < (t.length:Int)):Zb t i (IntKind.i64.wrap (i+1))=some (Qv7 t i.toNat):=by
  unfold Zb;rw [wrap_i64 (by omega) (by omega),Qp (by omega),show (i+1).toNat=i.toNat+1 by omega]
  rfl
theorem QmM {s:W3} (h:Gs s) {k:Int} (hk:k=2 ∨ k=3 ∨ k=4) (at_:Int):Qbg s.1 s.2.1 s.2.2 k at_=some (Qjb s k at_):=by
  have hl:=h.len;unfold Qbg Qjb;rw [Jd,Qb,wrap_i64 (n:=((s.2.2.length:Nat):Int) - 1) (by omega) (by omega)]
  by_cases c:0≤at_∧at_ < (s.2.2.length:Int)
  · rw [Jz.2 (by omega),if_neg (by decide),if_pos c,Qp c]
    by_cases k3:k=3
    · rw [if_pos (by simpa using k3),if_neg (by omega),if_pos k3,Qp2 hl,Qb]
    · rw [if_neg (by simpa using k3),QvM (by omega) c,Qb]
      by_cases k2:k=2
      · rw [if_pos (by simpa using k2),if_pos k2,Qt9 h.two,Qb]; rfl
      · rw [if_neg (by simpa using k2),if_neg k2,if_neg k3]
  · have:inR at_ 0 (((s.2.2.length:Nat):Int) - 1)=false:=by
      rw [Bool.eq_false_iff];intro q;have:=Jz.1 q;omega
    rw [this,if_pos (by decide),if_neg c]
theorem QuM {s:W3} (h:Gs s):Qcc s.1 s.2.1 s.2.2=some (QgX s):=by
  obtain ⟨a,b,R⟩:=s;unfold Qcc
  induction R generalizing a b with
  | nil=>exact QdM rfl
  | cons x r ih =>
    have e:=QmM h (.inl rfl) 0;have w:Qjb (a,b,x :: r) 2 0=QcO (a,b,x :: r) 0:=by
      unfold Qjb;rw [if_pos ⟨Int.le_refl _,by simp <;> omega⟩,if_pos rfl]; rfl
    rw [w] at e;refine (Qhf (s':=QcO (a,b,x :: r) 0) ?_).trans (ih _ _ (QgA (i:=0) h (by simp)));dsimp only;rw [if_pos (by simp <;> omega),show Qbg a b (x :: r) 2 0=_ from e,Qb]
theorem Qp4 {a b:Qxq} (t:Two a b) (x:Qxr):QeR a b x=some (QP a.End.Keys x || QP b.End.Keys x):=by
  have ka:=(ZX t.a.eo).k;have kb:=(ZX t.b.eo).k;have e:Qn [a,b] x=some (match Z7 (fun i=>QP (([a,b]:List Qxq).getD i default).End.Keys x) 2 with | some i=>(i:Int) | none=>-1):=by
    unfold Qn;rw [QbM 2 (fun i=>QP (([a,b]:List Qxq).getD i default).End.Keys x) (fun i=>Sum.inl (i:Int)) (.inr ()) (fun i hi=>?_) (by rw [if_neg (by simp)]),Qb]
    · cases Z7 (fun i=>QP (([a,b]:List Qxq).getD i default).End.Keys x) 2 <;> rfl
    · have hl:(([a,b]:List Qxq).getD i default).End.Keys.length≤1048576:=by
        have:i=0 ∨ i=1:=by omega
        rcases this with q | q <;> subst q
        · exact Nat.le_trans ka (by decide)
        · exact Nat.le_trans kb (by decide)
      rw [if_pos (by simp; omega),Qp (by simp; omega),Int.toNat_natCast,QM hi (by omega)];unfold Zz;dsimp only;rw [QpM hl,Qb,Qb];split <;> rfl
  unfold QeR Qk;rw [e,Qb];have f:Z7 (fun i=>QP (([a,b]:List Qxq).getD i default).End.Keys x) 2=if QP a.End.Keys x=true then some 0 else if QP b.End.Keys x=true then some 1 else none:=by
    cases hf:Z7 (fun i=>QP (([a,b]:List Qxq).getD i default).End.Keys x) 2 with
    | some i =>
      obtain ⟨q1,q2,q3⟩:=ZK hf;have:i=0 ∨ i=1:=by omega
      rcases this with q | q <;> subst q
      · have q2:QP a.End.Keys x=true:=q2;rw [if_pos q2]
      · have q2:QP b.End.Keys x=true:=q2;have q4:QP a.End.Keys x=false:=q3 0 (by decide);rw [if_neg (by rw [q4]; decide),if_pos q2]
    | none =>
      have q:=JP hf;have q1:QP a.End.Keys x=false:=q 0 (by decide);have q2:QP b.End.Keys x=false:=q 1 (by decide);rw [if_neg (by rw [q1]; decide),if_neg (by rw [q2]; decide)]
  rw [f]
  cases QP a.End.Keys x
  · cases QP b.End.Keys x <;> rfl
  · rfl
theorem QwL {a b:Qxq} (t:Two a b) (x:Qxr):QgZ a b x=some (!(QP a.End.Keys x || QP b.End.Keys x)):=by
  unfold QgZ;rw [Qp4 t,Qb]
theorem QwM {b:Bool} (h:(!b)=false):b=true:=by cases b; cases h; rfl
theorem QuN {s:W3} (h:Gs s):Qgn s.1 s.2.1 s.2.2=some (Qht s):=by
  obtain ⟨a,b,xs⟩:=s;have t:Two a b:=h.two;have hl:xs.length≤12:=h.len;have ix:QhA a b xs=some (match Z7 (fun i=>!(QP a.End.Keys (xs.getD i default) || QP b.End.Keys (xs.getD i default))) xs.length with | some i=>(i:Int) | none=>-1):=by
    unfold QhA;rw [QbM xs.length (fun i=>!(QP a.End.Keys (xs.getD i default) || QP b.End.Keys (xs.getD i default))) (fun i=>Sum.inl (i:Int)) (.inr ()) (fun i hi=>?_) (by rw [if_neg (by simp)]),Qb]
    · cases Z7 (fun i=>!(QP a.End.Keys (xs.getD i default) || QP b.End.Keys (xs.getD i default))) xs.length <;> rfl
    · rw [if_pos (by simp; omega),Qp (by omega),Int.toNat_natCast,QM hi (by omega),QwL t,Qb];split <;> rfl
  unfold Qgn Qht;dsimp only;rw [ix,Qb]
  cases hf:Z7 (fun i=>!(QP a.End.Keys (xs.getD i default) || QP b.End.Keys (xs.getD i default))) xs.length with
  | none =>
    have:=JP hf;dsimp only;rw [if_pos (by decide)];have e:=Qfy (k:=fun w=>QP a.End.Keys w || QP b.End.Keys w) (xs:=xs) (n:=xs.length) fun q hq _=>QwM (this q hq);rw [List.take_length] at e;rw [e]
  | some i =>
    obtain ⟨h1,h2,h3⟩:=ZK hf;dsimp only;rw [if_neg (by simp <;> omega)];have start:Dl xs (fun w=>QP a.End.Keys w || QP b.End.Keys w) xs i (i+1):=by
      refine ⟨Nat.lt_succ_self _,h1,rfl,?_,fun _ _=>rfl⟩;have e2:xs[i]?=some (xs.getD i default):=by simp [List.getD_eq_getElem?_getD,h1]
      rw [List.take_succ,List.filter_append,e2,Qfy fun q hq _=>QwM (h3 q hq)];show _=_ ++ ([xs.getD i default]).filter (fun w=>QP a.End.Keys w || QP b.End.Keys w);have h2:¬ (QP a.End.Keys (xs.getD i default) || QP b.End.Keys (xs.getD i default))=true:=by simpa using h2
      rw [List.filter_cons,if_neg h2];simp
    have key:Post (lp (σ:=List Qxr × Int × Int) (β:=Nat × Int × List Qxr) (fun s2 =>
        (if (decide (s2.2.2 < ((s2.1.length:Nat):Int)))=true then
        gd ((0:Int)≤s2.2.2∧s2.2.2 < ((s2.1.length:Nat):Int)) <|
        bd (QgZ a b (s2.1.getD s2.2.2.toNat default)) fun x7 =>
        (if (!x7)=true then
        gd ((0:Int)≤s2.2.1∧s2.2.1 < ((s2.1.length:Nat):Int)) <|
        bd (some (s2.1.set s2.2.1.toNat (s2.1.getD s2.2.2.toNat default))) fun x9 =>
        some (.inl (x9,IntKind.i64.wrap (s2.2.1+1),IntKind.i64.wrap (s2.2.2+1)))
        else
        some (.inl (s2.1,s2.2.1,IntKind.i64.wrap (s2.2.2+1))))
        else
        some (.inr (s2.1.length,s2.2.1,s2.1)))) (xs,(i:Int),IntKind.i64.wrap ((i:Int)+1))) fun x=>∃ q:Nat,x.2.1=(q:Int)∧q≤x.1∧x.2.2.take q=xs.filter (fun w=>QP a.End.Keys w || QP b.End.Keys w):=by
      rw [QM h1 (by omega)];refine .lp (fun s=>∃ p j:Nat,s.2.1=(p:Int)∧s.2.2=(j:Int)∧Dl xs (fun w=>QP a.End.Keys w || QP b.End.Keys w) s.1 p j) (fun s=>xs.length - s.2.2.toNat) ⟨i,i+1,rfl,rfl,start⟩ fun s ⟨p,j,ep,ej,D⟩=>?_;obtain ⟨ys,sp,sj⟩:=s;dsimp only at ep ej D ⊢;subst ep ej;have hlt:=D.lt;have hle:=D.le;have hlen:=D.len;refine .ite (fun c=>?_) fun c=>.ret ?_
      · have c:=of_decide_eq_true c;have hj:j < xs.length:=by omega
        refine .gd (by omega) ?_;rw [Int.toNat_natCast,QwL t,Qb,QM (n:=xs.length) hj (by omega),Bool.not_not];refine .ite (fun k=>.gd (by omega) ?_) fun k=>.ret ⟨⟨p,j+1,rfl,rfl,D.skip hj (by simpa using k)⟩,by dsimp only; omega⟩;rw [Int.toNat_natCast,Qb,QM (n:=xs.length) (by omega) (by omega)];exact .ret ⟨⟨p+1,j+1,rfl,rfl,D.keep hj k⟩,by dsimp only; omega⟩
      · have:j=xs.length:=by
          simp only [decide_eq_true_eq] at c;omega
        refine ⟨p,rfl,by dsimp only; omega,?_⟩;have t:=D.take;rw [this,List.take_length] at t;exact t
    obtain ⟨x,e,q,e1,e2,e3⟩:=key;refine (congrArg (fun m=>bd m _) e).trans ?_;rw [Qb,e1,Qp (by omega),Qp (by omega),Int.toNat_natCast,QpJ,e3]
theorem QnQ (e:Qxp):QhB e (ZM e)=ZM e:=rfl
theorem QnR (e:Qxp):QhB e (Qcl e)=Qcl e:=by
  have k:QhB e (keepTick e)=keepTick e:=by
    unfold keepTick;split <;> rfl
  unfold Qcl Qc5;generalize keepTick e=x at *;rw [← k];split
  · split <;> rfl
  · rfl
theorem Qp5 (e:Qxp):QhB e (QfP e).1=(QfP e).1:=by
  unfold QfP;split
  · rfl
  split <;> rfl
theorem Qp6 {e:Qxp} (h:Eo e):Z4 e=some (Qcl e):=by
  have L:=(ZX h).mono (m:=1048576) (by decide);obtain ⟨n1,n2,n3⟩:=QlJ (JI.2 h);exact QsK L.h n1 n2 n3
theorem QmN {s:W3} (h:Gs s) (k:Int) {want:List Qxm} {keys:List Qxl} (h1:want.length≤1048576) (h2:keys.length≤1048576):QbX s.1 s.2.1 s.2.2 k want keys=some (QaY s k 0 want keys):=by
  have hd:=QuN h;obtain ⟨a,b,R⟩:=s;have t:Two a b:=h.two;have so:=t.a;have hl:R.length≤12:=h.len;have yes:∀ {x:Qxq} {rd:List Qxr},Qbc a k want keys=x→Zd a R (Qht (a,b,R)) k keys=rd→some (x,b,rd)=some (QaY (a,b,R) k 0 want keys):=fun e1 e2=>by
    subst e1; subst e2; rfl
  have L:=(ZX so.eo).mono (m:=1048576) (by decide);dsimp only at hd ⊢;unfold QbX
  by_cases c1:k=1∧a.Up=true
  · rw [if_pos (by simpa using c1),QuL so.eo,Qb];dsimp only;rw [Qp5]
    by_cases w:(QfP a.End).2.2=true
    · rw [if_pos w,Qp2 hl,Qb];exact yes (by simp [Qbc,c1]) (by simp [Zd,c1,w])
    · rw [if_neg w];exact yes (by simp [Qbc,c1]) (by simp [Zd,c1,w])
  rw [if_neg (by simpa using c1)]
  by_cases c5:k=5∧a.Up=true
  · rw [if_pos (by simpa using c5),Qp6 so.eo,Qb,QnR];exact yes (by simp [Qbc,c5]) (by simp [Zd,c5])
  rw [if_neg (by simpa using c5)]
  by_cases c6:k=6
  · rw [if_pos (by simpa using c6),Qp0 so.eo,Qb];exact yes (by simp [Qbc,c6]) (by simp [Zd,c6])
  rw [if_neg (by simpa using c6)]
  by_cases c7:k=7∧a.Up=false
  · rw [if_pos (by simpa using c7),Qju L.h so.eo.boot,Qb,QnQ];exact yes (by simp [Qbc,c7]) (by simp [Zd,c7])
  rw [if_neg (by simpa using c7),Qh1 h1,Qb5,Qb]
  by_cases c8:k=8∧J1 want=true
  · rw [if_pos (by simp [c8]),Qh9 h1,Qb];exact yes (by simp [Qbc,c8]) (by simp [Zd,c8])
  rw [if_neg (by simp only [Bool.and_eq_true,beq_iff_eq]; intro q; rw [if_pos (by simpa using q.1)] at q; exact c8 q),Qmz h2,Qb5,Qb]
  by_cases c9:k=9∧Qbb keys=true
  · rw [if_pos (by simp [c9]),hd,Qb,Qjx h2,Qb];exact yes (by simp [Qbc,c9]) (by simp [Zd,c9])
  rw [if_neg (by simp only [Bool.and_eq_true,beq_iff_eq]; intro q; rw [if_pos (by simpa using q.1)] at q; exact c9 q)];refine yes ?_ ?_
  · unfold Qbc;split
    · next q=>rw [if_neg fun u=>c1 ⟨q,u⟩]
    split
    · next q=>rw [if_neg fun u=>c5 ⟨q,u⟩]
    try rw [if_neg c6]
    split
    · next q=>rw [if_pos (by cases hu:a.Up; exact absurd ⟨q,hu⟩ c7; rfl)]
    split
    · next q=>rw [if_neg fun u=>c8 ⟨q,u⟩]
    split
    · next q=>rw [if_neg fun u=>c9 ⟨q,u⟩]
    rfl
  · unfold Zd;split
    · next q=>rw [if_neg fun u=>c1 ⟨q,u.1⟩]
    first | rw [if_neg c9] | rfl
theorem QmO {s:W3} (h:Gs s) (k:Int) {want:List Qxm} {keys:List Qxl} (h1:want.length≤1048576) (h2:keys.length≤1048576):QbY s.1 s.2.1 s.2.2 k want keys=some (QaY s k 1 want keys):=by
  have hd:=QuN h;obtain ⟨b,a,R⟩:=s;have t:Two b a:=h.two;have so:=t.b;have hl:R.length≤12:=h.len;have yes:∀ {x:Qxq} {rd:List Qxr},Qbc a k want keys=x→Zd a R (Qht (b,a,R)) k keys=rd→some (b,x,rd)=some (QaY (b,a,R) k 1 want keys):=fun e1 e2=>by
    subst e1; subst e2; rfl
  have L:=(ZX so.eo).mono (m:=1048576) (by decide);dsimp only at hd ⊢;unfold QbY
  by_cases c1:k=1∧a.Up=true
  · rw [if_pos (by simpa using c1),QuL so.eo,Qb];dsimp only;rw [Qp5]
    by_cases w:(QfP a.End).2.2=true
    · rw [if_pos w,Qp2 hl,Qb];exact yes (by simp [Qbc,c1]) (by simp [Zd,c1,w])
    · rw [if_neg w];exact yes (by simp [Qbc,c1]) (by simp [Zd,c1,w])
  rw [if_neg (by simpa using c1)]
  by_cases c5:k=5∧a.Up=true
  · rw [if_pos (by simpa using c5),Qp6 so.eo,Qb,QnR];exact yes (by simp [Qbc,c5]) (by simp [Zd,c5])
  rw [if_neg (by simpa using c5)]
  by_cases c6:k=6
  · rw [if_pos (by simpa using c6),Qp0 so.eo,Qb];exact yes (by simp [Qbc,c6]) (by simp [Zd,c6])
  rw [if_neg (by simpa using c6)]
  by_cases c7:k=7∧a.Up=false
  · rw [if_pos (by simpa using c7),Qju L.h so.eo.boot,Qb,QnQ];exact yes (by simp [Qbc,c7]) (by simp [Zd,c7])
  rw [if_neg (by simpa using c7),Qh1 h1,Qb5,Qb]
  by_cases c8:k=8∧J1 want=true
  · rw [if_pos (by simp [c8]),Qh9 h1,Qb];exact yes (by simp [Qbc,c8]) (by simp [Zd,c8])
  rw [if_neg (by simp only [Bool.and_eq_true,beq_iff_eq]; intro q; rw [if_pos (by simpa using q.1)] at q; exact c8 q),Qmz h2,Qb5,Qb]
  by_cases c9:k=9∧Qbb keys=true
  · rw [if_pos (by simp [c9]),hd,Qb,Qjx h2,Qb];exact yes (by simp [Qbc,c9]) (by simp [Zd,c9])
  rw [if_neg (by simp only [Bool.and_eq_true,beq_iff_eq]; intro q; rw [if_pos (by simpa using q.1)] at q; exact c9 q)];refine yes ?_ ?_
  · unfold Qbc;split
    · next q=>rw [if_neg fun u=>c1 ⟨q,u⟩]
    split
    · next q=>rw [if_neg fun u=>c5 ⟨q,u⟩]
    try rw [if_neg c6]
    split
    · next q=>rw [if_pos (by cases hu:a.Up; exact absurd ⟨q,hu⟩ c7; rfl)]
    split
    · next q=>rw [if_neg fun u=>c8 ⟨q,u⟩]
    split
    · next q=>rw [if_neg fun u=>c9 ⟨q,u⟩]
    rfl
  · unfold Zd;split
    · next q=>rw [if_neg fun u=>c1 ⟨q,u.1⟩]
    first | rw [if_neg c9] | rfl
theorem QvN {a b:Qxq} {R:List Qxr} (h:Gs (a,b,R)) {e:Qxt} (h1:e.Want.length≤1048576) (h2:e.Keys.length≤1048576):Qed a b R e.Kind e.At e.Want e.Keys e.Word=some (Jr (a,b,R) e):=by
  unfold Qed Jr;rw [QsR h,Qb];dsimp only
  by_cases k2:e.Kind=2
  · rw [if_pos (by simpa using k2),if_pos (.inl k2)];exact QmM h (.inl k2) e.At
  rw [if_neg (by simpa using k2)]
  by_cases k3:e.Kind=3
  · rw [if_pos (by simpa using k3),if_pos (.inr (.inl k3))];exact QmM h (.inr (.inl k3)) e.At
  rw [if_neg (by simpa using k3)]
  by_cases k4:e.Kind=4
  · rw [if_pos (by simpa using k4),if_pos (.inr (.inr k4))];exact QmM h (.inr (.inr k4)) e.At
  rw [if_neg (by simpa using k4),if_neg (show ¬ (e.Kind=2 ∨ e.Kind=3 ∨ e.Kind=4) by omega)]
  by_cases k10:e.Kind=10
  · rw [if_pos (by simpa using k10),if_pos k10,QoD,Qb,Qp4 h.two];unfold Qh8;dsimp only
    cases Jb e.Word
    · simp [gcall]
    · cases QP a.End.Keys e.Word
      · cases QP b.End.Keys e.Word
        · simp [gcall,Qp2 (show R.length≤12 from h.len)]
        · simp [gcall]
      · simp [gcall]
  rw [if_neg (by simpa using k10),if_neg k10]
  by_cases z0:e.At=0
  · rw [if_pos (by simpa using z0),z0];exact QmN h e.Kind h1 h2
  rw [if_neg (by simpa using z0)]
  by_cases z1:e.At=1
  · rw [if_pos (by simpa using z1),z1];exact QmO h e.Kind h1 h2
  rw [if_neg (by simpa using z1),Jd,Qb];have:inR e.At 0 (IntKind.i64.wrap (((2:Nat):Int) - 1))=false:=by
    rw [Bool.eq_false_iff];intro q;have q:=Jz.1 q;have:IntKind.i64.wrap (((2:Nat):Int) - 1)=1:=by decide
    omega
  rw [this,if_neg (by decide)];unfold QaY;rw [if_neg z0,if_neg z1]
theorem Qua {s:W3} (h:Gs s):Qgo s=some (QaR s):=by
  have h1:=QiW h;have h2:=Qc9 h1 1 0 [] [];have h3:=Qc9 h2 1 1 [] [];have h4:=QiW h3;have h5:=Qc9 h4 5 0 [] [];unfold Qgo QaR;rw [QuM h,Qb,QmN h1 1 (Nat.zero_le _) (Nat.zero_le _),Qb,QmO h2 1 (Nat.zero_le _) (Nat.zero_le _),Qb,QuM h3,Qb,QmN h4 5 (Nat.zero_le _) (Nat.zero_le _),Qb,QmO h5 5 (Nat.zero_le _) (Nat.zero_le _)]
theorem QvO {a b:Qxq} {R:List Qxr} (h:Gs (a,b,R)) (n:Int):Qee a b R n=some (calmG (roundsN n) (a,b,R)):=by
  have hN:Qth n=((roundsN n:Nat):Int)∧roundsN n≤100:=by
    unfold Qth roundsN
    constructor
    · (repeat' split) <;> omega
    · (repeat' split) <;> omega
  unfold Qee;rw [QsR h,Qb,hN.1];refine Qc6 (.lp (fun t=>∃ i:Nat,i≤roundsN n∧t.1=calmG i (a,b,R)∧t.2=i) (fun t=>(100 - t.2).toNat) ⟨0,Nat.zero_le _,rfl,rfl⟩ fun t ⟨i,i0,i1,i2⟩=>.ite (fun c=>?_) fun c=>.ret ?_)
  · have c:t.2 < ((roundsN n:Nat):Int):=by simpa using c
    rw [i1,Qua (QoY h i),Qb,← QlO,wrap_i64 (by omega) (by omega)];exact .ret ⟨⟨i+1,by omega,rfl,by dsimp only; omega⟩,by dsimp only; omega⟩
  · have c:¬ t.2 < ((roundsN n:Nat):Int):=by simpa using c
    have:i=roundsN n:=by omega
    rw [i1,this]
theorem Qub {s:Qxq} (h:So s) (u:s.Up=false):Qa7 s.End=some true:=by
  have d:=h.down u;have pt:=h.eo.pp.1 d.pboot;have lf:s.End.Left=0:=by
    exact h.eo.lp d.pboot
  have kp:s.End.Keep=0:=by
    have k:=h.eo.heard.keep;have:=h.eo.heard.any;rw [d.heard] at this;have:¬ 0 < s.End.Keep:=fun q=>by
      have:=this.1 q
      cases this
    omega
  have un:Qkr s.End.Under.Entry=true:=by
    have:=h.eo.under;unfold QV at this;rw [if_pos (.inl d.kind)] at this;exact this
  unfold Qkr at un;simp only [Bool.and_eq_true,beq_iff_eq] at un;unfold Qa7;rw [d.turn,d.pboot,pt,d.up,lf,d.num,d.kind,un.1,un.2.1,un.2.2.1,un.2.2.2,d.told,d.all,d.got,d.full,d.heard,kp]
  rfl
theorem Quc {s:W3} (h:Gs s):Q9 (toW s)=some true:=by
  obtain ⟨a,b,R⟩:=s;have t:Two a b:=h.two;have hl:R.length≤12:=h.len;refine Qc6 ?_;show Post (Q9 ⟨[a,b],R⟩) _;unfold Q9;refine .ite (fun c=>?_) fun _=>?_
  · exfalso;simp only [Bool.or_eq_true,bne_iff_ne,ne_eq,decide_eq_true_eq] at c;rcases c with c | c
    · exact c rfl
    · omega
  have side:∀ (x y:Qxq),So x→x.End.Name=y.End.Peer→Qaq x.End=some true∧(x.Up=false→Qa7 x.End=some true):=fun x y h1 h2=>by
    have L:=(ZX h1.eo).mono (m:=1048576) (by decide);exact ⟨by rw [Qww L.k L.w L.t L.h,JI.2 h1.eo],Qub h1⟩
  obtain ⟨a1,a2⟩:=side a b t.a t.ab;obtain ⟨b1,b2⟩:=side b a t.b t.ba;refine .bd (Q:=fun x=>x=Sum.inr ()) (.lp (fun i=>i=0 ∨ i=1 ∨ i=2) (fun i=>(2 - i).toNat) (.inl rfl) fun i hi=>?_) fun x hx=>?_
  · rcases hi with q | q | q <;> subst q
    · refine .ite (fun _=>.gd (by simp) (.bd (Q:=fun x=>x=true) ⟨_,a1,rfl⟩ fun x6 h6=>.gd (fun _=>⟨(by decide:(0:Int)≤IntKind.i64.wrap (1 - 0)),(by decide:IntKind.i64.wrap (1 - 0) < (2:Int))⟩) ?_)) fun c=>absurd (by rfl) c;subst h6;have hne:((([a,b]:List Qxq).getD ((0:Int)).toNat default).End.Name != (([a,b]:List Qxq).getD ((IntKind.i64.wrap (1 - 0)).toNat) default).End.Peer)=false:=by
        show (a.End.Name != b.End.Peer)=false;rw [t.ab]; simp
      rw [hne];refine .bd (Q:=fun x=>a.Up=false→x=true) (.gcall (fun c=>⟨_,a2 (by simpa using c.1),fun _=>rfl⟩) fun c q=>absurd ⟨by show (!a.Up)=true; rw [q]; rfl,rfl⟩ c) fun x8 h8=>.ite (fun c=>?_) fun _=>.ret ⟨.inr (.inl (by decide)),by show (2 - IntKind.i64.wrap ((0:Int)+1)).toNat < (2 - (0:Int)).toNat; decide⟩;exfalso;have c:(((!true) || false) || ((!a.Up) && (!x8)))=true:=c
      cases hu:a.Up
      · rw [hu,h8 hu] at c; cases c
      · rw [hu] at c; cases c
    · refine .ite (fun _=>.gd (by simp) (.bd (Q:=fun x=>x=true) ⟨_,b1,rfl⟩ fun x6 h6=>.gd (fun _=>⟨(by decide:(0:Int)≤IntKind.i64.wrap (1 - 1)),(by decide:IntKind.i64.wrap (1 - 1) < (2:Int))⟩) ?_)) fun c=>absurd (by rfl) c;subst h6;have hne:((([a,b]:List Qxq).getD ((1:Int)).toNat default).End.Name != (([a,b]:List Qxq).getD ((IntKind.i64.wrap (1 - 1)).toNat) default).End.Peer)=false:=by
        show (b.End.Name != a.End.Peer)=false;rw [t.ba]; simp
      rw [hne];refine .bd (Q:=fun x=>b.Up=false→x=true) (.gcall (fun c=>⟨_,b2 (by simpa using c.1),fun _=>rfl⟩) fun c q=>absurd ⟨by show (!b.Up)=true; rw [q]; rfl,rfl⟩ c) fun x8 h8=>.ite (fun c=>?_) fun _=>.ret ⟨.inr (.inr (by decide)),by show (2 - IntKind.i64.wrap ((1:Int)+1)).toNat < (2 - (1:Int)).toNat; decide⟩;exfalso;have c:(((!true) || false) || ((!b.Up) && (!x8)))=true:=c
      cases hu:b.Up
      · rw [hu,h8 hu] at c; cases c
      · rw [hu] at c; cases c
    · exact .ite (fun c=>absurd c (by simp)) fun _=>.ret rfl
  subst hx;dsimp only;refine .bd (Q:=fun x=>x=Sum.inr ()) ⟨_,QgW R.length (fun i=>Jb (R.getD i default)) (.inl ()) (.inr ()) (fun i hi _=>?_) (fun _=>?_),?_⟩ fun x hx=>?_
  · rw [if_pos (by simp; omega),Qp (by omega),Int.toNat_natCast,QM hi (by omega)];refine (congrArg (fun m=>bd m _) (QoD _)).trans ?_;rw [Qb];show (if (!(Jb (R.getD i default)))=true then _ else _)=_
    cases Jb (R.getD i default) <;> rfl
  · rw [if_neg (by simp)]
  · rw [if_pos (Qfs fun i hi=>h.words _ (Zo hi))]
  · subst hx;exact .ret rfl
theorem QmP {s:W3} (h:Gs s) {e:Qxt} (h1:e.Want.length≤1048576) (h2:e.Keys.length≤1048576):QaG (toW s) e=some (toW (Jr s e)):=by
  unfold QaG Qdn;rw [Quc h,Qb,if_neg (by decide)];show bd (Qed s.1 s.2.1 s.2.2 e.Kind e.At e.Want e.Keys e.Word) _=_;rw [QvN h h1 h2,Qb]
  rfl
theorem QsS {s:W3} (h:Gs s) (n:Int):QaH (toW s) n=some (toW (calmG (roundsN n) s)):=by
  unfold QaH Qdm;rw [Quc h,Qb,if_neg (by decide)];show bd (Qee s.1 s.2.1 s.2.2 n) _=_;rw [QvO h,Qb]
  rfl
end Go.Proofs.YtjgjdobkahdgfaaGreat
