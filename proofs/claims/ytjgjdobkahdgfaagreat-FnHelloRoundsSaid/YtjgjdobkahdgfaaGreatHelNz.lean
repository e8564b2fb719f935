/-
  Plain Lean: worlds in plain functions; the program's functions compute these.
-/
import Derived.Test.YtjgjdobkahdgfaaGreatKz6
import Derived.Test.YtjgjdobkahdgfaaGreatHelMz
import Derived.Test.YtjgjdobkahdgfaaGreatHelWbz
set_option linter.all false
namespace Go.Proofs.YtjgjdobkahdgfaaGreat
open Go Go.Ab
set_option maxHeartbeats 1000000
set_option maxRecDepth 100000
theorem Qjj {xs:List Qv1} (h:xs.length≤1048576):Zp xs=some xs:=by
  unfold Zp;rw [Qn (by omega),Qn (by simp; omega)]; rfl
theorem QhX {xs:List Qv2} (h:xs.length≤1048576):QF xs=some xs:=by
  unfold QF;rw [Qn (by omega),Qn (by simp; omega)]; rfl
theorem Qs6 {xs:List Qv4} (h:xs.length≤1048576):Jq xs=some xs:=by
  unfold Jq;rw [Qn (by omega),Qn (by simp; omega)]; rfl
theorem Qs7 {xs:List Qv7} (h:xs.length≤1048576):JB xs=some xs:=by
  unfold JB;rw [Qn (by omega),Qn (by simp; omega)]; rfl
theorem Qqr {t:List Qv2} (h:t.length≤1048576) (ho:Ord idE t) (x:Qv2):QV t x=some (!Qki t x):=by
  have e:Q3 t x=some (match Z7 (fun i=>decide (t.getD i default=x)) t.length with | some i=>(i:Int) | none=>-1):=by
    unfold Q3;rw [Qbw t.length (fun i=>decide (t.getD i default=x)) (fun i=>Sum.inl (i:Int)) (.inr ()) (fun i hi=>?_) (by rw [if_neg (by simp)]),Qb]
    · cases Z7 (fun i=>decide (t.getD i default=x)) t.length <;> rfl
    · rw [if_pos (by simp; omega),Qn (by omega),Int.toNat_natCast,QE hi (by omega)];generalize t.getD i default=y;have:(x.Addr == y.Addr && (x.Len == y.Len && (x.Cost == y.Cost && (x.Label == y.Label && true))))=decide (y=x):=by
        cases x; cases y
        rw [Bool.eq_iff_iff];simp only [Bool.and_eq_true,beq_iff_eq,decide_eq_true_eq,Qv2.mk.injEq,and_true];exact ⟨fun ⟨q1,q2,q3,q4⟩=>⟨q1.symm,q2.symm,q3.symm,q4.symm⟩,fun ⟨q1,q2,q3,q4⟩=>⟨q1.symm,q2.symm,q3.symm,q4.symm⟩⟩
      rw [this];split <;> rfl
  unfold QV;rw [e,Qb];unfold Qki
  cases hf:Z7 (fun i=>decide (t.getD i default=x)) t.length with
  | some i =>
    obtain ⟨q1,q2,_⟩:=Z9 hf;have q2:t.getD i default=x:=by simpa using q2
    obtain ⟨r1,r2⟩:=Qkc (f:=idE) ho (e:=x) q1 (by rw [q2]; exact ⟨rfl,rfl⟩);rw [r2,← r1,q2];simp
  | none =>
    have q:=QaN hf;have:(!Qdp idE t x || !decide (t.getD (posK idE t x) default=x))=true:=by
      cases hh:Qdp idE t x
      · rfl
      · have q2:decide (t.getD (posK idE t x) default=x)=false:=q _ (QaR.1 hh).1;rw [q2]; rfl
    rw [this]
    rfl
theorem QuB {e:Qv5} (ht:To e.Told) (hw:To e.Want):Qac e=some (Qiz e):=by
  have l1:=ht.len;have l2:=hw.len;unfold Qac Qiz;rw [Qbw e.Told.length (fun i=>!Qdp idE e.Want (e.Told.getD i default)) (fun i=>Sum.inl ((e.Told.getD i default).Addr,(e.Told.getD i default).Len)) (.inr ()) (fun i hi=>?_) (by rw [if_neg (by simp)]),Qb]
  · cases hf:Z7 (fun i=>!Qdp idE e.Want (e.Told.getD i default)) e.Told.length with
    | some i=>rfl
    | none =>
      dsimp only;rw [Qbw e.Want.length (fun i=>Qki e.Told (e.Want.getD i default)) (fun i=>Sum.inl ((e.Want.getD i default).Addr,(e.Want.getD i default).Len,(e.Want.getD i default).Cost,(e.Want.getD i default).Label)) (.inr ()) (fun i hi=>?_) (by rw [if_neg (by simp)]),Qb]
      · cases Z7 (fun i=>Qki e.Told (e.Want.getD i default)) e.Want.length with
        | some i=>rfl
        | none =>
          dsimp only
          cases e.All <;> rfl
      · rw [if_pos (by simp; omega),Qn (by omega),Int.toNat_natCast,QE hi (by omega),Qqr (by omega) (QhS ht),Qb,Bool.not_not];split <;> rfl
  · rw [if_pos (by simp; omega),Qn (by omega),Int.toNat_natCast,QE hi (by omega),Qbi,Qb,Qrr (by omega) (QhS hw) (QaO (ht.ent _ (ZG hi))),Qb];split <;> rfl
theorem QtF {e:Qv5} (h:Eo e):JG e=some ((Qkp e).2.1,(Qkp e).2.2,(Qkp e).1):=by
  have L:=(ZE h).mono (m:=1048576) (by decide);have hb:=h.boot;have ht:=h.turn;have hn:=h.num;unfold JG Qkp ZR;rw [Qb]
  by_cases cb:e.Boot=1000
  · rw [if_pos (by simpa using cb),if_pos cb]; rfl
  rw [if_neg (by simpa using cb),if_neg cb]
  by_cases ct:e.Turn=1000000
  · rw [if_pos (by simpa using ct),if_pos ct,Qji L.h hb,Qb]; rfl
  rw [if_neg (by simpa using ct),if_neg ct];have kp:=Qpn h;have e0:((e.Keys.length:Nat):Int) - 1=((e.Keys.length - 1:Nat):Int):=by omega
  rw [wrap_i64 (n:=e.Turn+1) (by omega) (by omega),wrap_i64 (n:=((e.Keys.length:Nat):Int) - 1) (by omega) (by omega),e0,Int.toNat_natCast];refine (QjU (x:=((Qfu e).1,(Qfu e).2.Kind,(Qfu e).2.Entry.Addr,(Qfu e).2.Entry.Len,(Qfu e).2.Entry.Cost,(Qfu e).2.Entry.Label)) ?_).trans ?_
  · unfold Qfu
    by_cases c:e.Up=true∧e.Under.Kind=0
    · rw [if_pos (by simpa using c),if_pos c,QuB (e:={ e with Turn:=e.Turn+1 }) h.told h.want,Qb];have en:Qiz { e with Turn:=e.Turn+1 }=Qiz e:=rfl;have ck:Zc (Qiz e)=true:=by
        obtain ⟨c,e1,c1,_⟩:=Qlx (e:=e) h.told h.want;rw [Qr2 h.told h.want] at e1;rw [Option.some.inj e1]; exact c1
      rw [en,wrap_i64 (n:=e.Num+1) (by omega) (by omega),← Qd4 ck]
      by_cases k:(Qiz e).Kind > 0
      · rw [if_pos (by simpa using k),if_pos k]
      · rw [if_neg (by simpa using k),if_neg k]
    · rw [if_neg (by simpa using c),if_neg c]
  · dsimp only;rw [Qn (by omega),Qtw,Qb]
    rfl
theorem Qpq {e:Qv5} (h:Eo e):QbY e=some (Qqh e):=by
  have L:=ZE h;have l1:=L.k;have l2:=L.w;unfold QbY;rw [Qjj (by omega),Qb,QhX (by omega),Qb]
  rfl
theorem Qpr {e:Qv5} (h:Eo e):Zj e=some e:=by
  have L:=ZE h;have l1:=L.k;have l2:=L.w;have l3:=L.t;have l4:=L.h;unfold Zj;rw [Qjj (by omega),Qb,QhX (by omega),Qb,QhX (by omega),Qb,Qs6 (by omega),Qb]
theorem QuC {a b:Qv6} {R:List Qv7} (h:Gs (a,b,R)):QeA a b R=some (a,b,R):=by
  have hl:R.length≤12:=h.len;have t:Two a b:=h.two;unfold QeA;rw [Qs7 (by omega),Qb,Qpr t.a.eo,Qb,Qpr t.b.eo,Qb]
theorem Qr5 {R:List Qv7} (hl:R.length≤12) (x:Qv7):Qeb R x=some (Qs2 R x):=by
  unfold Qeb Qs2
  by_cases c:R.length < 12
  · rw [if_pos (by simp; omega),if_pos c,Qn (by simp; omega)]
  · rw [if_neg (by simp; omega),if_neg c]
theorem Qnx {e:Qv5} (h:Eo e) (w:Qv7):Qpy e (ZJ e w)=ZJ e w:=by
  have hr:=Qun (JX.2 h);have q:(ZJ e w).Name=e.Name∧(ZJ e w).Peer=e.Peer∧(ZJ e w).Boot=e.Boot∧(ZJ e w).Turn=e.Turn∧(ZJ e w).Keys=e.Keys∧(ZJ e w).Want=e.Want:=by
    unfold ZJ;rw [if_pos (JX.2 h)];split
    · obtain ⟨q1,q2,q3,q4⟩:=Qkg (y:=Qet e w) (w:=w);obtain ⟨r1,r2,_⟩:=Qke (Qjf hr w) w;obtain ⟨k1,k2⟩:=Qls (e:=e) (w:=w);have b:(Qet e w).Name=e.Name∧(Qet e w).Peer=e.Peer∧(Qet e w).Boot=e.Boot∧(Qet e w).Turn=e.Turn:=by
        unfold Qet;split <;> exact ⟨rfl,rfl,rfl,rfl⟩
      exact ⟨q1.trans b.1,q2.trans b.2.1,q3.trans b.2.2.1,q4.trans b.2.2.2,r1.trans k1,r2.trans k2⟩
    · exact ⟨rfl,rfl,rfl,rfl,rfl,rfl⟩
  obtain ⟨q1,q2,q3,q4,q5,q6⟩:=q;unfold Qpy;rw [← q1,← q2,← q3,← q4,← q5,← q6]
theorem Qps {e:Qv5} (h:Eo e) (w:Qv7):Z0 e w=some (ZJ e w):=by
  have L:=(ZE h).mono (m:=1048576) (by decide);rw [Qr0 L.k (Qun (JX.2 h))];unfold ZJ;rw [if_pos (JX.2 h)]
theorem Qs8 {a b:Qv6} (t:Two a b):a.End.Name ≠ b.End.Name:=fun q=>t.a.eo.ne (by rw [q,t.ba])
theorem Qs9 {a b:Qv6} (t:Two a b) (x:Qv7):QeB a b x=some (Qf5 a x,Qf5 b x):=by
  have hn:=Qs8 t;unfold QeB
  by_cases c:a.Up=true∧a.End.Name=x.To
  · rw [if_pos (by simpa using c),Qps t.a.eo,Qb,Qnx t.a.eo,QhW c,Qf7 (s:=b) fun q=>hn (c.2.trans q.2.symm)]
  · rw [if_neg (by simpa using c),Qf7 c]
    by_cases d:b.Up=true∧b.End.Name=x.To
    · rw [if_pos (by simpa using d),Qps t.b.eo,Qb,Qnx t.b.eo,QhW d]
    · rw [if_neg (by simpa using d),Qf7 d]
theorem QuD {t:List Qv7} (h:t.length≤1048576) {i:Int} (hi:0≤i∧i < (t.length:Int)):Q8 t i (IntKind.i64.wrap (i+1))=some (QvL t i.toNat):=by
  unfold Q8;rw [wrap_i64 (by omega) (by omega),Qn (by omega),show (i+1).toNat=i.toNat+1 by omega]
  rfl
theorem QuE {s:W3} (h:Gs s) {k:Int} (hk:k=2 ∨ k=3 ∨ k=4) (at_:Int):Qa4 s.1 s.2.1 s.2.2 k at_=some (Qs4 s k at_):=by
  have hl:=h.len;unfold Qa4 Qs4;rw [Jj,Qb,wrap_i64 (n:=((s.2.2.length:Nat):Int) - 1) (by omega) (by omega)]
  by_cases c:0≤at_∧at_ < (s.2.2.length:Int)
  · rw [JV.2 (by omega),if_neg (by decide),if_pos c,Qn c]
    by_cases k3:k=3
    · rw [if_pos (by simpa using k3),if_neg (by omega),if_pos k3,Qr5 hl,Qb]
    · rw [if_neg (by simpa using k3),QuD (by omega) c,Qb]
      by_cases k2:k=2
      · rw [if_pos (by simpa using k2),if_pos k2,Qs9 h.two,Qb]; rfl
      · rw [if_neg (by simpa using k2),if_neg k2,if_neg k3]
  · have:inR at_ 0 (((s.2.2.length:Nat):Int) - 1)=false:=by
      rw [Bool.eq_false_iff];intro q;have:=JV.1 q;omega
    rw [this,if_pos (by decide),if_neg c]
theorem QtG {s:W3} (h:Gs s):QbZ s.1 s.2.1 s.2.2=some (Qs3 s):=by
  obtain ⟨a,b,R⟩:=s;unfold QbZ
  induction R generalizing a b with
  | nil=>exact Qdu rfl
  | cons x r ih =>
    have e:=QuE h (.inl rfl) 0;have w:Qs4 (a,b,x :: r) 2 0=QhV (a,b,x :: r) 0:=by
      unfold Qs4;rw [if_pos ⟨Int.le_refl _,by simp <;> omega⟩,if_pos rfl]; rfl
    rw [w] at e;refine (Qg6 (s':=QhV (a,b,x :: r) 0) ?_).trans (ih _ _ (Qmv (i:=0) h (by simp)));dsimp only;rw [if_pos (by simp <;> omega),show Qa4 a b (x :: r) 2 0=_ from e,Qb]
theorem Qta {a b:Qv6} (t:Two a b) (x:Qv7):QeC a b x=some (Zk a.End.Keys x || Zk b.End.Keys x):=by
  have ka:=(ZE t.a.eo).k;have kb:=(ZE t.b.eo).k;have e:Qo [a,b] x=some (match Z7 (fun i=>Zk (([a,b]:List Qv6).getD i default).End.Keys x) 2 with | some i=>(i:Int) | none=>-1):=by
    unfold Qo;rw [Qbw 2 (fun i=>Zk (([a,b]:List Qv6).getD i default).End.Keys x) (fun i=>Sum.inl (i:Int)) (.inr ()) (fun i hi=>?_) (by rw [if_neg (by simp)]),Qb]
    · cases Z7 (fun i=>Zk (([a,b]:List Qv6).getD i default).End.Keys x) 2 <;> rfl
    · have hl:(([a,b]:List Qv6).getD i default).End.Keys.length≤1048576:=by
        have:i=0 ∨ i=1:=by omega
        rcases this with q | q <;> subst q
        · exact Nat.le_trans ka (by decide)
        · exact Nat.le_trans kb (by decide)
      rw [if_pos (by simp; omega),Qn (by simp; omega),Int.toNat_natCast,QE hi (by omega)];unfold Zv;dsimp only;rw [Qpc hl,Qb,Qb];split <;> rfl
  unfold QeC Qk;rw [e,Qb];have f:Z7 (fun i=>Zk (([a,b]:List Qv6).getD i default).End.Keys x) 2=if Zk a.End.Keys x=true then some 0 else if Zk b.End.Keys x=true then some 1 else none:=by
    cases hf:Z7 (fun i=>Zk (([a,b]:List Qv6).getD i default).End.Keys x) 2 with
    | some i =>
      obtain ⟨q1,q2,q3⟩:=Z9 hf;have:i=0 ∨ i=1:=by omega
      rcases this with q | q <;> subst q
      · have q2:Zk a.End.Keys x=true:=q2;rw [if_pos q2]
      · have q2:Zk b.End.Keys x=true:=q2;have q4:Zk a.End.Keys x=false:=q3 0 (by decide);rw [if_neg (by rw [q4]; decide),if_pos q2]
    | none =>
      have q:=QaN hf;have q1:Zk a.End.Keys x=false:=q 0 (by decide);have q2:Zk b.End.Keys x=false:=q 1 (by decide);rw [if_neg (by rw [q1]; decide),if_neg (by rw [q2]; decide)]
  rw [f]
  cases Zk a.End.Keys x
  · cases Zk b.End.Keys x <;> rfl
  · rfl
theorem Qvn {a b:Qv6} (t:Two a b) (x:Qv7):QgR a b x=some (!(Zk a.End.Keys x || Zk b.End.Keys x)):=by
  unfold QgR;rw [Qta t,Qb]
theorem Qvo {b:Bool} (h:(!b)=false):b=true:=by cases b; cases h; rfl
theorem QtH {s:W3} (h:Gs s):Qf9 s.1 s.2.1 s.2.2=some (QiA s):=by
  obtain ⟨a,b,xs⟩:=s;have t:Two a b:=h.two;have hl:xs.length≤12:=h.len;have ix:Qhp a b xs=some (match Z7 (fun i=>!(Zk a.End.Keys (xs.getD i default) || Zk b.End.Keys (xs.getD i default))) xs.length with | some i=>(i:Int) | none=>-1):=by
    unfold Qhp;rw [Qbw xs.length (fun i=>!(Zk a.End.Keys (xs.getD i default) || Zk b.End.Keys (xs.getD i default))) (fun i=>Sum.inl (i:Int)) (.inr ()) (fun i hi=>?_) (by rw [if_neg (by simp)]),Qb]
    · cases Z7 (fun i=>!(Zk a.End.Keys (xs.getD i default) || Zk b.End.Keys (xs.getD i default))) xs.length <;> rfl
    · rw [if_pos (by simp; omega),Qn (by omega),Int.toNat_natCast,QE hi (by omega),Qvn t,Qb];split <;> rfl
  unfold Qf9 QiA;dsimp only;rw [ix,Qb]
  cases hf:Z7 (fun i=>!(Zk a.End.Keys (xs.getD i default) || Zk b.End.Keys (xs.getD i default))) xs.length with
  | none =>
    have:=QaN hf;dsimp only;rw [if_pos (by decide)];have e:=Qfg (k:=fun w=>Zk a.End.Keys w || Zk b.End.Keys w) (xs:=xs) (n:=xs.length) fun q hq _=>Qvo (this q hq);rw [List.take_length] at e;rw [e]
  | some i =>
    obtain ⟨h1,h2,h3⟩:=Z9 hf;dsimp only;rw [if_neg (by simp <;> omega)];have start:Dl xs (fun w=>Zk a.End.Keys w || Zk b.End.Keys w) xs i (i+1):=by
      refine ⟨Nat.lt_succ_self _,h1,rfl,?_,fun _ _=>rfl⟩;have e2:xs[i]?=some (xs.getD i default):=by simp [List.getD_eq_getElem?_getD,h1]
      rw [List.take_succ,List.filter_append,e2,Qfg fun q hq _=>Qvo (h3 q hq)];show _=_ ++ ([xs.getD i default]).filter (fun w=>Zk a.End.Keys w || Zk b.End.Keys w);have h2:¬ (Zk a.End.Keys (xs.getD i default) || Zk b.End.Keys (xs.getD i default))=true:=by simpa using h2
      rw [List.filter_cons,if_neg h2];simp
    have key:Post (lp (σ:=List Qv7 × Int × Int) (β:=Nat × Int × List Qv7) (fun s2 =>
        (if (decide (s2.2.2 < ((s2.1.length:Nat):Int)))=true then
        gd ((0:Int)≤s2.2.2∧s2.2.2 < ((s2.1.length:Nat):Int)) <|
        bd (QgR a b (s2.1.getD s2.2.2.toNat default)) fun x7 =>
        (if (!x7)=true then
        gd ((0:Int)≤s2.2.1∧s2.2.1 < ((s2.1.length:Nat):Int)) <|
        bd (some (s2.1.set s2.2.1.toNat (s2.1.getD s2.2.2.toNat default))) fun x9 =>
        some (.inl (x9,IntKind.i64.wrap (s2.2.1+1),IntKind.i64.wrap (s2.2.2+1)))
        else
        some (.inl (s2.1,s2.2.1,IntKind.i64.wrap (s2.2.2+1))))
        else
        some (.inr (s2.1.length,s2.2.1,s2.1)))) (xs,(i:Int),IntKind.i64.wrap ((i:Int)+1))) fun x=>∃ q:Nat,x.2.1=(q:Int)∧q≤x.1∧x.2.2.take q=xs.filter (fun w=>Zk a.End.Keys w || Zk b.End.Keys w):=by
      rw [QE h1 (by omega)];refine .lp (fun s=>∃ p j:Nat,s.2.1=(p:Int)∧s.2.2=(j:Int)∧Dl xs (fun w=>Zk a.End.Keys w || Zk b.End.Keys w) s.1 p j) (fun s=>xs.length - s.2.2.toNat) ⟨i,i+1,rfl,rfl,start⟩ fun s ⟨p,j,ep,ej,D⟩=>?_;obtain ⟨ys,sp,sj⟩:=s;dsimp only at ep ej D ⊢;subst ep ej;have hlt:=D.lt;have hle:=D.le;have hlen:=D.len;refine .ite (fun c=>?_) fun c=>.ret ?_
      · have c:=of_decide_eq_true c;have hj:j < xs.length:=by omega
        refine .gd (by omega) ?_;rw [Int.toNat_natCast,Qvn t,Qb,QE (n:=xs.length) hj (by omega),Bool.not_not];refine .ite (fun k=>.gd (by omega) ?_) fun k=>.ret ⟨⟨p,j+1,rfl,rfl,D.skip hj (by simpa using k)⟩,by dsimp only; omega⟩;rw [Int.toNat_natCast,Qb,QE (n:=xs.length) (by omega) (by omega)];exact .ret ⟨⟨p+1,j+1,rfl,rfl,D.keep hj k⟩,by dsimp only; omega⟩
      · have:j=xs.length:=by
          simp only [decide_eq_true_eq] at c;omega
        refine ⟨p,rfl,by dsimp only; omega,?_⟩;have t:=D.take;rw [this,List.take_length] at t;exact t
    obtain ⟨x,e,q,e1,e2,e3⟩:=key;refine (congrArg (fun m=>bd m _) e).trans ?_;rw [Qb,e1,Qn (by omega),Qn (by omega),Int.toNat_natCast,Qpa,e3]
theorem Qny (e:Qv5):Qhq e (Qaw e)=Qaw e:=rfl
theorem Qnz (e:Qv5):Qhq e (Qd8 e)=Qd8 e:=by
  have k:Qhq e (keepTick e)=keepTick e:=by
    unfold keepTick;split <;> rfl
  unfold Qd8 Qej;generalize keepTick e=x at *;rw [← k];split
  · split <;> rfl
  · rfl
theorem Qpt (e:Qv5):Qhq e (Qkp e).1=(Qkp e).1:=by
  unfold Qkp;split
  · rfl
  split <;> rfl
theorem Qpu {e:Qv5} (h:Eo e):Z1 e=some (Qd8 e):=by
  have L:=(ZE h).mono (m:=1048576) (by decide);obtain ⟨n1,n2,n3⟩:=Qlq (JX.2 h);exact QrX L.h n1 n2 n3
theorem Qpv {s:W3} (h:Gs s) (k:Int) {want:List Qv2} {keys:List Qv1} (h1:want.length≤1048576) (h2:keys.length≤1048576):QbK s.1 s.2.1 s.2.2 k want keys=some (Qf6 s k 0 want keys):=by
  have hd:=QtH h;obtain ⟨a,b,R⟩:=s;have t:Two a b:=h.two;have so:=t.a;have hl:R.length≤12:=h.len;have yes:∀ {x:Qv6} {rd:List Qv7},Qfi a k want keys=x→Jx a R (QiA (a,b,R)) k keys=rd→some (x,b,rd)=some (Qf6 (a,b,R) k 0 want keys):=fun e1 e2=>by
    subst e1; subst e2; rfl
  have L:=(ZE so.eo).mono (m:=1048576) (by decide);dsimp only at hd ⊢;unfold QbK
  by_cases c1:k=1∧a.Up=true
  · rw [if_pos (by simpa using c1),QtF so.eo,Qb];dsimp only;rw [Qpt]
    by_cases w:(Qkp a.End).2.2=true
    · rw [if_pos w,Qr5 hl,Qb];exact yes (by simp [Qfi,c1]) (by simp [Jx,c1,w])
    · rw [if_neg w];exact yes (by simp [Qfi,c1]) (by simp [Jx,c1,w])
  rw [if_neg (by simpa using c1)]
  by_cases c5:k=5∧a.Up=true
  · rw [if_pos (by simpa using c5),Qpu so.eo,Qb,Qnz];exact yes (by simp [Qfi,c5]) (by simp [Jx,c5])
  rw [if_neg (by simpa using c5)]
  by_cases c6:k=6
  · rw [if_pos (by simpa using c6),Qpq so.eo,Qb];exact yes (by simp [Qfi,c6]) (by simp [Jx,c6])
  rw [if_neg (by simpa using c6)]
  by_cases c7:k=7∧a.Up=false
  · rw [if_pos (by simpa using c7),Qji L.h so.eo.boot,Qb,Qny];exact yes (by simp [Qfi,c7]) (by simp [Jx,c7])
  rw [if_neg (by simpa using c7),QhP h1,JU,Qb]
  by_cases c8:k=8∧JW want=true
  · rw [if_pos (by simp [c8]),QhX h1,Qb];exact yes (by simp [Qfi,c8]) (by simp [Jx,c8])
  rw [if_neg (by simp only [Bool.and_eq_true,beq_iff_eq]; intro q; rw [if_pos (by simpa using q.1)] at q; exact c8 q),Qmj h2,JU,Qb]
  by_cases c9:k=9∧Qbx keys=true
  · rw [if_pos (by simp [c9]),hd,Qb,Qjj h2,Qb];exact yes (by simp [Qfi,c9]) (by simp [Jx,c9])
  rw [if_neg (by simp only [Bool.and_eq_true,beq_iff_eq]; intro q; rw [if_pos (by simpa using q.1)] at q; exact c9 q)];refine yes ?_ ?_
  · unfold Qfi;split
    · next q=>rw [if_neg fun u=>c1 ⟨q,u⟩]
    split
    · next q=>rw [if_neg fun u=>c5 ⟨q,u⟩]
    try rw [if_neg c6]
    split
    · next q=>rw [if_pos (by cases hu:a.Up; exact absurd ⟨q,hu⟩ c7; rfl)]
    split
    · next q=>rw [if_neg fun u=>c8 ⟨q,u⟩]
    split
    · next q=>rw [if_neg fun u=>c9 ⟨q,u⟩]
    rfl
  · unfold Jx;split
    · next q=>rw [if_neg fun u=>c1 ⟨q,u.1⟩]
    first | rw [if_neg c9] | rfl
theorem Qpw {s:W3} (h:Gs s) (k:Int) {want:List Qv2} {keys:List Qv1} (h1:want.length≤1048576) (h2:keys.length≤1048576):QbL s.1 s.2.1 s.2.2 k want keys=some (Qf6 s k 1 want keys):=by
  have hd:=QtH h;obtain ⟨b,a,R⟩:=s;have t:Two b a:=h.two;have so:=t.b;have hl:R.length≤12:=h.len;have yes:∀ {x:Qv6} {rd:List Qv7},Qfi a k want keys=x→Jx a R (QiA (b,a,R)) k keys=rd→some (b,x,rd)=some (Qf6 (b,a,R) k 1 want keys):=fun e1 e2=>by
    subst e1; subst e2; rfl
  have L:=(ZE so.eo).mono (m:=1048576) (by decide);dsimp only at hd ⊢;unfold QbL
  by_cases c1:k=1∧a.Up=true
  · rw [if_pos (by simpa using c1),QtF so.eo,Qb];dsimp only;rw [Qpt]
    by_cases w:(Qkp a.End).2.2=true
    · rw [if_pos w,Qr5 hl,Qb];exact yes (by simp [Qfi,c1]) (by simp [Jx,c1,w])
    · rw [if_neg w];exact yes (by simp [Qfi,c1]) (by simp [Jx,c1,w])
  rw [if_neg (by simpa using c1)]
  by_cases c5:k=5∧a.Up=true
  · rw [if_pos (by simpa using c5),Qpu so.eo,Qb,Qnz];exact yes (by simp [Qfi,c5]) (by simp [Jx,c5])
  rw [if_neg (by simpa using c5)]
  by_cases c6:k=6
  · rw [if_pos (by simpa using c6),Qpq so.eo,Qb];exact yes (by simp [Qfi,c6]) (by simp [Jx,c6])
  rw [if_neg (by simpa using c6)]
  by_cases c7:k=7∧a.Up=false
  · rw [if_pos (by simpa using c7),Qji L.h so.eo.boot,Qb,Qny];exact yes (by simp [Qfi,c7]) (by simp [Jx,c7])
  rw [if_neg (by simpa using c7),QhP h1,JU,Qb]
  by_cases c8:k=8∧JW want=true
  · rw [if_pos (by simp [c8]),QhX h1,Qb];exact yes (by simp [Qfi,c8]) (by simp [Jx,c8])
  rw [if_neg (by simp only [Bool.and_eq_true,beq_iff_eq]; intro q; rw [if_pos (by simpa using q.1)] at q; exact c8 q),Qmj h2,JU,Qb]
  by_cases c9:k=9∧Qbx keys=true
  · rw [if_pos (by simp [c9]),hd,Qb,Qjj h2,Qb];exact yes (by simp [Qfi,c9]) (by simp [Jx,c9])
  rw [if_neg (by simp only [Bool.and_eq_true,beq_iff_eq]; intro q; rw [if_pos (by simpa using q.1)] at q; exact c9 q)];refine yes ?_ ?_
  · unfold Qfi;split
    · next q=>rw [if_neg fun u=>c1 ⟨q,u⟩]
    split
    · next q=>rw [if_neg fun u=>c5 ⟨q,u⟩]
    try rw [if_neg c6]
    split
    · next q=>rw [if_pos (by cases hu:a.Up; exact absurd ⟨q,hu⟩ c7; rfl)]
    split
    · next q=>rw [if_neg fun u=>c8 ⟨q,u⟩]
    split
    · next q=>rw [if_neg fun u=>c9 ⟨q,u⟩]
    rfl
  · unfold Jx;split
    · next q=>rw [if_neg fun u=>c1 ⟨q,u.1⟩]
    first | rw [if_neg c9] | rfl
theorem Qtb {s:W3} (h:Gs s):Qga s=some (Qlz s):=by
  have h1:=QlB h;have h2:=Qew h1 1 0 [] [];have h3:=Qew h2 1 1 [] [];have h4:=QlB h3;have h5:=Qew h4 5 0 [] [];unfold Qga Qlz;rw [QtG h,Qb,Qpv h1 1 (Nat.zero_le _) (Nat.zero_le _),Qb,Qpw h2 1 (Nat.zero_le _) (Nat.zero_le _),Qb,QtG h3,Qb,Qpv h4 5 (Nat.zero_le _) (Nat.zero_le _),Qb,Qpw h5 5 (Nat.zero_le _) (Nat.zero_le _)]
theorem QuF {a b:Qv6} {R:List Qv7} (h:Gs (a,b,R)) (n:Int):QdS a b R n=some (Qgv (roundsN n) (a,b,R)):=by
  have hN:Qsg n=((roundsN n:Nat):Int)∧roundsN n≤100:=by
    unfold Qsg roundsN
    constructor
    · (repeat' split) <;> omega
    · (repeat' split) <;> omega
  unfold QdS;rw [QuC h,Qb,hN.1];refine Qev (.lp (fun t=>∃ i:Nat,i≤roundsN n∧t.1=Qgv i (a,b,R)∧t.2=i) (fun t=>(100 - t.2).toNat) ⟨0,Nat.zero_le _,rfl,rfl⟩ fun t ⟨i,i0,i1,i2⟩=>.ite (fun c=>?_) fun c=>.ret ?_)
  · have c:t.2 < ((roundsN n:Nat):Int):=by simpa using c
    rw [i1,Qtb (Qhh h i),Qb,← QlA,wrap_i64 (by omega) (by omega)];exact .ret ⟨⟨i+1,by omega,rfl,by dsimp only; omega⟩,by dsimp only; omega⟩
  · have c:¬ t.2 < ((roundsN n:Nat):Int):=by simpa using c
    have:i=roundsN n:=by omega
    rw [i1,this]
theorem Qpx {s:Qv6} (h:So s) (u:s.Up=false):Jp s.End=some true:=by
  have d:=h.down u;have pt:=h.eo.pp.1 d.pboot;have lf:s.End.Left=0:=by
    exact h.eo.lp d.pboot
  have kp:s.End.Keep=0:=by
    have k:=h.eo.heard.keep;have:=h.eo.heard.any;rw [d.heard] at this;have:¬ 0 < s.End.Keep:=fun q=>by
      have:=this.1 q
      cases this
    omega
  have un:Qkb s.End.Under.Entry=true:=by
    have:=h.eo.under;unfold Zc at this;rw [if_pos (.inl d.kind)] at this;exact this
  unfold Qkb at un;simp only [Bool.and_eq_true,beq_iff_eq] at un;unfold Jp;rw [d.turn,d.pboot,pt,d.up,lf,d.num,d.kind,un.1,un.2.1,un.2.2.1,un.2.2.2,d.told,d.all,d.got,d.full,d.heard,kp]
  rfl
theorem Qvp {s:W3} (h:Gs s):QI (toW s)=some true:=by
  obtain ⟨a,b,R⟩:=s;have t:Two a b:=h.two;have hl:R.length≤12:=h.len;refine Qev ?_;show Post (QI ⟨[a,b],R⟩) _;unfold QI;refine .ite (fun c=>?_) fun _=>?_
  · exfalso;simp only [Bool.or_eq_true,bne_iff_ne,ne_eq,decide_eq_true_eq] at c;rcases c with c | c
    · exact c rfl
    · omega
  have side:∀ (x y:Qv6),So x→x.End.Name=y.End.Peer→Qai x.End=some true∧(x.Up=false→Jp x.End=some true):=fun x y h1 h2=>by
    have L:=(ZE h1.eo).mono (m:=1048576) (by decide);exact ⟨by rw [Qrs L.k L.w L.t L.h,JX.2 h1.eo],Qpx h1⟩
  obtain ⟨a1,a2⟩:=side a b t.a t.ab;obtain ⟨b1,b2⟩:=side b a t.b t.ba;refine .bd (Q:=fun x=>x=Sum.inr ()) (.lp (fun i=>i=0 ∨ i=1 ∨ i=2) (fun i=>(2 - i).toNat) (.inl rfl) fun i hi=>?_) fun x hx=>?_
  · rcases hi with q | q | q <;> subst q
    · refine .ite (fun _=>.gd (by simp) (.bd (Q:=fun x=>x=true) ⟨_,a1,rfl⟩ fun x6 h6=>.gd (fun _=>⟨(by decide:(0:Int)≤IntKind.i64.wrap (1 - 0)),(by decide:IntKind.i64.wrap (1 - 0) < (2:Int))⟩) ?_)) fun c=>absurd (by rfl) c;subst h6;have hne:((([a,b]:List Qv6).getD ((0:Int)).toNat default).End.Name != (([a,b]:List Qv6).getD ((IntKind.i64.wrap (1 - 0)).toNat) default).End.Peer)=false:=by
        show (a.End.Name != b.End.Peer)=false;rw [t.ab]; simp
      rw [hne];refine .bd (Q:=fun x=>a.Up=false→x=true) (.gcall (fun c=>⟨_,a2 (by simpa using c.1),fun _=>rfl⟩) fun c q=>absurd ⟨by show (!a.Up)=true; rw [q]; rfl,rfl⟩ c) fun x8 h8=>.ite (fun c=>?_) fun _=>.ret ⟨.inr (.inl (by decide)),by show (2 - IntKind.i64.wrap ((0:Int)+1)).toNat < (2 - (0:Int)).toNat; decide⟩;exfalso;have c:(((!true) || false) || ((!a.Up) && (!x8)))=true:=c
      cases hu:a.Up
      · rw [hu,h8 hu] at c; cases c
      · rw [hu] at c; cases c
    · refine .ite (fun _=>.gd (by simp) (.bd (Q:=fun x=>x=true) ⟨_,b1,rfl⟩ fun x6 h6=>.gd (fun _=>⟨(by decide:(0:Int)≤IntKind.i64.wrap (1 - 1)),(by decide:IntKind.i64.wrap (1 - 1) < (2:Int))⟩) ?_)) fun c=>absurd (by rfl) c;subst h6;have hne:((([a,b]:List Qv6).getD ((1:Int)).toNat default).End.Name != (([a,b]:List Qv6).getD ((IntKind.i64.wrap (1 - 1)).toNat) default).End.Peer)=false:=by
        show (b.End.Name != a.End.Peer)=false;rw [t.ba]; simp
      rw [hne];refine .bd (Q:=fun x=>b.Up=false→x=true) (.gcall (fun c=>⟨_,b2 (by simpa using c.1),fun _=>rfl⟩) fun c q=>absurd ⟨by show (!b.Up)=true; rw [q]; rfl,rfl⟩ c) fun x8 h8=>.ite (fun c=>?_) fun _=>.ret ⟨.inr (.inr (by decide)),by show (2 - IntKind.i64.wrap ((1:Int)+1)).toNat < (2 - (1:Int)).toNat; decide⟩;exfalso;have c:(((!true) || false) || ((!b.Up) && (!x8)))=true:=c
      cases hu:b.Up
      · rw [hu,h8 hu] at c; cases c
      · rw [hu] at c; cases c
    · exact .ite (fun c=>absurd c (by simp)) fun _=>.ret rfl
  subst hx;dsimp only;refine .bd (Q:=fun x=>x=Sum.inr ()) ⟨_,QdB R.length (fun i=>Zw (R.getD i default)) (.inl ()) (.inr ()) (fun i hi _=>?_) (fun _=>?_),?_⟩ fun x hx=>?_
  · rw [if_pos (by simp; omega),Qn (by omega),Int.toNat_natCast,QE hi (by omega)];refine (congrArg (fun m=>bd m _) (Qoa _)).trans ?_;rw [Qb];show (if (!(Zw (R.getD i default)))=true then _ else _)=_
    cases Zw (R.getD i default) <;> rfl
  · rw [if_neg (by simp)]
  · rw [if_pos (QcN fun i hi=>h.words _ (ZG hi))]
  · subst hx;exact .ret rfl
theorem Qot {s:W3} (h:Gs s) (n:Int):Z5 (toW s) n=some (toW (Qgv (roundsN n) s)):=by
  unfold Z5 Qci;rw [Qvp h,Qb,if_neg (by decide)];show bd (QdS s.1 s.2.1 s.2.2 n) _=_;rw [QuF h,Qb]
  rfl
end Go.Proofs.YtjgjdobkahdgfaaGreat
