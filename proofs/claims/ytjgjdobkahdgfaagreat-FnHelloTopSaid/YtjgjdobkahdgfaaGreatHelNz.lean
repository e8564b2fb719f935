/-
  Plain Lean: worlds in plain functions; the program's functions compute these.
-/
import Derived.Test.YtjgjdobkahdgfaaGreatKz5
import Derived.Test.YtjgjdobkahdgfaaGreatHelMz
import Derived.Test.YtjgjdobkahdgfaaGreatHelWbz
set_option linter.all false
namespace Go.Proofs.YtjgjdobkahdgfaaGreat
open Go Go.Ab
set_option maxHeartbeats 1000000
set_option maxRecDepth 100000
theorem QiT {xs:List Qwf} (h:xs.length≤1048576):Zp xs=some xs:=by
  unfold Zp;rw [Qn (by omega),Qn (by simp; omega)]; rfl
theorem QhD {xs:List Qwg} (h:xs.length≤1048576):QF xs=some xs:=by
  unfold QF;rw [Qn (by omega),Qn (by simp; omega)]; rfl
theorem Qo1 {xs:List Qwi} (h:xs.length≤1048576):Zt xs=some xs:=by
  unfold Zt;rw [Qn (by omega),Qn (by simp; omega)]; rfl
theorem Qs5 {xs:List Qwl} (h:xs.length≤1048576):Jr xs=some xs:=by
  unfold Jr;rw [Qn (by omega),Qn (by simp; omega)]; rfl
theorem Qp9 {t:List Qwg} (h:t.length≤1048576) (ho:Ord idE t) (x:Qwg):QT t x=some (!QjW t x):=by
  have e:Q3 t x=some (match Z3 (fun i=>decide (t.getD i default=x)) t.length with | some i=>(i:Int) | none=>-1):=by
    unfold Q3;rw [Qbs t.length (fun i=>decide (t.getD i default=x)) (fun i=>Sum.inl (i:Int)) (.inr ()) (fun i hi=>?_) (by rw [if_neg (by simp)]),Qb]
    · cases Z3 (fun i=>decide (t.getD i default=x)) t.length <;> rfl
    · rw [if_pos (by simp; omega),Qn (by omega),Int.toNat_natCast,QD hi (by omega)];generalize t.getD i default=y;have:(x.Addr == y.Addr && (x.Len == y.Len && (x.Cost == y.Cost && (x.Label == y.Label && true))))=decide (y=x):=by
        cases x; cases y
        rw [Bool.eq_iff_iff];simp only [Bool.and_eq_true,beq_iff_eq,decide_eq_true_eq,Qwg.mk.injEq,and_true];exact ⟨fun ⟨q1,q2,q3,q4⟩=>⟨q1.symm,q2.symm,q3.symm,q4.symm⟩,fun ⟨q1,q2,q3,q4⟩=>⟨q1.symm,q2.symm,q3.symm,q4.symm⟩⟩
      rw [this];split <;> rfl
  unfold QT;rw [e,Qb];unfold QjW
  cases hf:Z3 (fun i=>decide (t.getD i default=x)) t.length with
  | some i =>
    obtain ⟨q1,q2,_⟩:=ZY hf;have q2:t.getD i default=x:=by simpa using q2
    obtain ⟨r1,r2⟩:=QgT (f:=idE) ho (e:=x) q1 (by rw [q2]; exact ⟨rfl,rfl⟩);rw [r2,← r1,q2];simp
  | none =>
    have q:=QaE hf;have:(!Qcp idE t x || !decide (t.getD (posK idE t x) default=x))=true:=by
      cases hh:Qcp idE t x
      · rfl
      · have q2:decide (t.getD (posK idE t x) default=x)=false:=q _ (Qam.1 hh).1;rw [q2]; rfl
    rw [this]
    rfl
theorem QuJ {e:Qwj} (ht:To e.Told) (hw:To e.Want):JY e=some (QhA e):=by
  have l1:=ht.len;have l2:=hw.len;unfold JY QhA;rw [Qbs e.Told.length (fun i=>!Qcp idE e.Want (e.Told.getD i default)) (fun i=>Sum.inl ((e.Told.getD i default).Addr,(e.Told.getD i default).Len)) (.inr ()) (fun i hi=>?_) (by rw [if_neg (by simp)]),Qb]
  · cases hf:Z3 (fun i=>!Qcp idE e.Want (e.Told.getD i default)) e.Told.length with
    | some i=>rfl
    | none =>
      dsimp only;rw [Qbs e.Want.length (fun i=>QjW e.Told (e.Want.getD i default)) (fun i=>Sum.inl ((e.Want.getD i default).Addr,(e.Want.getD i default).Len,(e.Want.getD i default).Cost,(e.Want.getD i default).Label)) (.inr ()) (fun i hi=>?_) (by rw [if_neg (by simp)]),Qb]
      · cases Z3 (fun i=>QjW e.Told (e.Want.getD i default)) e.Want.length with
        | some i=>rfl
        | none =>
          dsimp only
          cases e.All <;> rfl
      · rw [if_pos (by simp; omega),Qn (by omega),Int.toNat_natCast,QD hi (by omega),Qp9 (by omega) (Qgs ht),Qb,Bool.not_not];split <;> rfl
  · rw [if_pos (by simp; omega),Qn (by omega),Int.toNat_natCast,QD hi (by omega),Qbb,Qb,Qq8 (by omega) (Qgs hw) (Qai (ht.ent _ (Zo hi))),Qb];split <;> rfl
theorem QtO {e:Qwj} (h:Eo e):Jw e=some ((QgY e).2.1,(QgY e).2.2,(QgY e).1):=by
  have L:=(Jd h).mono (m:=1048576) (by decide);have hb:=h.boot;have ht:=h.turn;have hn:=h.num;unfold Jw QgY ZO;rw [Qb]
  by_cases cb:e.Boot=1000
  · rw [if_pos (by simpa using cb),if_pos cb]; rfl
  rw [if_neg (by simpa using cb),if_neg cb]
  by_cases ct:e.Turn=1000000
  · rw [if_pos (by simpa using ct),if_pos ct,QiS L.h hb,Qb]; rfl
  rw [if_neg (by simpa using ct),if_neg ct];have kp:=QoZ h;have e0:((e.Keys.length:Nat):Int) - 1=((e.Keys.length - 1:Nat):Int):=by omega
  rw [wrap_i64 (n:=e.Turn+1) (by omega) (by omega),wrap_i64 (n:=((e.Keys.length:Nat):Int) - 1) (by omega) (by omega),e0,Int.toNat_natCast];refine (Qt5 (x:=((Qd2 e).1,(Qd2 e).2.Kind,(Qd2 e).2.Entry.Addr,(Qd2 e).2.Entry.Len,(Qd2 e).2.Entry.Cost,(Qd2 e).2.Entry.Label)) ?_).trans ?_
  · unfold Qd2
    by_cases c:e.Up=true∧e.Under.Kind=0
    · rw [if_pos (by simpa using c),if_pos c,QuJ (e:={ e with Turn:=e.Turn+1 }) h.told h.want,Qb];have en:QhA { e with Turn:=e.Turn+1 }=QhA e:=rfl;have ck:QU (QhA e)=true:=by
        obtain ⟨c,e1,c1,_⟩:=Qh9 (e:=e) h.told h.want;rw [Qn1 h.told h.want] at e1;rw [Option.some.inj e1]; exact c1
      rw [en,wrap_i64 (n:=e.Num+1) (by omega) (by omega),← QcT ck]
      by_cases k:(QhA e).Kind > 0
      · rw [if_pos (by simpa using k),if_pos k]
      · rw [if_neg (by simpa using k),if_neg k]
    · rw [if_neg (by simpa using c),if_neg c]
  · dsimp only;rw [Qn (by omega),QtF,Qb]
    rfl
theorem Qo2 {e:Qwj} (h:Eo e):QbR e=some (QrC e):=by
  have L:=Jd h;have l1:=L.k;have l2:=L.w;unfold QbR;rw [QiT (by omega),Qb,QhD (by omega),Qb]
  rfl
theorem Qo3 {e:Qwj} (h:Eo e):Zi e=some e:=by
  have L:=Jd h;have l1:=L.k;have l2:=L.w;have l3:=L.t;have l4:=L.h;unfold Zi;rw [QiT (by omega),Qb,QhD (by omega),Qb,QhD (by omega),Qb,Qo1 (by omega),Qb]
theorem QuK {a b:Qwk} {R:List Qwl} (h:Gs (a,b,R)):Qen a b R=some (a,b,R):=by
  have hl:R.length≤12:=h.len;have t:Two a b:=h.two;unfold Qen;rw [Qs5 (by omega),Qb,Qo3 t.a.eo,Qb,Qo3 t.b.eo,Qb]
theorem Qo4 {R:List Qwl} (hl:R.length≤12) (x:Qwl):Qd5 R x=some (Qn2 R x):=by
  unfold Qd5 Qn2
  by_cases c:R.length < 12
  · rw [if_pos (by simp; omega),if_pos c,Qn (by simp; omega)]
  · rw [if_neg (by simp; omega),if_neg c]
theorem Qm1 {e:Qwj} (h:Eo e) (w:Qwl):Qpl e (helloHear e w)=helloHear e w:=by
  have hr:=QsW (JI.2 h);have q:(helloHear e w).Name=e.Name∧(helloHear e w).Peer=e.Peer∧(helloHear e w).Boot=e.Boot∧(helloHear e w).Turn=e.Turn∧(helloHear e w).Keys=e.Keys∧(helloHear e w).Want=e.Want:=by
    unfold helloHear;rw [if_pos (JI.2 h)];split
    · obtain ⟨q1,q2,q3,q4⟩:=QgW (y:=QaS e w) (w:=w);obtain ⟨r1,r2,_⟩:=QgV (Qhz hr w) w;obtain ⟨k1,k2⟩:=Qh5 (e:=e) (w:=w);have b:(QaS e w).Name=e.Name∧(QaS e w).Peer=e.Peer∧(QaS e w).Boot=e.Boot∧(QaS e w).Turn=e.Turn:=by
        unfold QaS;split <;> exact ⟨rfl,rfl,rfl,rfl⟩
      exact ⟨q1.trans b.1,q2.trans b.2.1,q3.trans b.2.2.1,q4.trans b.2.2.2,r1.trans k1,r2.trans k2⟩
    · exact ⟨rfl,rfl,rfl,rfl,rfl,rfl⟩
  obtain ⟨q1,q2,q3,q4,q5,q6⟩:=q;unfold Qpl;rw [← q1,← q2,← q3,← q4,← q5,← q6]
theorem Qo5 {e:Qwj} (h:Eo e) (w:Qwl):ZW e w=some (helloHear e w):=by
  have L:=(Jd h).mono (m:=1048576) (by decide);rw [QrL L.k (QsW (JI.2 h))];unfold helloHear;rw [if_pos (JI.2 h)]
theorem Qs6 {a b:Qwk} (t:Two a b):a.End.Name ≠ b.End.Name:=fun q=>t.a.eo.ne (by rw [q,t.ba])
theorem Qs7 {a b:Qwk} (t:Two a b) (x:Qwl):Qeo a b x=some (Qe6 a x,Qe6 b x):=by
  have hn:=Qs6 t;unfold Qeo
  by_cases c:a.Up=true∧a.End.Name=x.To
  · rw [if_pos (by simpa using c),Qo5 t.a.eo,Qb,Qm1 t.a.eo,QfS c,QeE (s:=b) fun q=>hn (c.2.trans q.2.symm)]
  · rw [if_neg (by simpa using c),QeE c]
    by_cases d:b.Up=true∧b.End.Name=x.To
    · rw [if_pos (by simpa using d),Qo5 t.b.eo,Qb,Qm1 t.b.eo,QfS d]
    · rw [if_neg (by simpa using d),QeE d]
theorem QuL {t:List Qwl} (h:t.length≤1048576) {i:Int} (hi:0≤i∧i < (t.length:Int)):Zb t i (IntKind.i64.wrap (i+1))=some (Qu3 t i.toNat):=by
  unfold Zb;rw [wrap_i64 (by omega) (by omega),Qn (by omega),show (i+1).toNat=i.toNat+1 by omega]
  rfl
theorem Qn5 {s:W3} (h:Gs s) {k:Int} (hk:k=2 ∨ k=3 ∨ k=4) (at_:Int):QbE s.1 s.2.1 s.2.2 k at_=some (Qkl s k at_):=by
  have hl:=h.len;unfold QbE Qkl;rw [Z1,Qb,wrap_i64 (n:=((s.2.2.length:Nat):Int) - 1) (by omega) (by omega)]
  by_cases c:0≤at_∧at_ < (s.2.2.length:Int)
  · rw [Jy.2 (by omega),if_neg (by decide),if_pos c,Qn c]
    by_cases k3:k=3
    · rw [if_pos (by simpa using k3),if_neg (by omega),if_pos k3,Qo4 hl,Qb]
    · rw [if_neg (by simpa using k3),QuL (by omega) c,Qb]
      by_cases k2:k=2
      · rw [if_pos (by simpa using k2),if_pos k2,Qs7 h.two,Qb]; rfl
      · rw [if_neg (by simpa using k2),if_neg k2,if_neg k3]
  · have:inR at_ 0 (((s.2.2.length:Nat):Int) - 1)=false:=by
      rw [Bool.eq_false_iff];intro q;have:=Jy.1 q;omega
    rw [this,if_pos (by decide),if_neg c]
theorem Qo6 {a b:Qwk} (t:Two a b) (x:Qwl):Qep a b x=some (QO a.End.Keys x || QO b.End.Keys x):=by
  have ka:=(Jd t.a.eo).k;have kb:=(Jd t.b.eo).k;have e:Qo [a,b] x=some (match Z3 (fun i=>QO (([a,b]:List Qwk).getD i default).End.Keys x) 2 with | some i=>(i:Int) | none=>-1):=by
    unfold Qo;rw [Qbs 2 (fun i=>QO (([a,b]:List Qwk).getD i default).End.Keys x) (fun i=>Sum.inl (i:Int)) (.inr ()) (fun i hi=>?_) (by rw [if_neg (by simp)]),Qb]
    · cases Z3 (fun i=>QO (([a,b]:List Qwk).getD i default).End.Keys x) 2 <;> rfl
    · have hl:(([a,b]:List Qwk).getD i default).End.Keys.length≤1048576:=by
        have:i=0 ∨ i=1:=by omega
        rcases this with q | q <;> subst q
        · exact Nat.le_trans ka (by decide)
        · exact Nat.le_trans kb (by decide)
      rw [if_pos (by simp; omega),Qn (by simp; omega),Int.toNat_natCast,QD hi (by omega)];unfold Zv;dsimp only;rw [QoO hl,Qb,Qb];split <;> rfl
  unfold Qep Qk;rw [e,Qb];have f:Z3 (fun i=>QO (([a,b]:List Qwk).getD i default).End.Keys x) 2=if QO a.End.Keys x=true then some 0 else if QO b.End.Keys x=true then some 1 else none:=by
    cases hf:Z3 (fun i=>QO (([a,b]:List Qwk).getD i default).End.Keys x) 2 with
    | some i =>
      obtain ⟨q1,q2,q3⟩:=ZY hf;have:i=0 ∨ i=1:=by omega
      rcases this with q | q <;> subst q
      · have q2:QO a.End.Keys x=true:=q2;rw [if_pos q2]
      · have q2:QO b.End.Keys x=true:=q2;have q4:QO a.End.Keys x=false:=q3 0 (by decide);rw [if_neg (by rw [q4]; decide),if_pos q2]
    | none =>
      have q:=QaE hf;have q1:QO a.End.Keys x=false:=q 0 (by decide);have q2:QO b.End.Keys x=false:=q 1 (by decide);rw [if_neg (by rw [q1]; decide),if_neg (by rw [q2]; decide)]
  rw [f]
  cases QO a.End.Keys x
  · cases QO b.End.Keys x <;> rfl
  · rfl
theorem QvI {a b:Qwk} (t:Two a b) (x:Qwl):Qgv a b x=some (!(QO a.End.Keys x || QO b.End.Keys x)):=by
  unfold Qgv;rw [Qo6 t,Qb]
theorem QvJ {b:Bool} (h:(!b)=false):b=true:=by cases b; cases h; rfl
theorem QtP {s:W3} (h:Gs s):QfU s.1 s.2.1 s.2.2=some (QhB s):=by
  obtain ⟨a,b,xs⟩:=s;have t:Two a b:=h.two;have hl:xs.length≤12:=h.len;have ix:Qg5 a b xs=some (match Z3 (fun i=>!(QO a.End.Keys (xs.getD i default) || QO b.End.Keys (xs.getD i default))) xs.length with | some i=>(i:Int) | none=>-1):=by
    unfold Qg5;rw [Qbs xs.length (fun i=>!(QO a.End.Keys (xs.getD i default) || QO b.End.Keys (xs.getD i default))) (fun i=>Sum.inl (i:Int)) (.inr ()) (fun i hi=>?_) (by rw [if_neg (by simp)]),Qb]
    · cases Z3 (fun i=>!(QO a.End.Keys (xs.getD i default) || QO b.End.Keys (xs.getD i default))) xs.length <;> rfl
    · rw [if_pos (by simp; omega),Qn (by omega),Int.toNat_natCast,QD hi (by omega),QvI t,Qb];split <;> rfl
  unfold QfU QhB;dsimp only;rw [ix,Qb]
  cases hf:Z3 (fun i=>!(QO a.End.Keys (xs.getD i default) || QO b.End.Keys (xs.getD i default))) xs.length with
  | none =>
    have:=QaE hf;dsimp only;rw [if_pos (by decide)];have e:=Qe4 (k:=fun w=>QO a.End.Keys w || QO b.End.Keys w) (xs:=xs) (n:=xs.length) fun q hq _=>QvJ (this q hq);rw [List.take_length] at e;rw [e]
  | some i =>
    obtain ⟨h1,h2,h3⟩:=ZY hf;dsimp only;rw [if_neg (by simp <;> omega)];have start:Dl xs (fun w=>QO a.End.Keys w || QO b.End.Keys w) xs i (i+1):=by
      refine ⟨Nat.lt_succ_self _,h1,rfl,?_,fun _ _=>rfl⟩;have e2:xs[i]?=some (xs.getD i default):=by simp [List.getD_eq_getElem?_getD,h1]
      rw [List.take_succ,List.filter_append,e2,Qe4 fun q hq _=>QvJ (h3 q hq)];show _=_ ++ ([xs.getD i default]).filter (fun w=>QO a.End.Keys w || QO b.End.Keys w);have h2:¬ (QO a.End.Keys (xs.getD i default) || QO b.End.Keys (xs.getD i default))=true:=by simpa using h2
      rw [List.filter_cons,if_neg h2];simp
    have key:Post (lp (σ:=List Qwl × Int × Int) (β:=Nat × Int × List Qwl) (fun s2 =>
        (if (decide (s2.2.2 < ((s2.1.length:Nat):Int)))=true then
        gd ((0:Int)≤s2.2.2∧s2.2.2 < ((s2.1.length:Nat):Int)) <|
        bd (Qgv a b (s2.1.getD s2.2.2.toNat default)) fun x7 =>
        (if (!x7)=true then
        gd ((0:Int)≤s2.2.1∧s2.2.1 < ((s2.1.length:Nat):Int)) <|
        bd (some (s2.1.set s2.2.1.toNat (s2.1.getD s2.2.2.toNat default))) fun x9 =>
        some (.inl (x9,IntKind.i64.wrap (s2.2.1+1),IntKind.i64.wrap (s2.2.2+1)))
        else
        some (.inl (s2.1,s2.2.1,IntKind.i64.wrap (s2.2.2+1))))
        else
        some (.inr (s2.1.length,s2.2.1,s2.1)))) (xs,(i:Int),IntKind.i64.wrap ((i:Int)+1))) fun x=>∃ q:Nat,x.2.1=(q:Int)∧q≤x.1∧x.2.2.take q=xs.filter (fun w=>QO a.End.Keys w || QO b.End.Keys w):=by
      rw [QD h1 (by omega)];refine .lp (fun s=>∃ p j:Nat,s.2.1=(p:Int)∧s.2.2=(j:Int)∧Dl xs (fun w=>QO a.End.Keys w || QO b.End.Keys w) s.1 p j) (fun s=>xs.length - s.2.2.toNat) ⟨i,i+1,rfl,rfl,start⟩ fun s ⟨p,j,ep,ej,D⟩=>?_;obtain ⟨ys,sp,sj⟩:=s;dsimp only at ep ej D ⊢;subst ep ej;have hlt:=D.lt;have hle:=D.le;have hlen:=D.len;refine .ite (fun c=>?_) fun c=>.ret ?_
      · have c:=of_decide_eq_true c;have hj:j < xs.length:=by omega
        refine .gd (by omega) ?_;rw [Int.toNat_natCast,QvI t,Qb,QD (n:=xs.length) hj (by omega),Bool.not_not];refine .ite (fun k=>.gd (by omega) ?_) fun k=>.ret ⟨⟨p,j+1,rfl,rfl,D.skip hj (by simpa using k)⟩,by dsimp only; omega⟩;rw [Int.toNat_natCast,Qb,QD (n:=xs.length) (by omega) (by omega)];exact .ret ⟨⟨p+1,j+1,rfl,rfl,D.keep hj k⟩,by dsimp only; omega⟩
      · have:j=xs.length:=by
          simp only [decide_eq_true_eq] at c;omega
        refine ⟨p,rfl,by dsimp only; omega,?_⟩;have t:=D.take;rw [this,List.take_length] at t;exact t
    obtain ⟨x,e,q,e1,e2,e3⟩:=key;refine (congrArg (fun m=>bd m _) e).trans ?_;rw [Qb,e1,Qn (by omega),Qn (by omega),Int.toNat_natCast,QoL,e3]
theorem Qm2 (e:Qwj):Qg6 e (ZE e)=ZE e:=rfl
theorem Qm3 (e:Qwj):Qg6 e (QcU e)=QcU e:=by
  have k:Qg6 e (keepTick e)=keepTick e:=by
    unfold keepTick;split <;> rfl
  unfold QcU Qc4;generalize keepTick e=x at *;rw [← k];split
  · split <;> rfl
  · rfl
theorem Qo7 (e:Qwj):Qg6 e (QgY e).1=(QgY e).1:=by
  unfold QgY;split
  · rfl
  split <;> rfl
theorem Qo8 {e:Qwj} (h:Eo e):ZX e=some (QcU e):=by
  have L:=(Jd h).mono (m:=1048576) (by decide);obtain ⟨n1,n2,n3⟩:=Qk5 (JI.2 h);exact QrH L.h n1 n2 n3
theorem Qs8 {s:W3} (h:Gs s) (k:Int) {want:List Qwg} {keys:List Qwf} (h1:want.length≤1048576) (h2:keys.length≤1048576):QbF s.1 s.2.1 s.2.2 k want keys=some (QdD s k 0 want keys):=by
  have hd:=QtP h;obtain ⟨a,b,R⟩:=s;have t:Two a b:=h.two;have so:=t.a;have hl:R.length≤12:=h.len;have yes:∀ {x:Qwk} {rd:List Qwl},Qc5 a k want keys=x→ZJ a R (QhB (a,b,R)) k keys=rd→some (x,b,rd)=some (QdD (a,b,R) k 0 want keys):=fun e1 e2=>by
    subst e1; subst e2; rfl
  have L:=(Jd so.eo).mono (m:=1048576) (by decide);dsimp only at hd ⊢;unfold QbF
  by_cases c1:k=1∧a.Up=true
  · rw [if_pos (by simpa using c1),QtO so.eo,Qb];dsimp only;rw [Qo7]
    by_cases w:(QgY a.End).2.2=true
    · rw [if_pos w,Qo4 hl,Qb];exact yes (by simp [Qc5,c1]) (by simp [ZJ,c1,w])
    · rw [if_neg w];exact yes (by simp [Qc5,c1]) (by simp [ZJ,c1,w])
  rw [if_neg (by simpa using c1)]
  by_cases c5:k=5∧a.Up=true
  · rw [if_pos (by simpa using c5),Qo8 so.eo,Qb,Qm3];exact yes (by simp [Qc5,c5]) (by simp [ZJ,c5])
  rw [if_neg (by simpa using c5)]
  by_cases c6:k=6
  · rw [if_pos (by simpa using c6),Qo2 so.eo,Qb];exact yes (by simp [Qc5,c6]) (by simp [ZJ,c6])
  rw [if_neg (by simpa using c6)]
  by_cases c7:k=7∧a.Up=false
  · rw [if_pos (by simpa using c7),QiS L.h so.eo.boot,Qb,Qm2];exact yes (by simp [Qc5,c7]) (by simp [ZJ,c7])
  rw [if_neg (by simpa using c7),Qhu h1,JE,Qb]
  by_cases c8:k=8∧JG want=true
  · rw [if_pos (by simp [c8]),QhD h1,Qb];exact yes (by simp [Qc5,c8]) (by simp [ZJ,c8])
  rw [if_neg (by simp only [Bool.and_eq_true,beq_iff_eq]; intro q; rw [if_pos (by simpa using q.1)] at q; exact c8 q),QlR h2,JE,Qb]
  by_cases c9:k=9∧Qbc keys=true
  · rw [if_pos (by simp [c9]),hd,Qb,QiT h2,Qb];exact yes (by simp [Qc5,c9]) (by simp [ZJ,c9])
  rw [if_neg (by simp only [Bool.and_eq_true,beq_iff_eq]; intro q; rw [if_pos (by simpa using q.1)] at q; exact c9 q)];refine yes ?_ ?_
  · unfold Qc5;split
    · next q=>rw [if_neg fun u=>c1 ⟨q,u⟩]
    split
    · next q=>rw [if_neg fun u=>c5 ⟨q,u⟩]
    try rw [if_neg c6]
    split
    · next q=>rw [if_pos (by cases hu:a.Up; exact absurd ⟨q,hu⟩ c7; rfl)]
    split
    · next q=>rw [if_neg fun u=>c8 ⟨q,u⟩]
    split
    · next q=>rw [if_neg fun u=>c9 ⟨q,u⟩]
    rfl
  · unfold ZJ;split
    · next q=>rw [if_neg fun u=>c1 ⟨q,u.1⟩]
    first | rw [if_neg c9] | rfl
theorem Qs9 {s:W3} (h:Gs s) (k:Int) {want:List Qwg} {keys:List Qwf} (h1:want.length≤1048576) (h2:keys.length≤1048576):QbG s.1 s.2.1 s.2.2 k want keys=some (QdD s k 1 want keys):=by
  have hd:=QtP h;obtain ⟨b,a,R⟩:=s;have t:Two b a:=h.two;have so:=t.b;have hl:R.length≤12:=h.len;have yes:∀ {x:Qwk} {rd:List Qwl},Qc5 a k want keys=x→ZJ a R (QhB (b,a,R)) k keys=rd→some (b,x,rd)=some (QdD (b,a,R) k 1 want keys):=fun e1 e2=>by
    subst e1; subst e2; rfl
  have L:=(Jd so.eo).mono (m:=1048576) (by decide);dsimp only at hd ⊢;unfold QbG
  by_cases c1:k=1∧a.Up=true
  · rw [if_pos (by simpa using c1),QtO so.eo,Qb];dsimp only;rw [Qo7]
    by_cases w:(QgY a.End).2.2=true
    · rw [if_pos w,Qo4 hl,Qb];exact yes (by simp [Qc5,c1]) (by simp [ZJ,c1,w])
    · rw [if_neg w];exact yes (by simp [Qc5,c1]) (by simp [ZJ,c1,w])
  rw [if_neg (by simpa using c1)]
  by_cases c5:k=5∧a.Up=true
  · rw [if_pos (by simpa using c5),Qo8 so.eo,Qb,Qm3];exact yes (by simp [Qc5,c5]) (by simp [ZJ,c5])
  rw [if_neg (by simpa using c5)]
  by_cases c6:k=6
  · rw [if_pos (by simpa using c6),Qo2 so.eo,Qb];exact yes (by simp [Qc5,c6]) (by simp [ZJ,c6])
  rw [if_neg (by simpa using c6)]
  by_cases c7:k=7∧a.Up=false
  · rw [if_pos (by simpa using c7),QiS L.h so.eo.boot,Qb,Qm2];exact yes (by simp [Qc5,c7]) (by simp [ZJ,c7])
  rw [if_neg (by simpa using c7),Qhu h1,JE,Qb]
  by_cases c8:k=8∧JG want=true
  · rw [if_pos (by simp [c8]),QhD h1,Qb];exact yes (by simp [Qc5,c8]) (by simp [ZJ,c8])
  rw [if_neg (by simp only [Bool.and_eq_true,beq_iff_eq]; intro q; rw [if_pos (by simpa using q.1)] at q; exact c8 q),QlR h2,JE,Qb]
  by_cases c9:k=9∧Qbc keys=true
  · rw [if_pos (by simp [c9]),hd,Qb,QiT h2,Qb];exact yes (by simp [Qc5,c9]) (by simp [ZJ,c9])
  rw [if_neg (by simp only [Bool.and_eq_true,beq_iff_eq]; intro q; rw [if_pos (by simpa using q.1)] at q; exact c9 q)];refine yes ?_ ?_
  · unfold Qc5;split
    · next q=>rw [if_neg fun u=>c1 ⟨q,u⟩]
    split
    · next q=>rw [if_neg fun u=>c5 ⟨q,u⟩]
    try rw [if_neg c6]
    split
    · next q=>rw [if_pos (by cases hu:a.Up; exact absurd ⟨q,hu⟩ c7; rfl)]
    split
    · next q=>rw [if_neg fun u=>c8 ⟨q,u⟩]
    split
    · next q=>rw [if_neg fun u=>c9 ⟨q,u⟩]
    rfl
  · unfold ZJ;split
    · next q=>rw [if_neg fun u=>c1 ⟨q,u.1⟩]
    first | rw [if_neg c9] | rfl
theorem QuM {a b:Qwk} {R:List Qwl} (h:Gs (a,b,R)) {e:Qwn} (h1:e.Want.length≤1048576) (h2:e.Keys.length≤1048576):QdP a b R e.Kind e.At e.Want e.Keys e.Word=some (QcV (a,b,R) e):=by
  unfold QdP QcV;rw [QuK h,Qb];dsimp only
  by_cases k2:e.Kind=2
  · rw [if_pos (by simpa using k2),if_pos (.inl k2)];exact Qn5 h (.inl k2) e.At
  rw [if_neg (by simpa using k2)]
  by_cases k3:e.Kind=3
  · rw [if_pos (by simpa using k3),if_pos (.inr (.inl k3))];exact Qn5 h (.inr (.inl k3)) e.At
  rw [if_neg (by simpa using k3)]
  by_cases k4:e.Kind=4
  · rw [if_pos (by simpa using k4),if_pos (.inr (.inr k4))];exact Qn5 h (.inr (.inr k4)) e.At
  rw [if_neg (by simpa using k4),if_neg (show ¬ (e.Kind=2 ∨ e.Kind=3 ∨ e.Kind=4) by omega)]
  by_cases k10:e.Kind=10
  · rw [if_pos (by simpa using k10),if_pos k10,QnK,Qb,Qo6 h.two];unfold QhC;dsimp only
    cases Je e.Word
    · simp [gcall]
    · cases QO a.End.Keys e.Word
      · cases QO b.End.Keys e.Word
        · simp [gcall,Qo4 (show R.length≤12 from h.len)]
        · simp [gcall]
      · simp [gcall]
  rw [if_neg (by simpa using k10),if_neg k10]
  by_cases z0:e.At=0
  · rw [if_pos (by simpa using z0),z0];exact Qs8 h e.Kind h1 h2
  rw [if_neg (by simpa using z0)]
  by_cases z1:e.At=1
  · rw [if_pos (by simpa using z1),z1];exact Qs9 h e.Kind h1 h2
  rw [if_neg (by simpa using z1),Z1,Qb];have:inR e.At 0 (IntKind.i64.wrap (((2:Nat):Int) - 1))=false:=by
    rw [Bool.eq_false_iff];intro q;have q:=Jy.1 q;have:IntKind.i64.wrap (((2:Nat):Int) - 1)=1:=by decide
    omega
  rw [this,if_neg (by decide)];unfold QdD;rw [if_neg z0,if_neg z1]
theorem Qta {s:Qwk} (h:So s) (u:s.Up=false):QaN s.End=some true:=by
  have d:=h.down u;have pt:=h.eo.pp.1 d.pboot;have lf:s.End.Left=0:=by
    exact h.eo.lp d.pboot
  have kp:s.End.Keep=0:=by
    have k:=h.eo.heard.keep;have:=h.eo.heard.any;rw [d.heard] at this;have:¬ 0 < s.End.Keep:=fun q=>by
      have:=this.1 q
      cases this
    omega
  have un:QjO s.End.Under.Entry=true:=by
    have:=h.eo.under;unfold QU at this;rw [if_pos (.inl d.kind)] at this;exact this
  unfold QjO at un;simp only [Bool.and_eq_true,beq_iff_eq] at un;unfold QaN;rw [d.turn,d.pboot,pt,d.up,lf,d.num,d.kind,un.1,un.2.1,un.2.2.1,un.2.2.2,d.told,d.all,d.got,d.full,d.heard,kp]
  rfl
theorem QuN {s:W3} (h:Gs s):Q9 (toW s)=some true:=by
  obtain ⟨a,b,R⟩:=s;have t:Two a b:=h.two;have hl:R.length≤12:=h.len;refine QfQ ?_;show Post (Q9 ⟨[a,b],R⟩) _;unfold Q9;refine .ite (fun c=>?_) fun _=>?_
  · exfalso;simp only [Bool.or_eq_true,bne_iff_ne,ne_eq,decide_eq_true_eq] at c;rcases c with c | c
    · exact c rfl
    · omega
  have side:∀ (x y:Qwk),So x→x.End.Name=y.End.Peer→J7 x.End=some true∧(x.Up=false→QaN x.End=some true):=fun x y h1 h2=>by
    have L:=(Jd h1.eo).mono (m:=1048576) (by decide);exact ⟨by rw [Qvu L.k L.w L.t L.h,JI.2 h1.eo],Qta h1⟩
  obtain ⟨a1,a2⟩:=side a b t.a t.ab;obtain ⟨b1,b2⟩:=side b a t.b t.ba;refine .bd (Q:=fun x=>x=Sum.inr ()) (.lp (fun i=>i=0 ∨ i=1 ∨ i=2) (fun i=>(2 - i).toNat) (.inl rfl) fun i hi=>?_) fun x hx=>?_
  · rcases hi with q | q | q <;> subst q
    · refine .ite (fun _=>.gd (by simp) (.bd (Q:=fun x=>x=true) ⟨_,a1,rfl⟩ fun x6 h6=>.gd (fun _=>⟨(by decide:(0:Int)≤IntKind.i64.wrap (1 - 0)),(by decide:IntKind.i64.wrap (1 - 0) < (2:Int))⟩) ?_)) fun c=>absurd (by rfl) c;subst h6;have hne:((([a,b]:List Qwk).getD ((0:Int)).toNat default).End.Name != (([a,b]:List Qwk).getD ((IntKind.i64.wrap (1 - 0)).toNat) default).End.Peer)=false:=by
        show (a.End.Name != b.End.Peer)=false;rw [t.ab]; simp
      rw [hne];refine .bd (Q:=fun x=>a.Up=false→x=true) (.gcall (fun c=>⟨_,a2 (by simpa using c.1),fun _=>rfl⟩) fun c q=>absurd ⟨by show (!a.Up)=true; rw [q]; rfl,rfl⟩ c) fun x8 h8=>.ite (fun c=>?_) fun _=>.ret ⟨.inr (.inl (by decide)),by show (2 - IntKind.i64.wrap ((0:Int)+1)).toNat < (2 - (0:Int)).toNat; decide⟩;exfalso;have c:(((!true) || false) || ((!a.Up) && (!x8)))=true:=c
      cases hu:a.Up
      · rw [hu,h8 hu] at c; cases c
      · rw [hu] at c; cases c
    · refine .ite (fun _=>.gd (by simp) (.bd (Q:=fun x=>x=true) ⟨_,b1,rfl⟩ fun x6 h6=>.gd (fun _=>⟨(by decide:(0:Int)≤IntKind.i64.wrap (1 - 1)),(by decide:IntKind.i64.wrap (1 - 1) < (2:Int))⟩) ?_)) fun c=>absurd (by rfl) c;subst h6;have hne:((([a,b]:List Qwk).getD ((1:Int)).toNat default).End.Name != (([a,b]:List Qwk).getD ((IntKind.i64.wrap (1 - 1)).toNat) default).End.Peer)=false:=by
        show (b.End.Name != a.End.Peer)=false;rw [t.ba]; simp
      rw [hne];refine .bd (Q:=fun x=>b.Up=false→x=true) (.gcall (fun c=>⟨_,b2 (by simpa using c.1),fun _=>rfl⟩) fun c q=>absurd ⟨by show (!b.Up)=true; rw [q]; rfl,rfl⟩ c) fun x8 h8=>.ite (fun c=>?_) fun _=>.ret ⟨.inr (.inr (by decide)),by show (2 - IntKind.i64.wrap ((1:Int)+1)).toNat < (2 - (1:Int)).toNat; decide⟩;exfalso;have c:(((!true) || false) || ((!b.Up) && (!x8)))=true:=c
      cases hu:b.Up
      · rw [hu,h8 hu] at c; cases c
      · rw [hu] at c; cases c
    · exact .ite (fun c=>absurd c (by simp)) fun _=>.ret rfl
  subst hx;dsimp only;refine .bd (Q:=fun x=>x=Sum.inr ()) ⟨_,QdZ R.length (fun i=>Je (R.getD i default)) (.inl ()) (.inr ()) (fun i hi _=>?_) (fun _=>?_),?_⟩ fun x hx=>?_
  · rw [if_pos (by simp; omega),Qn (by omega),Int.toNat_natCast,QD hi (by omega)];refine (congrArg (fun m=>bd m _) (QnK _)).trans ?_;rw [Qb];show (if (!(Je (R.getD i default)))=true then _ else _)=_
    cases Je (R.getD i default) <;> rfl
  · rw [if_neg (by simp)]
  · rw [if_pos (QcF fun i hi=>h.words _ (Zo hi))]
  · subst hx;exact .ret rfl
theorem QuO {s:W3} (h:Gs s) {e:Qwn} (h1:e.Want.length≤1048576) (h2:e.Keys.length≤1048576):Qa8 (toW s) e=some (toW (QcV s e)):=by
  unfold Qa8 QcZ;rw [QuN h,Qb,if_neg (by decide)];show bd (QdP s.1 s.2.1 s.2.2 e.Kind e.At e.Want e.Keys e.Word) _=_;rw [QuM h h1 h2,Qb]
  rfl
end Go.Proofs.YtjgjdobkahdgfaaGreat
