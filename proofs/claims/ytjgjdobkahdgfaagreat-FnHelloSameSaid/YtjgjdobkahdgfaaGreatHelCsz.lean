/-
  Plain Lean: what was on the way does not show in the end; the row FnHelloSame.
-/
import Derived.Test.YtjgjdobkahdgfaaGreatKz5
import Derived.Test.YtjgjdobkahdgfaaGreatHelCqz
set_option linter.all false
namespace Go.Proofs.YtjgjdobkahdgfaaGreat
open Go Go.Ab
set_option maxHeartbeats 400000
set_option maxRecDepth 100000
theorem Qt8 {s:W3} (h:Iw s):Qa5 s.1.End.Keys=true∧s.1.End.Keys.length≤1048576:=by
  have e:Eo s.1.End:=h.gs.two.a.eo;have:=(Qjk e).2;exact ⟨e.keys,by omega⟩
theorem Qks {ks:List Qw7}:∀ (k:Nat) {n:Int} {s:W3},Ry ks n s→n+4*k≤900→(calmG k s).1.End.Want=s.1.End.Want∧(calmG k s).2.1.End.Want=s.2.1.End.Want
  | 0,_,_,_,_=>⟨rfl,rfl⟩
  | k+1,n,s,h,hn=>by
    obtain ⟨p,q,e,N1,N2,h1⟩:=Qfp h (by omega);obtain ⟨r1,r2⟩:=Qks k h1 (by omega);obtain ⟨⟨_,_,a3⟩,⟨_,_,b3⟩⟩:=QuH h.iw.gs;have w1:(Qau s).1.End.Want=s.1.End.Want:=by rw [e]; exact N1.want.trans a3
    have w2:(Qau s).2.1.End.Want=s.2.1.End.Want:=by rw [e]; exact N2.want.trans b3
    exact ⟨r1.trans w1,r2.trans w2⟩
theorem QnN {ks:List Qw7} {n:Int} {s:W3} (h:Ry ks n s) {W:List Qw8} (hw:To W):(Ry ks (n+1) (ZI s ⟨8,0,W,[],QO⟩)∧(ZI s ⟨8,0,W,[],QO⟩).1.End.Want=W∧(ZI s ⟨8,0,W,[],QO⟩).2.1=s.2.1)∧(Ry ks (n+1) (ZI s ⟨8,1,W,[],QO⟩)∧(ZI s ⟨8,1,W,[],QO⟩).2.1.End.Want=W∧(ZI s ⟨8,1,W,[],QO⟩).1=s.1):=by
  have act:∀ x:Qxc,QaT x 8 W []=⟨x.Up,{ x.End with Want:=W }⟩:=fun x=>by
    unfold QaT;rw [if_neg (by decide),if_neg (by decide),if_neg (by decide),if_neg (by decide),if_pos rfl,if_pos (Qej.2 hw)]
  have s0:(ZI s ⟨8,0,W,[],QO⟩).1=QaT s.1 8 W []∧(ZI s ⟨8,0,W,[],QO⟩).2.1=s.2.1:=⟨rfl,rfl⟩;have s1:(ZI s ⟨8,1,W,[],QO⟩).1=s.1∧(ZI s ⟨8,1,W,[],QO⟩).2.1=QaT s.2.1 8 W []:=⟨rfl,rfl⟩;refine ⟨⟨⟨Qdf h.iw _,?_,?_,?_,?_,Qhi h.iw.gs h.sw _⟩,?_,s0.2⟩,⟨⟨Qdf h.iw _,?_,?_,?_,?_,Qhi h.iw.gs h.sw _⟩,?_,s1.1⟩⟩
  · rw [s0.1,act]; exact h.ua
  · rw [s0.2]; exact h.ub
  · rw [s0.1,act]; exact h.ka
  · rw [s0.2]; exact h.kb
  · rw [s0.1,act]
  · rw [s1.1]; exact h.ua
  · rw [s1.2,act]; exact h.ub
  · rw [s1.1]; exact h.ka
  · rw [s1.2,act]; exact h.kb
  · rw [s1.2,act]
theorem Qp9 {x y:Qxb} (ex:Eo x) (k:Kn x y):Qwq x=y.Want:=by
  unfold Qwq;rw [if_pos (Jw.2 ex),k.heard]
theorem Qs0 {X Y:W3} (gX:Gs X) (gY:Gs Y) (x1:Kn X.1.End X.2.1.End) (x2:Kn X.2.1.End X.1.End) (y1:Kn Y.1.End Y.2.1.End) (y2:Kn Y.2.1.End Y.1.End) (w1:Y.1.End.Want=X.1.End.Want) (w2:Y.2.1.End.Want=X.2.1.End.Want):Post (lp (σ:=Int) (β:=(Unit ⊕ Unit)) (fun s15 =>
    (if (decide (s15 < 2))=true then
    gd ((0:Int)≤s15∧s15 < (((toW X).Sides.length:Nat):Int)) <|
    bd (JX ({ (((toW X).Sides.getD s15.toNat default).End) with Under:=(⟨((((toW X).Sides.getD s15.toNat default).End).Under).Kind,(((((toW X).Sides.getD s15.toNat default).End).Under).Entry)⟩:Qw9) })) fun x20 =>
    gd ((0:Int)≤s15∧s15 < (((toW Y).Sides.length:Nat):Int)) <|
    bd (JX ({ (((toW Y).Sides.getD s15.toNat default).End) with Under:=(⟨((((toW Y).Sides.getD s15.toNat default).End).Under).Kind,(((((toW Y).Sides.getD s15.toNat default).End).Under).Entry)⟩:Qw9) })) fun x22 =>
    bd (Jm x20 x22) fun x23 =>
    gd ((!x23)=false→((0:Int)≤s15∧s15 < (((toW X).Sides.length:Nat):Int))) <|
    bd (gcall ((!x23)=false) (QaH ({ (((toW X).Sides.getD s15.toNat default).End) with Under:=(⟨((((toW X).Sides.getD s15.toNat default).End).Under).Kind,(((((toW X).Sides.getD s15.toNat default).End).Under).Entry)⟩:Qw9) }))) fun x25 =>
    gd ((!x23)=false→((0:Int)≤IntKind.i64.wrap (1 - s15)∧IntKind.i64.wrap (1 - s15) < (((toW Y).Sides.length:Nat):Int))) <|
    bd (gcall ((!x23)=false) (Jm x25 ((((toW Y).Sides.getD ((IntKind.i64.wrap (1 - s15)).toNat) default).End).Want))) fun x27 =>
    (if ((!x23) || (!x27))=true then
    some (.inr (.inl ()))
    else
    some (.inl (IntKind.i64.wrap (s15+1))))
    else
    some (.inr (.inr ())))) 0) fun x=>x=Sum.inr ():=by
  obtain ⟨a,b,R⟩:=X;obtain ⟨c,d,S⟩:=Y;have ea:Eo a.End:=gX.two.a.eo;have eb:Eo b.End:=gX.two.b.eo;have ec:Eo c.End:=gY.two.a.eo;have ed:Eo d.End:=gY.two.b.eo;have x1:Kn a.End b.End:=x1;have x2:Kn b.End a.End:=x2;have y1:Kn c.End d.End:=y1;have y2:Kn d.End c.End:=y2;have w1:c.End.Want=a.End.Want:=w1;have w2:d.End.Want=b.End.Want:=w2;have La:=(ZT ea).mono (m:=1048576) (by decide);have Lb:=(ZT eb).mono (m:=1048576) (by decide);have Lc:=(ZT ec).mono (m:=1048576) (by decide);have Ld:=(ZT ed).mono (m:=1048576) (by decide);have ua:=Qp9 ea x1;have ub:=Qp9 eb x2;have uc:=(Qp9 ec y1).trans w2;have ud:=(Qp9 ed y2).trans w1;refine .lp (fun k=>k=0 ∨ k=1 ∨ k=2) (fun k=>(2 - k).toNat) (.inl rfl) fun k hk=>?_;rcases hk with q | q | q <;> subst q
  · refine .ite (fun _=>.gd ⟨by decide,(by decide:(0:Int) < 2)⟩ (.bd (Q:=fun x=>x=b.End.Want) ⟨_,Qnw La,ua⟩ fun x20 h20=>.gd ⟨by decide,(by decide:(0:Int) < 2)⟩ (.bd (Q:=fun x=>x=b.End.Want) ⟨_,Qnw Lc,uc⟩ fun x22 h22=>?_))) fun c=>absurd (by rfl) c;subst h20 h22;rw [QhZ Lb.w,Qb];refine .gd (fun _=>⟨by decide,(by decide:(0:Int) < 2)⟩) (.bd (Q:=fun x=>x=b.End.Want) (.gcall (fun _=>⟨_,Qsy La,ua⟩) fun c=>absurd rfl c) fun x25 h25=>.gd (fun _=>⟨(by decide:(0:Int)≤IntKind.i64.wrap (1 - 0)),(by decide:IntKind.i64.wrap (1 - 0) < (2:Int))⟩) ?_);subst h25;have e:Jm b.End.Want d.End.Want=some true:=by rw [w2]; exact QhZ Lb.w
    refine .bd (Q:=fun x=>x=true) (.gcall (fun _=>⟨_,e,rfl⟩) fun c=>absurd rfl c) fun x27 h27=>?_;subst h27;exact .ite (fun c=>absurd c (by decide)) fun _=>.ret ⟨.inr (.inl (by decide)),by show (2 - IntKind.i64.wrap ((0:Int)+1)).toNat < (2 - (0:Int)).toNat; decide⟩
  · refine .ite (fun _=>.gd ⟨by decide,(by decide:(1:Int) < 2)⟩ (.bd (Q:=fun x=>x=a.End.Want) ⟨_,Qnw Lb,ub⟩ fun x20 h20=>.gd ⟨by decide,(by decide:(1:Int) < 2)⟩ (.bd (Q:=fun x=>x=a.End.Want) ⟨_,Qnw Ld,ud⟩ fun x22 h22=>?_))) fun c=>absurd (by rfl) c;subst h20 h22;rw [QhZ La.w,Qb];refine .gd (fun _=>⟨by decide,(by decide:(1:Int) < 2)⟩) (.bd (Q:=fun x=>x=a.End.Want) (.gcall (fun _=>⟨_,Qsy Lb,ub⟩) fun c=>absurd rfl c) fun x25 h25=>.gd (fun _=>⟨(by decide:(0:Int)≤IntKind.i64.wrap (1 - 1)),(by decide:IntKind.i64.wrap (1 - 1) < (2:Int))⟩) ?_);subst h25;have e:Jm a.End.Want c.End.Want=some true:=by rw [w1]; exact QhZ La.w
    refine .bd (Q:=fun x=>x=true) (.gcall (fun _=>⟨_,e,rfl⟩) fun c=>absurd rfl c) fun x27 h27=>?_;subst h27;exact .ite (fun c=>absurd c (by decide)) fun _=>.ret ⟨.inr (.inr (by decide)),by show (2 - IntKind.i64.wrap ((1:Int)+1)).toNat < (2 - (1:Int)).toNat; decide⟩
  · exact .ite (fun c=>absurd c (by simp)) fun _=>.ret rfl
theorem QmE {a0 a1:List Int} (h0:a0.length≤9223372036854775807∧∀ x ∈ a0,Ql4 x) (h1:a1.length≤9223372036854775807∧∀ x ∈ a1,Ql4 x):QbE a0 a1=some true:=by
  refine QdF ?_;unfold QbE;refine .ite (fun _=>.ret rfl) fun _=>.bd (QiO h0.1 h0.2) fun x1 ⟨s,e1,i1,w1⟩=>.bd (QiO h1.1 h1.2) fun x2 ⟨t,e2,i2,w2⟩=>?_;subst e1 e2;refine .gd ⟨by decide,(by decide:(0:Int) < 2)⟩ ?_;obtain ⟨k1,k2⟩:=Qt8 i1;have hk:((toW s).Sides.getD 0 default).End.Keys=s.1.End.Keys:=rfl;rw [hk];obtain ⟨rA,_,_⟩:=Qp8 i1 w1 k1;obtain ⟨rB,_,_⟩:=Qp8 i2 w2 k1;have rA:Ry s.1.End.Keys 304 (readyG s s.1.End.Keys):=rA;have rB:Ry s.1.End.Keys 304 (readyG t s.1.End.Keys):=rB;rw [QsZ i1 k2,Qb,QsZ i2 k2,Qb];generalize readyG s s.1.End.Keys=A at *;generalize readyG t s.1.End.Keys=B at *;have eA:Eo A.1.End:=rA.iw.gs.two.a.eo;have eA2:Eo A.2.1.End:=rA.iw.gs.two.b.eo;have lA:=(ZT eA).w;have lA2:=(ZT eA2).w;obtain ⟨⟨rB1,v1,v2⟩,_⟩:=QnN rB eA.want;obtain ⟨_,rB2,u1,u2⟩:=QnN rB1 eA2.want;have gB:Gs B:=rB.iw.gs;have gB1:Gs (ZI B ⟨8,0,A.1.End.Want,[],QO⟩):=rB1.iw.gs;generalize hB1:ZI B ⟨8,0,A.1.End.Want,[],QO⟩=B1 at *;generalize hB2:ZI B1 ⟨8,1,A.2.1.End.Want,[],QO⟩=B2 at *;have l8:((toW A).Sides.length:Int)=2:=rfl;refine .bd (Q:=fun x=>(⟨x.1,x.2⟩:Qxe)=toW B2) (.lp (fun t=>((⟨t.1,t.2.1⟩:Qxe)=toW B∧t.2.2=0) ∨ ((⟨t.1,t.2.1⟩:Qxe)=toW B1∧t.2.2=1) ∨ ((⟨t.1,t.2.1⟩:Qxe)=toW B2∧t.2.2=2)) (fun t=>(2 - t.2.2).toNat) (.inl ⟨rfl,rfl⟩) fun t ht=>?_) fun x hx=>?_
  · obtain ⟨S,R,k⟩:=t;dsimp only at ht ⊢;rcases ht with ⟨e,q⟩ | ⟨e,q⟩ | ⟨e,q⟩ <;> subst q
    · refine .ite (fun _=>.gd ⟨by decide,(by decide:(0:Int) < 2)⟩ ?_) fun c=>absurd (by rfl) c;rw [e];refine .bd (Q:=fun x=>x=toW B1) ⟨_,QiB (e:=⟨8,0,A.1.End.Want,[],QO⟩) gB (by show A.1.End.Want.length≤1048576; omega) (Nat.zero_le _),by rw [hB1]⟩ fun x5 h5=>.ret ⟨.inr (.inl ⟨h5,by show IntKind.i64.wrap ((0:Int)+1)=1; decide⟩),by show (2 - IntKind.i64.wrap ((0:Int)+1)).toNat < (2 - (0:Int)).toNat; decide⟩
    · refine .ite (fun _=>.gd ⟨by decide,(by decide:(1:Int) < 2)⟩ ?_) fun c=>absurd (by rfl) c;rw [e];refine .bd (Q:=fun x=>x=toW B2) ⟨_,QiB (e:=⟨8,1,A.2.1.End.Want,[],QO⟩) gB1 (by show A.2.1.End.Want.length≤1048576; omega) (Nat.zero_le _),by rw [hB2]⟩ fun x5 h5=>.ret ⟨.inr (.inr ⟨h5,by show IntKind.i64.wrap ((1:Int)+1)=2; decide⟩),by show (2 - IntKind.i64.wrap ((1:Int)+1)).toNat < (2 - (1:Int)).toNat; decide⟩
    · exact .ite (fun c=>absurd c (by simp)) fun _=>.ret e
  rw [hx];have gA:Gs A:=rA.iw.gs;have gB2:Gs B2:=rB2.iw.gs;have z1:B2.1.End.Want=A.1.End.Want:=by rw [u2]; exact v1
  have z2:B2.2.1.End.Want=A.2.1.End.Want:=u1;obtain ⟨N,hN⟩:∃ N:Nat,N=44:=⟨_,rfl⟩;have r44:roundsN 44=N:=by rw [hN]; rfl
  obtain ⟨c1,_,c4,c5⟩:=QnM rA (k:=N) (by omega) (by omega);obtain ⟨d1,_,d4,d5⟩:=QnM rB2 (k:=N) (by omega) (by omega);obtain ⟨p1,p2⟩:=Qks N rA (by omega);obtain ⟨p3,p4⟩:=Qks N rB2 (by omega);rw [QsG gA,Qb,QsG gB2,Qb,r44];have q1:=(p3.trans z1).trans p1.symm;have q2:=(p4.trans z2).trans p2.symm;have gX:Gs (calmG N A):=c1.gs;have gY:Gs (calmG N B2):=d1.gs;generalize calmG N A=X at *;generalize calmG N B2=Y at *;refine .ite (fun c=>absurd c (by simp [toW])) fun _=>.bd (Qs0 gX gY c4 c5 d4 d5 q1 q2) fun x hx=>?_;subst hx;exact .ret rfl
end Go.Proofs.YtjgjdobkahdgfaaGreat
