/-
  Plain Lean: when words come, both soon know all; the row FnHelloCalm.
-/
import Derived.Test.YtjgjdobkahdgfaaGreatKz5
import Derived.Test.YtjgjdobkahdgfaaGreatHelCqz
set_option linter.all false
namespace Go.Proofs.YtjgjdobkahdgfaaGreat
open Go Go.Ab
set_option maxHeartbeats 400000
set_option maxRecDepth 100000
theorem QlS {t:List Qxo} (h:t.length≤1048576):Qaz t=some (t.map fun r=>r.Entry):=by
  unfold Qaz;rw [QnN h,Qb]
theorem Qv0 {a b:Qxq} {R:List Qxr} (h:Gs (a,b,R)) (ua:a.Up=true) (ub:b.Up=true) (ka:Kn a.End b.End) (kb:Kn b.End a.End):Qaa (toW (a,b,R))=some true:=by
  have ea:Eo a.End:=h.two.a.eo;have eb:Eo b.End:=h.two.b.eo;have la:=(ZX ea).h;have lb:=(ZX eb).h;have wa:=(ZX ea).w;have wb:=(ZX eb).w;refine Qc6 ?_;unfold Qaa;rw [Quc h,Qb,if_neg (by decide)];show Post (bd (lp _ 0) _) _;refine .bd (Q:=fun x=>x=Sum.inr ()) (.lp (fun k=>k=0 ∨ k=1 ∨ k=2) (fun k=>(2 - k).toNat) (.inl rfl) fun k hk=>?_) fun x hx=>by rw [hx]; exact .ret rfl
  rcases hk with q | q | q <;> subst q
  · refine .ite (fun _=>.gd ⟨by decide,(by decide:(0:Int) < 2)⟩ ?_) fun c=>absurd (by rfl) c;have z:(((!a.Up) || (!a.End.Up)) || (!a.End.Full))=false:=by rw [ua,ka.up,ka.full]; rfl
    refine .bd (Q:=fun x=>x=false) (.gcall (fun _=>⟨_,Qfx (by exact Nat.le_trans la (by decide)),ka.st⟩) fun c=>absurd z c) fun x7 h7=>?_;subst h7;have z2:((((!a.Up) || (!a.End.Up)) || (!a.End.Full)) || false)=false:=by rw [z]; rfl
    refine .bd (Q:=fun x=>x=b.End.Want) (.gcall (fun _=>⟨_,QlS (by exact Nat.le_trans la (by decide)),ka.heard⟩) fun c=>absurd z2 c) fun x8 h8=>.gd (fun _=>⟨(by decide:(0:Int)≤IntKind.i64.wrap (1 - 0)),(by decide:IntKind.i64.wrap (1 - 0) < (2:Int))⟩) ?_;subst h8;refine .bd (Q:=fun x=>x=true) (.gcall (fun _=>⟨_,QjA (by exact Nat.le_trans wb (by decide)),rfl⟩) fun c=>absurd z2 c) fun x10 h10=>.ite (fun c=>?_) fun _=>.ret ⟨.inr (.inl (by decide)),by show (2 - IntKind.i64.wrap ((0:Int)+1)).toNat < (2 - (0:Int)).toNat; decide⟩;subst h10;have c:(((((!a.Up) || (!a.End.Up)) || (!a.End.Full)) || false) || (!true))=true:=c;rw [z2] at c; cases c
  · refine .ite (fun _=>.gd ⟨by decide,(by decide:(1:Int) < 2)⟩ ?_) fun c=>absurd (by rfl) c;have z:(((!b.Up) || (!b.End.Up)) || (!b.End.Full))=false:=by rw [ub,kb.up,kb.full]; rfl
    refine .bd (Q:=fun x=>x=false) (.gcall (fun _=>⟨_,Qfx (by exact Nat.le_trans lb (by decide)),kb.st⟩) fun c=>absurd z c) fun x7 h7=>?_;subst h7;have z2:((((!b.Up) || (!b.End.Up)) || (!b.End.Full)) || false)=false:=by rw [z]; rfl
    refine .bd (Q:=fun x=>x=a.End.Want) (.gcall (fun _=>⟨_,QlS (by exact Nat.le_trans lb (by decide)),kb.heard⟩) fun c=>absurd z2 c) fun x8 h8=>.gd (fun _=>⟨(by decide:(0:Int)≤IntKind.i64.wrap (1 - 1)),(by decide:IntKind.i64.wrap (1 - 1) < (2:Int))⟩) ?_;subst h8;refine .bd (Q:=fun x=>x=true) (.gcall (fun _=>⟨_,QjA (by exact Nat.le_trans wa (by decide)),rfl⟩) fun c=>absurd z2 c) fun x10 h10=>.ite (fun c=>?_) fun _=>.ret ⟨.inr (.inr (by decide)),by show (2 - IntKind.i64.wrap ((1:Int)+1)).toNat < (2 - (1:Int)).toNat; decide⟩;subst h10;have c:(((((!b.Up) || (!b.End.Up)) || (!b.End.Full)) || false) || (!true))=true:=c;rw [z2] at c; cases c
  · exact .ite (fun c=>absurd c (by simp [toW])) fun _=>.ret rfl
theorem Qv1 {s:W3} (h:Iw s):Qbb s.1.End.Keys=true∧s.1.End.Keys.length≤1048576:=by
  have e:Eo s.1.End:=h.gs.two.a.eo;have:=(Qjv e).2;exact ⟨e.keys,by omega⟩
theorem QmU {a0 a1:List Int} (h0:a0.length≤9223372036854775807∧∀ x ∈ a0,Qmj x) (h1:a1.length≤9223372036854775807∧∀ x ∈ a1,Qmj x):QbL a0 a1=some true:=by
  refine Qc6 ?_;unfold QbL;refine .ite (fun _=>.ret rfl) fun _=>.bd (QiX h0.1 h0.2) fun x1 ⟨s,e1,i1,w1⟩=>.bd (QiX h1.1 h1.2) fun x2 ⟨t,e2,i2,w2⟩=>?_;subst e1 e2;refine .gd ⟨by decide,(by decide:(0:Int) < 2)⟩ ?_;obtain ⟨k1,k2⟩:=Qv1 i2;have hk:((toW t).Sides.getD 0 default).End.Keys=t.1.End.Keys:=rfl;rw [hk];obtain ⟨ry,_,_⟩:=Quj i1 w1 k1;have B:0≤((a1.length:Nat):Int).tmod 9∧((a1.length:Nat):Int).tmod 9 < 9:=⟨Int.tmod_nonneg _ (by omega),Int.tmod_lt_of_pos _ (by decide)⟩;generalize ((a1.length:Nat):Int).tmod 9=m at *;have g:Gs (readyG s t.1.End.Keys):=ry.iw.gs;have ry:Ry t.1.End.Keys 304 (readyG s t.1.End.Keys):=ry;rw [QvZ i1 k2,Qb];generalize readyG s t.1.End.Keys=w at *;obtain ⟨N,hN⟩:∃ N:Nat,N=44:=⟨_,rfl⟩;have r44:roundsN 44=N:=by rw [hN]; rfl
  have hr:roundsN (1+m)=(1+m).toNat:=by
    unfold roundsN;rw [if_neg (by omega),if_neg (by omega)]
  obtain ⟨c1,⟨c2,c3⟩,c4,c5⟩:=Qn2 ry (k:=N) (by omega) (by omega);obtain ⟨d1,⟨d2,d3⟩,d4,d5⟩:=Qn2 ry (k:=N+(1+m).toNat) (by omega) (by omega);rw [QkB] at d1 d2 d3 d4 d5;rw [QsS g,Qb,r44];generalize calmG N w=X at *;have know:∀ Y:W3,Iw Y→Y.1.Up=true→Y.2.1.Up=true→Kn Y.1.End Y.2.1.End→Kn Y.2.1.End Y.1.End→Qaa (toW Y)=some true:=fun ⟨a,b,R⟩ y1 y2 y3 y4 y5=>Qv0 y1.gs y2 y3 y4 y5;have gX:Gs X:=c1.gs;rw [know X c1 c2 c3 c4 c5,Qb,QvV c1,Qb5,Qb,wrap_i64 (n:=1+m) (by omega) (by omega)];refine .gd (fun _=>by decide) ?_;rw [QsS gX,hr];refine .bd (Q:=fun x=>x=toW (calmG (1+m).toNat X)) (.gcall (fun _=>⟨_,rfl,rfl⟩) fun c=>absurd rfl c) fun x9 h9=>?_;subst h9;rw [know _ d1 d2 d3 d4 d5];exact .bd (Q:=fun x=>x=true) (.gcall (fun _=>⟨_,rfl,rfl⟩) fun c=>absurd rfl c) fun x10 h10=>.ret (by rw [h10]; rfl)
end Go.Proofs.YtjgjdobkahdgfaaGreat
