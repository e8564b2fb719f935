/-
  Plain Lean: behind 38 calm rounds both know all, and it stays so.
-/
import Derived.Test.YtjgjdobkahdgfaaGreatKz5
import Derived.Test.YtjgjdobkahdgfaaGreatHelCpz
set_option linter.all false
namespace Go.Proofs.YtjgjdobkahdgfaaGreat
open Go Go.Ab
set_option maxHeartbeats 400000
set_option maxRecDepth 100000
theorem Qqm (s:Qxq) (w:Qxr):(Qc8 s w).Up=s.Up:=by
  unfold Qc8;split <;> rfl
theorem Qn1 {s:Qxq} (h:So s) (w:Qxr):(Qc8 s w).End.Keys=s.End.Keys∧(Qc8 s w).End.Want=s.End.Want:=by
  unfold Qc8;split
  · have:=Qjy h.eo w;exact ⟨this.2.2.2.2.1,this.2.2.2.2.2⟩
  · exact ⟨rfl,rfl⟩
theorem QwP {s:W3} (h:Gs s):((QgX s).1.Up=s.1.Up∧(QgX s).1.End.Keys=s.1.End.Keys∧(QgX s).1.End.Want=s.1.End.Want)∧((QgX s).2.1.Up=s.2.1.Up∧(QgX s).2.1.End.Keys=s.2.1.End.Keys∧(QgX s).2.1.End.Want=s.2.1.End.Want):=by
  obtain ⟨a,b,R⟩:=s
  induction R generalizing a b with
  | nil=>exact ⟨⟨rfl,rfl,rfl⟩,⟨rfl,rfl,rfl⟩⟩
  | cons x r ih =>
    have k:=ih _ _ (QgA (i:=0) h (by simp));obtain ⟨a1,a2⟩:=Qn1 (s:=a) h.two.a x;obtain ⟨b1,b2⟩:=Qn1 (s:=b) h.two.b x;exact ⟨⟨k.1.1.trans (Qqm a x),k.1.2.1.trans a1,k.1.2.2.trans a2⟩,⟨k.2.1.trans (Qqm b x),k.2.2.1.trans b1,k.2.2.2.trans b2⟩⟩
theorem QwQ {ks:List Qxl} {n:Int} {s:W3} (h:Ry ks n s):Ry ks n (QgX s):=by
  obtain ⟨⟨a1,a2,_⟩,⟨b1,b2,_⟩⟩:=QwP h.iw.gs;exact ⟨Qo1 h.iw,a1.trans h.ua,b1.trans h.ub,a2.trans h.ka,b2.trans h.kb,Qs3 h.iw.gs h.sw⟩
theorem QuR (s:W3):QgX s=((QgX s).1,(QgX s).2.1,[]):=rfl
theorem QgB {ks:List Qxl} {n:Int} {s:W3} (h:Ry ks n s) (hn:n≤900):∃ p q:Qxp,QaR s=(⟨true,p⟩,⟨true,q⟩,[])∧Nx (QgX s).1.End (QgX s).2.1.End p∧Nx (QgX s).2.1.End (QgX s).1.End q∧Ry ks (n+4) (QaR s):=by
  have h1:=QwQ h;obtain ⟨p,q,e,N1,N2⟩:=QvX (a:=(QgX s).1) (b:=(QgX s).2.1) (by rw [← QuR]; exact h1) hn;have er:QaR s=(⟨true,p⟩,⟨true,q⟩,[]):=by rw [Qrh,QuR]; exact e
  refine ⟨p,q,er,N1,N2,?_⟩;have iw:=QnY h.iw;have sw:=Qqh h.iw.gs h.sw;rw [er] at iw sw ⊢;exact ⟨iw,rfl,rfl,N1.keys.trans h1.ka,N2.keys.trans h1.kb,sw⟩
structure Jn (s:W3):Prop where
  rd:s.2.2=[]
  a:s.1.End.PeerBoot=s.2.1.End.Boot
  b:s.2.1.End.PeerBoot=s.1.End.Boot
structure Ju (s:W3):Prop where
  jn:Jn s
  ua:s.1.End.Up=true
  ub:s.2.1.End.Up=true
theorem Qqn {ks:List Qxl} {n:Int} {s:W3} (h:Ry ks n s) (hn:n≤900):Jn (QaR s):=by
  obtain ⟨p,q,e,N1,N2,_⟩:=QgB h hn;rw [e];exact ⟨rfl,N1.pboot.trans N2.boot.symm,N2.pboot.trans N1.boot.symm⟩
theorem Qs9 {s:W3} (h:s.2.2=[]):QgX s=s:=by
  obtain ⟨a,b,R⟩:=s;have h:R=[]:=h;subst h
  rfl
theorem QwR {x y z:Qxp} (N:Nx x y z) (jx:x.PeerBoot=y.Boot) (jy:y.PeerBoot=x.Boot):z.Up=true:=by
  have bx:JB (ZC x) (Qb7 y)=ZC x:=if_neg (by show ¬ y.Boot > x.PeerBoot; omega);rw [N.soft.up,N.hf.up,bx];have:(Qb7 y).Yours=(ZC x).Boot:=jy;simpa using this
theorem Qqo {ks:List Qxl} {n:Int} {s:W3} (h:Ry ks n s) (hn:n≤900) (j:Jn s):Ju (QaR s):=by
  have jn:=Qqn h hn;obtain ⟨p,q,e,N1,N2,_⟩:=QgB h hn;rw [Qs9 j.rd] at N1 N2;rw [e] at jn ⊢;exact ⟨jn,QwR N1 j.a j.b,QwR N2 j.b j.a⟩
theorem Qqp {ks:List Qxl} {n:Int} {s:W3} (h:Ry ks n s) (j:Jn s):Tells s.1.End s.2.1.End∧Tells s.2.1.End s.1.End:=⟨h.iw.ab.told h.ua h.ub j.a j.b,h.iw.ba.told h.ub h.ua j.b j.a⟩
theorem Qta {ks:List Qxl} {n:Int} {s:W3} (h:Ry ks n s) (hn:n≤900) (j:Ju s):Qn0 (QaR s).1.End (QaR s).2.1.End≤Qn0 s.1.End s.2.1.End - 1∧Qn0 (QaR s).2.1.End (QaR s).1.End≤Qn0 s.2.1.End s.1.End - 1:=by
  obtain ⟨t1,t2⟩:=Qqp h j.jn;obtain ⟨p,q,e,N1,N2,_⟩:=QgB h hn;rw [Qs9 j.jn.rd] at N1 N2;rw [e];have ea:Eo s.1.End:=h.iw.gs.two.a.eo;have eb:Eo s.2.1.End:=h.iw.gs.two.b.eo;exact ⟨Qql N1 N2 ea eb j.jn.a j.jn.b j.ua t1,Qql N2 N1 eb ea j.jn.b j.jn.a j.ub t2⟩
theorem Qtb {ks:List Qxl}:∀ (k:Nat) {n:Int} {s:W3},Ry ks n s→n+4*k≤900→Ju s→Ry ks (n+4*k) (calmG k s)∧Ju (calmG k s)∧Qn0 (calmG k s).1.End (calmG k s).2.1.End≤Qn0 s.1.End s.2.1.End - k∧Qn0 (calmG k s).2.1.End (calmG k s).1.End≤Qn0 s.2.1.End s.1.End - k
  | 0,n,s,h,_,j=>by
    refine ⟨?_,j,Nat.le_refl _,Nat.le_refl _⟩;rw [show n+4*((0:Nat):Int)=n by omega]; exact h
  | k+1,n,s,h,hn,j=>by
    obtain ⟨_,_,_,_,_,h1⟩:=QgB h (by omega);have j1:=Qqo h (by omega) j.jn;obtain ⟨m1,m2⟩:=Qta h (by omega) j;obtain ⟨r1,r2,r3,r4⟩:=Qtb k h1 (by omega) j1;rw [show n+4+4*(k:Int)=n+4*((k+1:Nat):Int) by omega] at r1;exact ⟨r1,r2,Nat.le_trans r3 (by omega),Nat.le_trans r4 (by omega)⟩
structure Kn (x y:Qxp):Prop where
  up:x.Up=true
  full:x.Full=true
  st:Z8 x.Heard=false
  heard:x.Heard.map (fun r=>r.Entry)=y.Want
theorem QwS {x y:Qxp} (ex:Eo y) (T:Tells y x) (u:x.Up=true) (hm:Qn0 y x=0):Kn x y:=by
  unfold Qn0 at hm;have hd:dl (JG y.Told y.Under) y.Want (y.All || (y.Under.Kind == 3))=0:=by omega
  have k0:y.Under.Kind=0:=by
    by_cases c:y.Under.Kind=0
    · exact c
    · rw [if_neg c] at hm;split at hm <;> omega
  rw [QaZ k0] at hd;obtain ⟨d1,d2⟩:=QvY (QeC ex.told) (QeC ex.want) hd;have hn:x.Full=(y.All || (y.Under.Kind == 3))∧frE x.Heard=y.Told:=by
    rcases T.num with ⟨_,g2,g3⟩ | ⟨g0,_⟩
    · rw [QaZ k0] at g3;exact ⟨g2,g3⟩
    · exact absurd k0 g0
  have hf:x.Full=true:=hn.1.trans d2;have st:=T.full hf;refine ⟨u,hf,st,?_⟩;have fr:fresh x.Heard=x.Heard:=List.filter_eq_self.2 fun r hr=>by
    cases hs:r.Stale
    · rfl
    · have:=QaQ.2 ⟨r,hr,hs⟩;rw [st] at this; cases this
  rw [← d1,← hn.2];unfold frE;rw [fr]
theorem Qn2 {ks:List Qxl} {n:Int} {s:W3} (h:Ry ks n s) {k:Nat} (hk:38≤k) (hn:n+4*k≤900):Iw (calmG k s)∧((calmG k s).1.Up=true∧(calmG k s).2.1.Up=true)∧Kn (calmG k s).1.End (calmG k s).2.1.End∧Kn (calmG k s).2.1.End (calmG k s).1.End:=by
  obtain ⟨_,_,_,_,_,h1⟩:=QgB h (by omega);have j1:=Qqn h (by omega);obtain ⟨_,_,_,_,_,h2⟩:=QgB h1 (by omega);have j2:=Qqo h1 (by omega) j1;obtain ⟨r1,r2,r3,r4⟩:=Qtb (k - 2) h2 (by omega) j2;have e:calmG (k - 2) (QaR (QaR s))=calmG k s:=by
    have:k=2+(k - 2):=by omega
    conv=>rhs; rw [this,QkB]
    rfl
  have ea:Eo (QaR (QaR s)).1.End:=h2.iw.gs.two.a.eo;have eb:Eo (QaR (QaR s)).2.1.End:=h2.iw.gs.two.b.eo;have m1:=QuQ ea (QaR (QaR s)).2.1.End;have m2:=QuQ eb (QaR (QaR s)).1.End;obtain ⟨t1,t2⟩:=Qqp r1 r2.jn;rw [e] at r1 r2 r3 r4 t1 t2;have fa:Eo (calmG k s).1.End:=r1.iw.gs.two.a.eo;have fb:Eo (calmG k s).2.1.End:=r1.iw.gs.two.b.eo;exact ⟨r1.iw,⟨r1.ua,r1.ub⟩,QwS fb t2 r2.ua (by omega),QwS fa t1 r2.ub (by omega)⟩
theorem Quj {s:W3} (h:Iw s) (k:Sw 300 s) {ks:List Qxl} (hk:Qbb ks=true):Ry ks 304 (Jr (Jr (Jr (Jr s ⟨7,0,[],[],Zj⟩) ⟨9,0,[],ks,Zj⟩) ⟨7,1,[],[],Zj⟩) ⟨9,1,[],ks,Zj⟩)∧(Jr (Jr (Jr (Jr s ⟨7,0,[],[],Zj⟩) ⟨9,0,[],ks,Zj⟩) ⟨7,1,[],[],Zj⟩) ⟨9,1,[],ks,Zj⟩).1.End.Want=s.1.End.Want∧(Jr (Jr (Jr (Jr s ⟨7,0,[],[],Zj⟩) ⟨9,0,[],ks,Zj⟩) ⟨7,1,[],[],Zj⟩) ⟨9,1,[],ks,Zj⟩).2.1.End.Want=s.2.1.End.Want:=by
  have i1:=QeE h ⟨7,0,[],[],Zj⟩;have i2:=QeE i1 ⟨9,0,[],ks,Zj⟩;have i3:=QeE i2 ⟨7,1,[],[],Zj⟩;have i4:=QeE i3 ⟨9,1,[],ks,Zj⟩;have w1:=QkE h.gs k ⟨7,0,[],[],Zj⟩;have w2:=QkE i1.gs w1 ⟨9,0,[],ks,Zj⟩;have w3:=QkE i2.gs w2 ⟨7,1,[],[],Zj⟩;have w4:=QkE i3.gs w3 ⟨9,1,[],ks,Zj⟩;have rise:∀ x:Qxq,(Qbc x 7 [] []).Up=true∧(Qbc x 7 [] []).End.Want=x.End.Want:=fun x=>by
    unfold Qbc;rw [if_neg (by decide),if_neg (by decide),if_neg (by decide),if_pos rfl];split
    · next u=>exact ⟨u,rfl⟩
    · exact ⟨rfl,rfl⟩
  have roll:∀ x:Qxq,Qbc x 9 [] ks=⟨x.Up,{ x.End with Keys:=ks }⟩:=fun x=>by
    unfold Qbc;rw [if_neg (by decide),if_neg (by decide),if_neg (by decide),if_neg (by decide),if_neg (by decide),if_pos rfl,if_pos hk]
  have s7:∀ t:W3,(Jr t ⟨7,0,[],[],Zj⟩).1=Qbc t.1 7 [] []∧(Jr t ⟨7,0,[],[],Zj⟩).2.1=t.2.1∧(Jr t ⟨7,1,[],[],Zj⟩).1=t.1∧(Jr t ⟨7,1,[],[],Zj⟩).2.1=Qbc t.2.1 7 [] []:=fun t=>⟨rfl,rfl,rfl,rfl⟩;have s9:∀ t:W3,(Jr t ⟨9,0,[],ks,Zj⟩).1=Qbc t.1 9 [] ks∧(Jr t ⟨9,0,[],ks,Zj⟩).2.1=t.2.1∧(Jr t ⟨9,1,[],ks,Zj⟩).1=t.1∧(Jr t ⟨9,1,[],ks,Zj⟩).2.1=Qbc t.2.1 9 [] ks:=fun t=>⟨rfl,rfl,rfl,rfl⟩;have e1:(Jr (Jr (Jr (Jr s ⟨7,0,[],[],Zj⟩) ⟨9,0,[],ks,Zj⟩) ⟨7,1,[],[],Zj⟩) ⟨9,1,[],ks,Zj⟩).1=Qbc (Qbc s.1 7 [] []) 9 [] ks:=by
    rw [(s9 _).2.2.1,(s7 _).2.2.1,(s9 _).1,(s7 _).1]
  have e2:(Jr (Jr (Jr (Jr s ⟨7,0,[],[],Zj⟩) ⟨9,0,[],ks,Zj⟩) ⟨7,1,[],[],Zj⟩) ⟨9,1,[],ks,Zj⟩).2.1=Qbc (Qbc s.2.1 7 [] []) 9 [] ks:=by
    rw [(s9 _).2.2.2,(s7 _).2.2.2,(s9 _).2.1,(s7 _).2.1]
  have e:(300:Int)+1+1+1+1=304:=by decide
  rw [e] at w4;refine ⟨⟨i4,?_,?_,?_,?_,w4⟩,?_,?_⟩
  · rw [e1,roll]; exact (rise _).1
  · rw [e2,roll]; exact (rise _).1
  · rw [e1,roll]
  · rw [e2,roll]
  · rw [e1,roll]; exact (rise _).2
  · rw [e2,roll]; exact (rise _).2
def readyG (s:W3) (ks:List Qxl):W3:=Jr (Jr (Jr (Jr s ⟨7,0,[],[],Zj⟩) ⟨9,0,[],ks,Zj⟩) ⟨7,1,[],[],Zj⟩) ⟨9,1,[],ks,Zj⟩
theorem QvZ {s:W3} (h:Iw s) {ks:List Qxl} (hl:ks.length≤1048576):Qcv (toW s) ks=some (toW (readyG s ks)):=by
  have i1:=QeE h ⟨7,0,[],[],Zj⟩;have i2:=QeE i1 ⟨9,0,[],ks,Zj⟩;have i3:=QeE i2 ⟨7,1,[],[],Zj⟩;refine Qc6 ?_;unfold Qcv;refine .bd (Q:=fun x=>(⟨x.1,x.2⟩:Qxs)=toW (readyG s ks)) (.lp (fun t=>((⟨t.1,t.2.1⟩:Qxs)=toW s∧t.2.2=0) ∨ ((⟨t.1,t.2.1⟩:Qxs)=toW (Jr (Jr s ⟨7,0,[],[],Zj⟩) ⟨9,0,[],ks,Zj⟩)∧t.2.2=1) ∨ ((⟨t.1,t.2.1⟩:Qxs)=toW (readyG s ks)∧t.2.2=2)) (fun t=>(2 - t.2.2).toNat) (.inl ⟨rfl,rfl⟩) fun t ht=>?_) fun x hx=>.ret hx;obtain ⟨S,R,k⟩:=t;dsimp only at ht ⊢;rcases ht with ⟨e,q⟩ | ⟨e,q⟩ | ⟨e,q⟩ <;> subst q
  · refine .ite (fun _=>?_) fun c=>absurd (by rfl) c;rw [e];refine .bd (Q:=fun x=>x=toW (Jr s ⟨7,0,[],[],Zj⟩)) ⟨_,QmP h.gs (Nat.zero_le _) (Nat.zero_le _),rfl⟩ fun x5 h5=>?_;subst h5;refine .bd (Q:=fun x=>x=toW (Jr (Jr s ⟨7,0,[],[],Zj⟩) ⟨9,0,[],ks,Zj⟩)) ⟨_,QmP i1.gs (Nat.zero_le _) hl,rfl⟩ fun x6 h6=>.ret ⟨.inr (.inl ⟨h6,by show IntKind.i64.wrap ((0:Int)+1)=1; decide⟩),by show (2 - IntKind.i64.wrap ((0:Int)+1)).toNat < (2 - (0:Int)).toNat; decide⟩
  · refine .ite (fun _=>?_) fun c=>absurd (by rfl) c;rw [e];refine .bd (Q:=fun x=>x=toW (Jr (Jr (Jr s ⟨7,0,[],[],Zj⟩) ⟨9,0,[],ks,Zj⟩) ⟨7,1,[],[],Zj⟩)) ⟨_,QmP i2.gs (Nat.zero_le _) (Nat.zero_le _),rfl⟩ fun x5 h5=>?_;subst h5;refine .bd (Q:=fun x=>x=toW (readyG s ks)) ⟨_,QmP i3.gs (Nat.zero_le _) hl,rfl⟩ fun x6 h6=>.ret ⟨.inr (.inr ⟨h6,by show IntKind.i64.wrap ((1:Int)+1)=2; decide⟩),by show (2 - IntKind.i64.wrap ((1:Int)+1)).toNat < (2 - (1:Int)).toNat; decide⟩
  · exact .ite (fun c=>absurd c (by simp)) fun _=>.ret e
end Go.Proofs.YtjgjdobkahdgfaaGreat
