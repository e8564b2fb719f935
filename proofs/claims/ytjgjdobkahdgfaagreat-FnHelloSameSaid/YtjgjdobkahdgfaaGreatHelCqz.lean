/-
  Plain Lean: behind 38 calm rounds both know all, and it stays so.
-/
import Derived.Test.YtjgjdobkahdgfaaGreatKz5
import Derived.Test.YtjgjdobkahdgfaaGreatHelCpz
set_option linter.all false
namespace Go.Proofs.YtjgjdobkahdgfaaGreat
open Go Go.Ab
set_option maxHeartbeats 400000
set_option maxRecDepth 100000
theorem Qp4 (s:Qxc) (w:Qxd):(QcV s w).Up=s.Up:=by
  unfold QcV;split <;> rfl
theorem QnL {s:Qxc} (h:So s) (w:Qxd):(QcV s w).End.Keys=s.End.Keys∧(QcV s w).End.Want=s.End.Want:=by
  unfold QcV;split
  · have:=Qjn h.eo w;exact ⟨this.2.2.2.2.1,this.2.2.2.2.2⟩
  · exact ⟨rfl,rfl⟩
theorem QuH {s:W3} (h:Gs s):((QgM s).1.Up=s.1.Up∧(QgM s).1.End.Keys=s.1.End.Keys∧(QgM s).1.End.Want=s.1.End.Want)∧((QgM s).2.1.Up=s.2.1.Up∧(QgM s).2.1.End.Keys=s.2.1.End.Keys∧(QgM s).2.1.End.Want=s.2.1.End.Want):=by
  obtain ⟨a,b,R⟩:=s
  induction R generalizing a b with
  | nil=>exact ⟨⟨rfl,rfl,rfl⟩,⟨rfl,rfl,rfl⟩⟩
  | cons x r ih =>
    have k:=ih _ _ (Qgp (i:=0) h (by simp));obtain ⟨a1,a2⟩:=QnL (s:=a) h.two.a x;obtain ⟨b1,b2⟩:=QnL (s:=b) h.two.b x;exact ⟨⟨k.1.1.trans (Qp4 a x),k.1.2.1.trans a1,k.1.2.2.trans a2⟩,⟨k.2.1.trans (Qp4 b x),k.2.2.1.trans b1,k.2.2.2.trans b2⟩⟩
theorem QwC {ks:List Qw7} {n:Int} {s:W3} (h:Ry ks n s):Ry ks n (QgM s):=by
  obtain ⟨⟨a1,a2,_⟩,⟨b1,b2,_⟩⟩:=QuH h.iw.gs;exact ⟨QoM h.iw,a1.trans h.ua,b1.trans h.ub,a2.trans h.ka,b2.trans h.kb,QsQ h.iw.gs h.sw⟩
theorem QuI (s:W3):QgM s=((QgM s).1,(QgM s).2.1,[]):=rfl
theorem Qfp {ks:List Qw7} {n:Int} {s:W3} (h:Ry ks n s) (hn:n≤900):∃ p q:Qxb,Qau s=(⟨true,p⟩,⟨true,q⟩,[])∧Nx (QgM s).1.End (QgM s).2.1.End p∧Nx (QgM s).2.1.End (QgM s).1.End q∧Ry ks (n+4) (Qau s):=by
  have h1:=QwC h;obtain ⟨p,q,e,N1,N2⟩:=QvM (a:=(QgM s).1) (b:=(QgM s).2.1) (by rw [← QuI]; exact h1) hn;have er:Qau s=(⟨true,p⟩,⟨true,q⟩,[]):=by rw [Qq1,QuI]; exact e
  refine ⟨p,q,er,N1,N2,?_⟩;have iw:=QnI h.iw;have sw:=QpZ h.iw.gs h.sw;rw [er] at iw sw ⊢;exact ⟨iw,rfl,rfl,N1.keys.trans h1.ka,N2.keys.trans h1.kb,sw⟩
structure Jn (s:W3):Prop where
  rd:s.2.2=[]
  a:s.1.End.PeerBoot=s.2.1.End.Boot
  b:s.2.1.End.PeerBoot=s.1.End.Boot
structure Ju (s:W3):Prop where
  jn:Jn s
  ua:s.1.End.Up=true
  ub:s.2.1.End.Up=true
theorem Qp5 {ks:List Qw7} {n:Int} {s:W3} (h:Ry ks n s) (hn:n≤900):Jn (Qau s):=by
  obtain ⟨p,q,e,N1,N2,_⟩:=Qfp h hn;rw [e];exact ⟨rfl,N1.pboot.trans N2.boot.symm,N2.pboot.trans N1.boot.symm⟩
theorem QsW {s:W3} (h:s.2.2=[]):QgM s=s:=by
  obtain ⟨a,b,R⟩:=s;have h:R=[]:=h;subst h
  rfl
theorem QwD {x y z:Qxb} (N:Nx x y z) (jx:x.PeerBoot=y.Boot) (jy:y.PeerBoot=x.Boot):z.Up=true:=by
  have bx:Jy (Zx x) (QbZ y)=Zx x:=if_neg (by show ¬ y.Boot > x.PeerBoot; omega);rw [N.soft.up,N.hf.up,bx];have:(QbZ y).Yours=(Zx x).Boot:=jy;simpa using this
theorem Qp6 {ks:List Qw7} {n:Int} {s:W3} (h:Ry ks n s) (hn:n≤900) (j:Jn s):Ju (Qau s):=by
  have jn:=Qp5 h hn;obtain ⟨p,q,e,N1,N2,_⟩:=Qfp h hn;rw [QsW j.rd] at N1 N2;rw [e] at jn ⊢;exact ⟨jn,QwD N1 j.a j.b,QwD N2 j.b j.a⟩
theorem Qp7 {ks:List Qw7} {n:Int} {s:W3} (h:Ry ks n s) (j:Jn s):Tells s.1.End s.2.1.End∧Tells s.2.1.End s.1.End:=⟨h.iw.ab.told h.ua h.ub j.a j.b,h.iw.ba.told h.ub h.ua j.b j.a⟩
theorem QsX {ks:List Qw7} {n:Int} {s:W3} (h:Ry ks n s) (hn:n≤900) (j:Ju s):QnK (Qau s).1.End (Qau s).2.1.End≤QnK s.1.End s.2.1.End - 1∧QnK (Qau s).2.1.End (Qau s).1.End≤QnK s.2.1.End s.1.End - 1:=by
  obtain ⟨t1,t2⟩:=Qp7 h j.jn;obtain ⟨p,q,e,N1,N2,_⟩:=Qfp h hn;rw [QsW j.jn.rd] at N1 N2;rw [e];have ea:Eo s.1.End:=h.iw.gs.two.a.eo;have eb:Eo s.2.1.End:=h.iw.gs.two.b.eo;exact ⟨Qp3 N1 N2 ea eb j.jn.a j.jn.b j.ua t1,Qp3 N2 N1 eb ea j.jn.b j.jn.a j.ub t2⟩
theorem QsY {ks:List Qw7}:∀ (k:Nat) {n:Int} {s:W3},Ry ks n s→n+4*k≤900→Ju s→Ry ks (n+4*k) (calmG k s)∧Ju (calmG k s)∧QnK (calmG k s).1.End (calmG k s).2.1.End≤QnK s.1.End s.2.1.End - k∧QnK (calmG k s).2.1.End (calmG k s).1.End≤QnK s.2.1.End s.1.End - k
  | 0,n,s,h,_,j=>by
    refine ⟨?_,j,Nat.le_refl _,Nat.le_refl _⟩;rw [show n+4*((0:Nat):Int)=n by omega]; exact h
  | k+1,n,s,h,hn,j=>by
    obtain ⟨_,_,_,_,_,h1⟩:=Qfp h (by omega);have j1:=Qp6 h (by omega) j.jn;obtain ⟨m1,m2⟩:=QsX h (by omega) j;obtain ⟨r1,r2,r3,r4⟩:=QsY k h1 (by omega) j1;rw [show n+4+4*(k:Int)=n+4*((k+1:Nat):Int) by omega] at r1;exact ⟨r1,r2,Nat.le_trans r3 (by omega),Nat.le_trans r4 (by omega)⟩
structure Kn (x y:Qxb):Prop where
  up:x.Up=true
  full:x.Full=true
  st:Jj x.Heard=false
  heard:x.Heard.map (fun r=>r.Entry)=y.Want
theorem QwE {x y:Qxb} (ex:Eo y) (T:Tells y x) (u:x.Up=true) (hm:QnK y x=0):Kn x y:=by
  unfold QnK at hm;have hd:dl (JD y.Told y.Under) y.Want (y.All || (y.Under.Kind == 3))=0:=by omega
  have k0:y.Under.Kind=0:=by
    by_cases c:y.Under.Kind=0
    · exact c
    · rw [if_neg c] at hm;split at hm <;> omega
  rw [QaR k0] at hd;obtain ⟨d1,d2⟩:=QvN (QeV ex.told) (QeV ex.want) hd;have hn:x.Full=(y.All || (y.Under.Kind == 3))∧frE x.Heard=y.Told:=by
    rcases T.num with ⟨_,g2,g3⟩ | ⟨g0,_⟩
    · rw [QaR k0] at g3;exact ⟨g2,g3⟩
    · exact absurd k0 g0
  have hf:x.Full=true:=hn.1.trans d2;have st:=T.full hf;refine ⟨u,hf,st,?_⟩;have fr:fresh x.Heard=x.Heard:=List.filter_eq_self.2 fun r hr=>by
    cases hs:r.Stale
    · rfl
    · have:=QaJ.2 ⟨r,hr,hs⟩;rw [st] at this; cases this
  rw [← d1,← hn.2];unfold frE;rw [fr]
theorem QnM {ks:List Qw7} {n:Int} {s:W3} (h:Ry ks n s) {k:Nat} (hk:38≤k) (hn:n+4*k≤900):Iw (calmG k s)∧((calmG k s).1.Up=true∧(calmG k s).2.1.Up=true)∧Kn (calmG k s).1.End (calmG k s).2.1.End∧Kn (calmG k s).2.1.End (calmG k s).1.End:=by
  obtain ⟨_,_,_,_,_,h1⟩:=Qfp h (by omega);have j1:=Qp5 h (by omega);obtain ⟨_,_,_,_,_,h2⟩:=Qfp h1 (by omega);have j2:=Qp6 h1 (by omega) j1;obtain ⟨r1,r2,r3,r4⟩:=QsY (k - 2) h2 (by omega) j2;have e:calmG (k - 2) (Qau (Qau s))=calmG k s:=by
    have:k=2+(k - 2):=by omega
    conv=>rhs; rw [this,Qny]
    rfl
  have ea:Eo (Qau (Qau s)).1.End:=h2.iw.gs.two.a.eo;have eb:Eo (Qau (Qau s)).2.1.End:=h2.iw.gs.two.b.eo;have m1:=QuG ea (Qau (Qau s)).2.1.End;have m2:=QuG eb (Qau (Qau s)).1.End;obtain ⟨t1,t2⟩:=Qp7 r1 r2.jn;rw [e] at r1 r2 r3 r4 t1 t2;have fa:Eo (calmG k s).1.End:=r1.iw.gs.two.a.eo;have fb:Eo (calmG k s).2.1.End:=r1.iw.gs.two.b.eo;exact ⟨r1.iw,⟨r1.ua,r1.ub⟩,QwE fb t2 r2.ua (by omega),QwE fa t1 r2.ub (by omega)⟩
theorem Qp8 {s:W3} (h:Iw s) (k:Sw 300 s) {ks:List Qw7} (hk:Qa5 ks=true):Ry ks 304 (ZI (ZI (ZI (ZI s ⟨7,0,[],[],QO⟩) ⟨9,0,[],ks,QO⟩) ⟨7,1,[],[],QO⟩) ⟨9,1,[],ks,QO⟩)∧(ZI (ZI (ZI (ZI s ⟨7,0,[],[],QO⟩) ⟨9,0,[],ks,QO⟩) ⟨7,1,[],[],QO⟩) ⟨9,1,[],ks,QO⟩).1.End.Want=s.1.End.Want∧(ZI (ZI (ZI (ZI s ⟨7,0,[],[],QO⟩) ⟨9,0,[],ks,QO⟩) ⟨7,1,[],[],QO⟩) ⟨9,1,[],ks,QO⟩).2.1.End.Want=s.2.1.End.Want:=by
  have i1:=Qdf h ⟨7,0,[],[],QO⟩;have i2:=Qdf i1 ⟨9,0,[],ks,QO⟩;have i3:=Qdf i2 ⟨7,1,[],[],QO⟩;have i4:=Qdf i3 ⟨9,1,[],ks,QO⟩;have w1:=Qhi h.gs k ⟨7,0,[],[],QO⟩;have w2:=Qhi i1.gs w1 ⟨9,0,[],ks,QO⟩;have w3:=Qhi i2.gs w2 ⟨7,1,[],[],QO⟩;have w4:=Qhi i3.gs w3 ⟨9,1,[],ks,QO⟩;have rise:∀ x:Qxc,(QaT x 7 [] []).Up=true∧(QaT x 7 [] []).End.Want=x.End.Want:=fun x=>by
    unfold QaT;rw [if_neg (by decide),if_neg (by decide),if_neg (by decide),if_pos rfl];split
    · next u=>exact ⟨u,rfl⟩
    · exact ⟨rfl,rfl⟩
  have roll:∀ x:Qxc,QaT x 9 [] ks=⟨x.Up,{ x.End with Keys:=ks }⟩:=fun x=>by
    unfold QaT;rw [if_neg (by decide),if_neg (by decide),if_neg (by decide),if_neg (by decide),if_neg (by decide),if_pos rfl,if_pos hk]
  have s7:∀ t:W3,(ZI t ⟨7,0,[],[],QO⟩).1=QaT t.1 7 [] []∧(ZI t ⟨7,0,[],[],QO⟩).2.1=t.2.1∧(ZI t ⟨7,1,[],[],QO⟩).1=t.1∧(ZI t ⟨7,1,[],[],QO⟩).2.1=QaT t.2.1 7 [] []:=fun t=>⟨rfl,rfl,rfl,rfl⟩;have s9:∀ t:W3,(ZI t ⟨9,0,[],ks,QO⟩).1=QaT t.1 9 [] ks∧(ZI t ⟨9,0,[],ks,QO⟩).2.1=t.2.1∧(ZI t ⟨9,1,[],ks,QO⟩).1=t.1∧(ZI t ⟨9,1,[],ks,QO⟩).2.1=QaT t.2.1 9 [] ks:=fun t=>⟨rfl,rfl,rfl,rfl⟩;have e1:(ZI (ZI (ZI (ZI s ⟨7,0,[],[],QO⟩) ⟨9,0,[],ks,QO⟩) ⟨7,1,[],[],QO⟩) ⟨9,1,[],ks,QO⟩).1=QaT (QaT s.1 7 [] []) 9 [] ks:=by
    rw [(s9 _).2.2.1,(s7 _).2.2.1,(s9 _).1,(s7 _).1]
  have e2:(ZI (ZI (ZI (ZI s ⟨7,0,[],[],QO⟩) ⟨9,0,[],ks,QO⟩) ⟨7,1,[],[],QO⟩) ⟨9,1,[],ks,QO⟩).2.1=QaT (QaT s.2.1 7 [] []) 9 [] ks:=by
    rw [(s9 _).2.2.2,(s7 _).2.2.2,(s9 _).2.1,(s7 _).2.1]
  have e:(300:Int)+1+1+1+1=304:=by decide
  rw [e] at w4;refine ⟨⟨i4,?_,?_,?_,?_,w4⟩,?_,?_⟩
  · rw [e1,roll]; exact (rise _).1
  · rw [e2,roll]; exact (rise _).1
  · rw [e1,roll]
  · rw [e2,roll]
  · rw [e1,roll]; exact (rise _).2
  · rw [e2,roll]; exact (rise _).2
def readyG (s:W3) (ks:List Qw7):W3:=ZI (ZI (ZI (ZI s ⟨7,0,[],[],QO⟩) ⟨9,0,[],ks,QO⟩) ⟨7,1,[],[],QO⟩) ⟨9,1,[],ks,QO⟩
theorem QsZ {s:W3} (h:Iw s) {ks:List Qw7} (hl:ks.length≤1048576):Qbv (toW s) ks=some (toW (readyG s ks)):=by
  have i1:=Qdf h ⟨7,0,[],[],QO⟩;have i2:=Qdf i1 ⟨9,0,[],ks,QO⟩;have i3:=Qdf i2 ⟨7,1,[],[],QO⟩;refine QdF ?_;unfold Qbv;refine .bd (Q:=fun x=>(⟨x.1,x.2⟩:Qxe)=toW (readyG s ks)) (.lp (fun t=>((⟨t.1,t.2.1⟩:Qxe)=toW s∧t.2.2=0) ∨ ((⟨t.1,t.2.1⟩:Qxe)=toW (ZI (ZI s ⟨7,0,[],[],QO⟩) ⟨9,0,[],ks,QO⟩)∧t.2.2=1) ∨ ((⟨t.1,t.2.1⟩:Qxe)=toW (readyG s ks)∧t.2.2=2)) (fun t=>(2 - t.2.2).toNat) (.inl ⟨rfl,rfl⟩) fun t ht=>?_) fun x hx=>.ret hx;obtain ⟨S,R,k⟩:=t;dsimp only at ht ⊢;rcases ht with ⟨e,q⟩ | ⟨e,q⟩ | ⟨e,q⟩ <;> subst q
  · refine .ite (fun _=>?_) fun c=>absurd (by rfl) c;rw [e];refine .bd (Q:=fun x=>x=toW (ZI s ⟨7,0,[],[],QO⟩)) ⟨_,QiB h.gs (Nat.zero_le _) (Nat.zero_le _),rfl⟩ fun x5 h5=>?_;subst h5;refine .bd (Q:=fun x=>x=toW (ZI (ZI s ⟨7,0,[],[],QO⟩) ⟨9,0,[],ks,QO⟩)) ⟨_,QiB i1.gs (Nat.zero_le _) hl,rfl⟩ fun x6 h6=>.ret ⟨.inr (.inl ⟨h6,by show IntKind.i64.wrap ((0:Int)+1)=1; decide⟩),by show (2 - IntKind.i64.wrap ((0:Int)+1)).toNat < (2 - (0:Int)).toNat; decide⟩
  · refine .ite (fun _=>?_) fun c=>absurd (by rfl) c;rw [e];refine .bd (Q:=fun x=>x=toW (ZI (ZI (ZI s ⟨7,0,[],[],QO⟩) ⟨9,0,[],ks,QO⟩) ⟨7,1,[],[],QO⟩)) ⟨_,QiB i2.gs (Nat.zero_le _) (Nat.zero_le _),rfl⟩ fun x5 h5=>?_;subst h5;refine .bd (Q:=fun x=>x=toW (readyG s ks)) ⟨_,QiB i3.gs (Nat.zero_le _) hl,rfl⟩ fun x6 h6=>.ret ⟨.inr (.inr ⟨h6,by show IntKind.i64.wrap ((1:Int)+1)=2; decide⟩),by show (2 - IntKind.i64.wrap ((1:Int)+1)).toNat < (2 - (1:Int)).toNat; decide⟩
  · exact .ite (fun c=>absurd c (by simp)) fun _=>.ret e
end Go.Proofs.YtjgjdobkahdgfaaGreat
