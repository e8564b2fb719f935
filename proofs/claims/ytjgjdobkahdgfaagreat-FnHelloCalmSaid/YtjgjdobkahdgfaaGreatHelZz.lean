/-
  Plain Lean: the invariant holds behind whatever happens.
-/
import Derived.Test.YtjgjdobkahdgfaaGreatKz5
import Derived.Test.YtjgjdobkahdgfaaGreatHelYz
set_option linter.all false
namespace Go.Proofs.YtjgjdobkahdgfaaGreat
open Go Go.Ab
set_option maxHeartbeats 400000
set_option maxRecDepth 100000
theorem QkD (e:Qxp):(ZM e).Boot=if e.Boot < 1000 then e.Boot+1 else e.Boot:=rfl
theorem Que {e:Qxp} (h:Eo e) {n:Int} (h1:n≤e.Boot) (h2:n≤999):n ≠ (ZM e).Boot∧n≤(ZM e).Boot:=by
  have hb:=h.boot;rw [QkD];split <;> omega
theorem QvS {s:Qxq} (h:So s):So ⟨true,ZM s.End⟩:=⟨Qkw (Qkx h.eo) h.eo.heard,fun q=>(by cases q)⟩
theorem QvT {w:Qxr} (h:Jb w=true):w.Boot≤999∧w.Yours≤999:=by
  simp only [Jb,Bool.and_eq_true,Jz] at h;omega
theorem QmR {a b:Qxq} {R:List Qxr} (h:Inv a b R):Inv ⟨true,ZM a.End⟩ b R:=by
  have ea:Eo a.End:=h.gs.two.a.eo;have eb:Eo b.End:=h.gs.two.b.eo;have pa:=ea.pboot;have pb:=eb.pboot;have bb:=eb.boot;have nb:=fun {n:Int}=>Que ea (n:=n);have b1:=nb (n:=b.End.PeerBoot) h.ba.pb (by omega);have up:a.Up=false→a.End.PeerBoot ≠ b.End.Boot:=fun q=>by
    rw [(h.gs.two.a.down q).pboot]; omega
  have au:a.End.PeerBoot=b.End.Boot→a.Up=true:=fun q=>by
    cases hu:a.Up
    · exact absurd q (up hu)
    · rfl
  refine ⟨⟨⟨QvS h.gs.two.a,h.gs.two.b,h.gs.two.ab,h.gs.two.ba⟩,h.gs.len,h.gs.words⟩,⟨h.ab.pb,fun _ ub e=>h.ab.pt (au e) ub e,fun _ _ _ _=>⟨rfl,QlQ _⟩,fun _ _ _ e=>absurd e b1.1⟩,⟨b1.2,fun _ _ e=>absurd e b1.1,fun _ _ e=>absurd e b1.1,fun _ _ e=>absurd e b1.1⟩,fun v hv k=>?_⟩;obtain ⟨w1,w2⟩:=h.ws v hv k;obtain ⟨l1,l2⟩:=QvT (h.gs.words v hv);refine ⟨fun f=>?_,fun f=>?_⟩
  · have wv:=w1 f;have n1:=nb wv.boot l1;exact ⟨n1.2,wv.yours,fun _ e=>absurd e n1.1,fun _ _ e=>absurd e n1.1⟩
  · have wv:=w2 f;have n1:=nb wv.yours l2;exact ⟨wv.boot,n1.2,wv.turn,fun _ _ _ e=>absurd e n1.1⟩
theorem Quf {a b:Qxq} {R:List Qxr} (h:Inv a b R):Inv ⟨false,Qrb a.End⟩ b R:=by
  have ea:Eo a.End:=h.gs.two.a.eo;have bb:1≤b.End.Boot∧b.End.Boot≤1000:=h.gs.two.b.eo.boot;refine ⟨⟨⟨⟨QmI ea,fun _=>⟨rfl,rfl,rfl,rfl,rfl,rfl,rfl,rfl,rfl,rfl⟩⟩,h.gs.two.b,h.gs.two.ab,h.gs.two.ba⟩,h.gs.len,h.gs.words⟩,⟨by show (0:Int)≤b.End.Boot; omega,fun q=>(by cases q),fun q=>(by cases q),fun q=>(by cases q)⟩,⟨h.ba.pb,fun _ q=>(by cases q),fun _ q=>(by cases q),fun _ q=>(by cases q)⟩,fun v hv k=>?_⟩;obtain ⟨w1,w2⟩:=h.ws v hv k;exact ⟨fun f=>⟨(w1 f).boot,(w1 f).yours,fun q=>(by cases q),fun q=>(by cases q)⟩,fun f=>⟨(w2 f).boot,(w2 f).yours,(w2 f).turn,fun _ q=>(by cases q)⟩⟩
structure Soft (e r:Qxp):Prop where
  name:r.Name=e.Name
  peer:r.Peer=e.Peer
  boot:r.Boot=e.Boot
  turn:r.Turn=e.Turn
  pboot:r.PeerBoot=e.PeerBoot
  pturn:r.PeerTurn=e.PeerTurn
  up:r.Up=e.Up
  num:r.Num=e.Num
  under:r.Under=e.Under
  told:r.Told=e.Told
  all:r.All=e.All
  got:r.Got=e.Got
  full:r.Full=e.Full
  fr:frE r.Heard=frE e.Heard
  st:Z8 e.Heard=false→Z8 r.Heard=false
theorem Qjz {a b:Qxq} {R:List Qxr} (h:Inv a b R) {r:Qxp} (s:Soft a.End r) (hr:So ⟨a.Up,r⟩) (hk:∀ v ∈ R,(QP r.Keys v=true ∨ QP b.End.Keys v=true)→Ws a b v):Inv ⟨a.Up,r⟩ b R:=by
  refine ⟨⟨⟨hr,h.gs.two.b,s.name.trans h.gs.two.ab,h.gs.two.ba.trans s.peer.symm⟩,h.gs.len,h.gs.words⟩,⟨?_,?_,?_,?_⟩,⟨?_,?_,?_,?_⟩,fun v hv k=>?_⟩
  · show r.PeerBoot≤_; rw [s.pboot]; exact h.ab.pb
  · show _→_→r.PeerBoot=_→r.PeerTurn≤_; rw [s.pboot,s.pturn]; exact h.ab.pt
  · show _→_→r.PeerBoot=_→_ ≠ r.Boot→r.Up=false∧Blank r;rw [s.pboot,s.boot,s.up];intro u1 u2 e n;obtain ⟨q,k⟩:=h.ab.blank u1 u2 e n;exact ⟨q,by rw [s.num]; exact k.num,by rw [s.under]; exact k.kind,by rw [s.told]; exact k.told,by rw [s.all]; exact k.all,by rw [s.got]; exact k.got,by rw [s.full]; exact k.full,by rw [s.fr]; exact k.fr⟩
  · show _→_→r.PeerBoot=_→_=r.Boot→Tells r _;rw [s.pboot,s.boot];intro u1 u2 e e2;have k:=h.ab.told u1 u2 e e2;exact ⟨by rw [s.num,s.under,s.told,s.all]; exact k.num,k.full⟩
  · show _≤r.Boot; rw [s.boot]; exact h.ba.pb
  · show _→_→_=r.Boot→_≤r.Turn; rw [s.boot,s.turn]; exact h.ba.pt
  · show _→_→_=r.Boot→r.PeerBoot ≠ _→_; rw [s.boot,s.pboot]; exact h.ba.blank
  · show _→_→_=r.Boot→r.PeerBoot=_→Tells _ r;rw [s.pboot,s.boot];intro u1 u2 e e2;have k:=h.ba.told u1 u2 e e2;exact ⟨by rw [s.got,s.full,s.fr]; exact k.num,by rw [s.full]; exact fun f=>s.st (k.full f)⟩
  · obtain ⟨w1,w2⟩:=hk v hv k;refine ⟨fun f=>?_,fun f=>?_⟩
    · have wv:=w1 (f.trans s.name);exact ⟨by show _≤r.Boot; rw [s.boot]; exact wv.boot,wv.yours,by show _→_=r.Boot→_≤r.Turn∧_≤r.PeerBoot; rw [s.boot,s.turn,s.pboot]; exact wv.turn,by show _→_→_=r.Boot→_→_≤r.Got∧_≤r.Num∧(_=r.Num→_→r.Under.Kind ≠ 0→_=r.Under); rw [s.boot,s.got,s.num,s.under]; exact wv.sess⟩
    · have wv:=w2 f;exact ⟨wv.boot,by show _≤r.Boot; rw [s.boot]; exact wv.yours,wv.turn,by show _→_→_→_=r.Boot→_; rw [s.boot]; exact wv.sess⟩
theorem QnV {e:Qxp}:Soft e (keepTick e):=by
  unfold keepTick;split
  · refine ⟨rfl,rfl,rfl,rfl,rfl,rfl,rfl,rfl,rfl,rfl,rfl,rfl,rfl,?_,fun q=>?_⟩
    · dsimp only;split
      · exact Qqb _
      · rfl
    · dsimp only;split
      · rw [Bool.eq_false_iff];intro p;obtain ⟨r,r1,r2⟩:=QaQ.1 p;have:=(List.mem_filter.1 r1).2;rw [r2] at this; cases this
      · exact q
  · exact ⟨rfl,rfl,rfl,rfl,rfl,rfl,rfl,rfl,rfl,rfl,rfl,rfl,rfl,rfl,fun q=>q⟩
theorem QnW (e:Qxp):(keepTick e).Keys=e.Keys:=by
  unfold keepTick;split <;> rfl
theorem Qug {a b:Qxq} {R:List Qxr} (h:Inv a b R) (u:a.Up=true):Inv ⟨a.Up,Qcl a.End⟩ b R:=by
  have h1:Inv ⟨a.Up,keepTick a.End⟩ b R:=Qjz h QnV ⟨Qkv h.gs.two.a.eo,fun q=>absurd (q.symm.trans u) (by decide)⟩ fun v hv k=>h.ws v hv (by rw [QnW] at k; exact k);have e1:=h1.gs.two.a.eo;have so:=Qss h.gs.two.a.eo;unfold Qcl at *;generalize keepTick a.End=e at *;unfold Qc5 at *;split
  · next c =>
    rw [if_pos c] at so;split
    · have:=QmR h1;rw [u];exact this
    · next d =>
      rw [if_neg d] at so;exact Qjz h1 (r:={ e with Left:=e.Left - 1 }) ⟨rfl,rfl,rfl,rfl,rfl,rfl,rfl,rfl,rfl,rfl,rfl,rfl,rfl,rfl,fun q=>q⟩ ⟨so,fun q=>absurd (q.symm.trans u) (by decide)⟩ h1.ws
  · exact h1
theorem QnX {e:Qxp} (h:Eo e):QV (Qd1 e)=true:=by
  obtain ⟨c,e1,c1,_⟩:=QiH (e:=e) h.told h.want;rw [QoV h.told h.want] at e1;rw [Option.some.inj e1]; exact c1
theorem Qqd {c:Qxn} (h:QV c=true):c.Kind=0 ∨ 0 < c.Kind:=by
  have:=Qdj h
  by_cases k:c.Kind=0
  · exact .inl k
  · rw [show (c.Kind != 0)=true from by simpa using k] at this;exact .inr (by simpa using this)
theorem Quh {a b:Qxq} {R:List Qxr} (h:Inv a b R) (u:a.Up=true) (hb:a.End.Boot ≠ 1000) (ht:a.End.Turn ≠ 1000000):Inv ⟨a.Up,ZC a.End⟩ b (QmX R (Qb7 a.End)):=by
  have ea:Eo a.End:=h.gs.two.a.eo;have tn:=ea.turn;have hs:QfP a.End=(ZC a.End,Qb7 a.End,true):=by
    unfold QfP;rw [if_neg hb,if_neg ht]
  have so:=QlP h.gs.two.a 1 [] [];have e1:Qbc a 1 [] []=⟨a.Up,ZC a.End⟩:=by
    unfold Qbc;rw [if_pos rfl,if_pos u,hs]
  rw [e1] at so;have wo:Jb (Qb7 a.End)=true:=by
    have:=(Qjw ea).2.2;rw [hs] at this;exact this rfl
  -- what becomes of the change under way
  have U:(ZC a.End).Num=a.End.Num∧(ZC a.End).Under=a.End.Under ∨ a.End.Up=true∧a.End.Under.Kind=0∧((ZC a.End).Under.Kind=0∧(ZC a.End).Num=a.End.Num ∨ 0 < (ZC a.End).Under.Kind∧(ZC a.End).Num=a.End.Num+1):=by
    show (Qc7 a.End).1=_∧(Qc7 a.End).2=_ ∨ _;have uu:(ZC a.End).Under=(Qc7 a.End).2∧(ZC a.End).Num=(Qc7 a.End).1:=⟨rfl,rfl⟩;rw [uu.1,uu.2];unfold Qc7
    by_cases c:a.End.Up=true∧a.End.Under.Kind=0
    · rw [if_pos c];refine .inr ⟨c.1,c.2,?_⟩;dsimp only;rcases Qqd (QnX ea) with k | k
      · exact .inl ⟨k,if_neg (by omega)⟩
      · exact .inr ⟨k,if_pos k⟩
    · rw [if_neg c]; exact .inl ⟨rfl,rfl⟩
  have ge:a.End.Num≤(ZC a.End).Num:=by
    rcases U with ⟨q,_⟩ | ⟨_,_,⟨_,q⟩ | ⟨_,q⟩⟩ <;> omega
  have base:Inv ⟨a.Up,ZC a.End⟩ b R:=by
    refine ⟨⟨⟨so.1,h.gs.two.b,h.gs.two.ab,h.gs.two.ba⟩,h.gs.len,h.gs.words⟩,⟨h.ab.pb,h.ab.pt,?_,?_⟩,⟨h.ba.pb,?_,h.ba.blank,?_⟩,fun v hv k=>?_⟩
    · intro u1 u2 e n;obtain ⟨q,k⟩:=h.ab.blank u1 u2 e n;rcases U with ⟨v1,v2⟩ | ⟨v1,_⟩
      · exact ⟨q,by show (ZC a.End).Num=0; rw [v1]; exact k.num,by show (ZC a.End).Under.Kind=0; rw [v2]; exact k.kind,k.told,k.all,k.got,k.full,k.fr⟩
      · rw [q] at v1; cases v1
    · intro u1 u2 e e2;have k:=h.ab.told u1 u2 e e2;refine ⟨?_,k.full⟩;show (b.End.Got=(ZC a.End).Num∧b.End.Full=(a.End.All || ((ZC a.End).Under.Kind == 3))∧frE b.End.Heard=JG a.End.Told (ZC a.End).Under) ∨ ((ZC a.End).Under.Kind ≠ 0∧b.End.Got=(ZC a.End).Num - 1∧b.End.Full=a.End.All∧frE b.End.Heard=a.End.Told);rcases U with ⟨v1,v2⟩ | ⟨v1,v2,v3⟩
      · rw [v1,v2]; exact k.num
      · have kn:b.End.Got=a.End.Num∧b.End.Full=a.End.All∧frE b.End.Heard=a.End.Told:=by
          rcases k.num with ⟨g1,g2,g3⟩ | ⟨g0,_⟩
          · rw [v2] at g2;rw [QaZ v2] at g3;exact ⟨g1,by rw [g2]; simp,g3⟩
          · exact absurd v2 g0
        obtain ⟨g1,g2,g3⟩:=kn;rcases v3 with ⟨q1,q2⟩ | ⟨q1,q2⟩
        · exact .inl ⟨by rw [q2]; exact g1,by rw [g2,q1]; simp,by rw [g3,QaZ q1]⟩
        · exact .inr ⟨by omega,by omega,g2,g3⟩
    · intro u1 u2 e;have:=h.ba.pt u1 u2 e;show b.End.PeerTurn≤a.End.Turn+1;omega
    · intro u1 u2 e e2;have k:=h.ba.told u1 u2 e e2;exact ⟨k.num,k.full⟩
    · obtain ⟨w1,w2⟩:=h.ws v hv k;refine ⟨fun f=>?_,fun f=>⟨(w2 f).boot,(w2 f).yours,(w2 f).turn,(w2 f).sess⟩⟩;have wv:=w1 f;refine ⟨wv.boot,wv.yours,fun q e=>?_,fun q1 q2 e e2=>?_⟩
      · have:=wv.turn q e;show v.Turn≤a.End.Turn+1∧v.Yours≤a.End.PeerBoot;omega
      · obtain ⟨g1,g2,g3⟩:=wv.sess q1 q2 e e2;refine ⟨g1,by show v.Num≤(ZC a.End).Num; omega,fun p1 p2 p3=>?_⟩;have p1:v.Num=(ZC a.End).Num:=p1;have p3:(ZC a.End).Under.Kind ≠ 0:=p3;show v.Change=(ZC a.End).Under;rcases U with ⟨v1,v2⟩ | ⟨_,_,⟨v1,_⟩ | ⟨_,v1⟩⟩
        · rw [v2] at p3 ⊢;exact g3 (by omega) p2 p3
        · exact absurd v1 p3
        · omega
  unfold QmX;split
  case isFalse=>exact base
  next hl =>
  refine ⟨⟨base.gs.two,by show (R ++ [Qb7 a.End]).length≤12; simp; omega,fun x hx=>?_⟩,base.ab,base.ba,fun v hv k=>?_⟩
  · have hx:x ∈ R ++ [Qb7 a.End]:=hx;rcases List.mem_append.1 hx with q | q
    · exact h.gs.words x q
    · rw [List.mem_singleton.1 q]; exact wo
  · rcases List.mem_append.1 hv with q | q
    · exact base.ws v q k
    · rw [List.mem_singleton.1 q];refine ⟨fun _=>⟨Int.le_refl _,h.ab.pb,fun _ _=>⟨Int.le_refl _,Int.le_refl _⟩,fun _ _ _ _=>⟨Int.le_refl _,Int.le_refl _,fun _ _ _=>rfl⟩⟩,fun f=>?_⟩;have f:a.End.Name=b.End.Name:=f;exact absurd (f.trans h.gs.two.ba) ea.ne
theorem QvU {a b:Qxq} {R R9:List Qxr} (h:Inv a b R):Inv (Qbc a 1 [] []) b (Zd a R R9 1 []):=by
  unfold Qbc Zd;rw [if_pos rfl,if_pos rfl]
  by_cases u:a.Up=true
  · rw [if_pos u]
    by_cases hb:a.End.Boot=1000
    · have e:QfP a.End=(a.End,Zj,false):=by unfold QfP; rw [if_pos hb]
      rw [if_neg (by rw [e]; simp),e]; exact h
    by_cases ht:a.End.Turn=1000000
    · have e:QfP a.End=(ZM a.End,Zj,false):=by unfold QfP; rw [if_neg hb,if_pos ht]
      rw [if_neg (by rw [e]; simp),e,u]; exact QmR h
    · have e:QfP a.End=(ZC a.End,Qb7 a.End,true):=by unfold QfP; rw [if_neg hb,if_neg ht]
      rw [if_pos ⟨u,by rw [e]⟩,e];exact Quh h u hb ht
  · rw [if_neg u,if_neg fun q=>u q.1]; exact h
theorem QsX {a b:Qxq} {R R9:List Qxr} (h:Inv a b R) (h9:∀ w ∈ R9,w ∈ R∧(QP a.End.Keys w=true ∨ QP b.End.Keys w=true)) (l9:R9.length≤12) (k:Int) (want:List Qxm) (keys:List Qxl):Inv (Qbc a k want keys) b (Zd a R R9 k keys):=by
  by_cases k1:k=1
  · subst k1;have:=QvU (R9:=R9) h;have e1:Qbc a 1 want keys=Qbc a 1 [] []:=rfl;have e2:Zd a R R9 1 keys=Zd a R R9 1 []:=rfl;rw [e1,e2]; exact this
  by_cases k9:k=9∧Qbb keys=true
  · have so:=QlP h.gs.two.a k want keys;have e1:Qbc a k want keys=⟨a.Up,{ a.End with Keys:=keys }⟩:=by
      unfold Qbc;rw [if_neg k1,if_neg (by omega),if_neg (by omega),if_neg (by omega),if_neg (by omega),if_pos k9.1,if_pos k9.2]
    have e2:Zd a R R9 k keys=R9:=by
      unfold Zd;rw [if_neg k1,if_pos k9]
    rw [e1] at so;rw [e1,e2];have h':=h.sub (fun w hw=>(h9 w hw).1) l9;exact Qjz h' ⟨rfl,rfl,rfl,rfl,rfl,rfl,rfl,rfl,rfl,rfl,rfl,rfl,rfl,rfl,fun q=>q⟩ so.1 fun v hv _=>h'.ws v hv (h9 v hv).2
  have e2:Zd a R R9 k keys=R:=by
    unfold Zd;rw [if_neg k1,if_neg k9]
  rw [e2];have so:=QlP h.gs.two.a k want keys;unfold Qbc at so ⊢;rw [if_neg k1] at so ⊢
  by_cases k5:k=5
  · rw [if_pos k5] at so ⊢;split
    · next u=>exact Qug h u
    · exact h
  rw [if_neg k5] at so ⊢
  by_cases k6:k=6
  · rw [if_pos k6]; exact Quf h
  rw [if_neg k6] at so ⊢
  by_cases k7:k=7
  · rw [if_pos k7];split
    · exact h
    · exact QmR h
  rw [if_neg k7] at so ⊢
  by_cases k8:k=8
  · rw [if_pos k8] at so ⊢;split
    · next c =>
      rw [if_pos c] at so;exact Qjz h ⟨rfl,rfl,rfl,rfl,rfl,rfl,rfl,rfl,rfl,rfl,rfl,rfl,rfl,rfl,fun q=>q⟩ so.1 h.ws
    · exact h
  rw [if_neg k8];split
  · next q=>rw [if_neg fun c=>k9 ⟨q,c⟩]; exact h
  · exact h
def Iw (s:W3):Prop:=Inv s.1 s.2.1 s.2.2
theorem QmS {s:W3} {w:Qxr} (h:w ∈ Qht s):w ∈ s.2.2∧(QP s.1.End.Keys w=true ∨ QP s.2.1.End.Keys w=true):=by
  obtain ⟨q1,q2⟩:=List.mem_filter.1 h;exact ⟨q1,by simpa using q2⟩
theorem Qia {s:W3} (h:Iw s) (k at_:Int) (want:List Qxm) (keys:List Qxl):Iw (QaY s k at_ want keys):=by
  have l9:=(QoW h.gs).1;unfold QaY;split
  · exact QsX h (fun w hw=>QmS hw) l9 k want keys
  split
  · exact (QsX (Inv.swap h) (fun w hw=>⟨(QmS hw).1,(QmS hw).2.symm⟩) l9 k want keys).swap
  · exact h
theorem Qo1 {s:W3} (h:Iw s):Iw (QgX s):=by
  obtain ⟨a,b,R⟩:=s
  induction R generalizing a b with
  | nil=>exact h
  | cons x r ih=>exact ih _ _ (QnU (i:=0) h (by simp))
theorem Qui {s:W3} (h:Iw s) (k at_:Int):Iw (Qjb s k at_):=by
  have hl:s.2.2.length≤12:=h.gs.len;unfold Qjb;split
  · next c =>
    split
    · exact QnU h (by omega)
    split
    · unfold QmX;split
      · next q =>
        have hm:s.2.2.getD at_.toNat default ∈ s.2.2:=Zo (by omega);refine Inv.sub (R:=s.2.2 ++ [s.2.2.getD at_.toNat default]) ?_ (fun w hw=>hw) (by simp; omega);refine ⟨⟨h.gs.two,by show (s.2.2 ++ [s.2.2.getD at_.toNat default]).length≤12; simp; omega,fun x hx=>?_⟩,h.ab,h.ba,fun w hw=>?_⟩
        · have hx:x ∈ s.2.2 ++ [s.2.2.getD at_.toNat default]:=hx;rcases List.mem_append.1 hx with p | p
          · exact h.gs.words x p
          · rw [List.mem_singleton.1 p]; exact h.gs.words _ hm
        · rcases List.mem_append.1 hw with p | p
          · exact h.ws w p
          · rw [List.mem_singleton.1 p]; exact h.ws _ hm
      · exact h
    · refine Inv.sub h (fun w hw=>?_) (by unfold Qv7; simp; omega);rcases List.mem_append.1 hw with q | q
      · exact List.mem_of_mem_take q
      · exact List.mem_of_mem_drop q
  · exact h
theorem QsY {s:W3} (h:Iw s) (x:Qxr):Iw (Qh8 s x):=by
  unfold Qh8;split
  case isFalse=>exact h
  next c =>
  have hl:s.2.2.length≤12:=h.gs.len;unfold QmX;split
  · refine ⟨⟨h.gs.two,by show (s.2.2 ++ [x]).length≤12; simp; omega,fun y hy=>?_⟩,h.ab,h.ba,fun w hw k=>?_⟩
    · have hy:y ∈ s.2.2 ++ [x]:=hy;rcases List.mem_append.1 hy with p | p
      · exact h.gs.words y p
      · rw [List.mem_singleton.1 p]; exact c.1
    · rcases List.mem_append.1 hw with p | p
      · exact h.ws w p k
      · rw [List.mem_singleton.1 p] at k;rcases k with k | k
        · exact absurd (k.symm.trans c.2.1) (by decide)
        · exact absurd (k.symm.trans c.2.2) (by decide)
  · exact h
theorem QeE {s:W3} (h:Iw s) (e:Qxt):Iw (Jr s e):=by
  unfold Jr;split
  · exact Qui h _ _
  split
  · exact QsY h _
  · exact Qia h _ _ _ _
theorem QnY {s:W3} (h:Iw s):Iw (QaR s):=Qia (Qia (Qo1 (Qia (Qia (Qo1 h) _ _ _ _) _ _ _ _)) _ _ _ _) _ _ _ _
end Go.Proofs.YtjgjdobkahdgfaaGreat
