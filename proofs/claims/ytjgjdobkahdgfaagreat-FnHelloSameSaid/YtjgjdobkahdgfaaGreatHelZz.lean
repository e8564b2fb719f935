/-
  Plain Lean: the invariant holds behind whatever happens.
-/
import Derived.Test.YtjgjdobkahdgfaaGreatKz5
import Derived.Test.YtjgjdobkahdgfaaGreatHelYz
set_option linter.all false
namespace Go.Proofs.YtjgjdobkahdgfaaGreat
open Go Go.Ab
set_option maxHeartbeats 400000
set_option maxRecDepth 100000
theorem Qkq (e:Qxb):(ZH e).Boot=if e.Boot < 1000 then e.Boot+1 else e.Boot:=rfl
theorem Qt3 {e:Qxb} (h:Eo e) {n:Int} (h1:n≤e.Boot) (h2:n≤999):n ≠ (ZH e).Boot∧n≤(ZH e).Boot:=by
  have hb:=h.boot;rw [Qkq];split <;> omega
theorem QvI {s:Qxc} (h:So s):So ⟨true,ZH s.End⟩:=⟨Qkk (Qkl h.eo) h.eo.heard,fun q=>(by cases q)⟩
theorem QvJ {w:Qxd} (h:Z4 w=true):w.Boot≤999∧w.Yours≤999:=by
  simp only [Z4,Bool.and_eq_true,Jv] at h;omega
theorem QmB {a b:Qxc} {R:List Qxd} (h:Inv a b R):Inv ⟨true,ZH a.End⟩ b R:=by
  have ea:Eo a.End:=h.gs.two.a.eo;have eb:Eo b.End:=h.gs.two.b.eo;have pa:=ea.pboot;have pb:=eb.pboot;have bb:=eb.boot;have nb:=fun {n:Int}=>Qt3 ea (n:=n);have b1:=nb (n:=b.End.PeerBoot) h.ba.pb (by omega);have up:a.Up=false→a.End.PeerBoot ≠ b.End.Boot:=fun q=>by
    rw [(h.gs.two.a.down q).pboot]; omega
  have au:a.End.PeerBoot=b.End.Boot→a.Up=true:=fun q=>by
    cases hu:a.Up
    · exact absurd q (up hu)
    · rfl
  refine ⟨⟨⟨QvI h.gs.two.a,h.gs.two.b,h.gs.two.ab,h.gs.two.ba⟩,h.gs.len,h.gs.words⟩,⟨h.ab.pb,fun _ ub e=>h.ab.pt (au e) ub e,fun _ _ _ _=>⟨rfl,QlD _⟩,fun _ _ _ e=>absurd e b1.1⟩,⟨b1.2,fun _ _ e=>absurd e b1.1,fun _ _ e=>absurd e b1.1,fun _ _ e=>absurd e b1.1⟩,fun v hv k=>?_⟩;obtain ⟨w1,w2⟩:=h.ws v hv k;obtain ⟨l1,l2⟩:=QvJ (h.gs.words v hv);refine ⟨fun f=>?_,fun f=>?_⟩
  · have wv:=w1 f;have n1:=nb wv.boot l1;exact ⟨n1.2,wv.yours,fun _ e=>absurd e n1.1,fun _ _ e=>absurd e n1.1⟩
  · have wv:=w2 f;have n1:=nb wv.yours l2;exact ⟨wv.boot,n1.2,wv.turn,fun _ _ _ e=>absurd e n1.1⟩
theorem Qt4 {a b:Qxc} {R:List Qxd} (h:Inv a b R):Inv ⟨false,QqV a.End⟩ b R:=by
  have ea:Eo a.End:=h.gs.two.a.eo;have bb:1≤b.End.Boot∧b.End.Boot≤1000:=h.gs.two.b.eo.boot;refine ⟨⟨⟨⟨Qmt ea,fun _=>⟨rfl,rfl,rfl,rfl,rfl,rfl,rfl,rfl,rfl,rfl⟩⟩,h.gs.two.b,h.gs.two.ab,h.gs.two.ba⟩,h.gs.len,h.gs.words⟩,⟨by show (0:Int)≤b.End.Boot; omega,fun q=>(by cases q),fun q=>(by cases q),fun q=>(by cases q)⟩,⟨h.ba.pb,fun _ q=>(by cases q),fun _ q=>(by cases q),fun _ q=>(by cases q)⟩,fun v hv k=>?_⟩;obtain ⟨w1,w2⟩:=h.ws v hv k;exact ⟨fun f=>⟨(w1 f).boot,(w1 f).yours,fun q=>(by cases q),fun q=>(by cases q)⟩,fun f=>⟨(w2 f).boot,(w2 f).yours,(w2 f).turn,fun _ q=>(by cases q)⟩⟩
structure Soft (e r:Qxb):Prop where
  name:r.Name=e.Name
  peer:r.Peer=e.Peer
  boot:r.Boot=e.Boot
  turn:r.Turn=e.Turn
  pboot:r.PeerBoot=e.PeerBoot
  pturn:r.PeerTurn=e.PeerTurn
  up:r.Up=e.Up
  num:r.Num=e.Num
  under:r.Under=e.Under
  told:r.Told=e.Told
  all:r.All=e.All
  got:r.Got=e.Got
  full:r.Full=e.Full
  fr:frE r.Heard=frE e.Heard
  st:Jj e.Heard=false→Jj r.Heard=false
theorem Qjo {a b:Qxc} {R:List Qxd} (h:Inv a b R) {r:Qxb} (s:Soft a.End r) (hr:So ⟨a.Up,r⟩) (hk:∀ v ∈ R,(QN r.Keys v=true ∨ QN b.End.Keys v=true)→Ws a b v):Inv ⟨a.Up,r⟩ b R:=by
  refine ⟨⟨⟨hr,h.gs.two.b,s.name.trans h.gs.two.ab,h.gs.two.ba.trans s.peer.symm⟩,h.gs.len,h.gs.words⟩,⟨?_,?_,?_,?_⟩,⟨?_,?_,?_,?_⟩,fun v hv k=>?_⟩
  · show r.PeerBoot≤_; rw [s.pboot]; exact h.ab.pb
  · show _→_→r.PeerBoot=_→r.PeerTurn≤_; rw [s.pboot,s.pturn]; exact h.ab.pt
  · show _→_→r.PeerBoot=_→_ ≠ r.Boot→r.Up=false∧Blank r;rw [s.pboot,s.boot,s.up];intro u1 u2 e n;obtain ⟨q,k⟩:=h.ab.blank u1 u2 e n;exact ⟨q,by rw [s.num]; exact k.num,by rw [s.under]; exact k.kind,by rw [s.told]; exact k.told,by rw [s.all]; exact k.all,by rw [s.got]; exact k.got,by rw [s.full]; exact k.full,by rw [s.fr]; exact k.fr⟩
  · show _→_→r.PeerBoot=_→_=r.Boot→Tells r _;rw [s.pboot,s.boot];intro u1 u2 e e2;have k:=h.ab.told u1 u2 e e2;exact ⟨by rw [s.num,s.under,s.told,s.all]; exact k.num,k.full⟩
  · show _≤r.Boot; rw [s.boot]; exact h.ba.pb
  · show _→_→_=r.Boot→_≤r.Turn; rw [s.boot,s.turn]; exact h.ba.pt
  · show _→_→_=r.Boot→r.PeerBoot ≠ _→_; rw [s.boot,s.pboot]; exact h.ba.blank
  · show _→_→_=r.Boot→r.PeerBoot=_→Tells _ r;rw [s.pboot,s.boot];intro u1 u2 e e2;have k:=h.ba.told u1 u2 e e2;exact ⟨by rw [s.got,s.full,s.fr]; exact k.num,by rw [s.full]; exact fun f=>s.st (k.full f)⟩
  · obtain ⟨w1,w2⟩:=hk v hv k;refine ⟨fun f=>?_,fun f=>?_⟩
    · have wv:=w1 (f.trans s.name);exact ⟨by show _≤r.Boot; rw [s.boot]; exact wv.boot,wv.yours,by show _→_=r.Boot→_≤r.Turn∧_≤r.PeerBoot; rw [s.boot,s.turn,s.pboot]; exact wv.turn,by show _→_→_=r.Boot→_→_≤r.Got∧_≤r.Num∧(_=r.Num→_→r.Under.Kind ≠ 0→_=r.Under); rw [s.boot,s.got,s.num,s.under]; exact wv.sess⟩
    · have wv:=w2 f;exact ⟨wv.boot,by show _≤r.Boot; rw [s.boot]; exact wv.yours,wv.turn,by show _→_→_→_=r.Boot→_; rw [s.boot]; exact wv.sess⟩
theorem QnF {e:Qxb}:Soft e (keepTick e):=by
  unfold keepTick;split
  · refine ⟨rfl,rfl,rfl,rfl,rfl,rfl,rfl,rfl,rfl,rfl,rfl,rfl,rfl,?_,fun q=>?_⟩
    · dsimp only;split
      · exact QpV _
      · rfl
    · dsimp only;split
      · rw [Bool.eq_false_iff];intro p;obtain ⟨r,r1,r2⟩:=QaJ.1 p;have:=(List.mem_filter.1 r1).2;rw [r2] at this; cases this
      · exact q
  · exact ⟨rfl,rfl,rfl,rfl,rfl,rfl,rfl,rfl,rfl,rfl,rfl,rfl,rfl,rfl,fun q=>q⟩
theorem QnG (e:Qxb):(keepTick e).Keys=e.Keys:=by
  unfold keepTick;split <;> rfl
theorem Qt5 {a b:Qxc} {R:List Qxd} (h:Inv a b R) (u:a.Up=true):Inv ⟨a.Up,Qce a.End⟩ b R:=by
  have h1:Inv ⟨a.Up,keepTick a.End⟩ b R:=Qjo h QnF ⟨Qkj h.gs.two.a.eo,fun q=>absurd (q.symm.trans u) (by decide)⟩ fun v hv k=>h.ws v hv (by rw [QnG] at k; exact k);have e1:=h1.gs.two.a.eo;have so:=Qse h.gs.two.a.eo;unfold Qce at *;generalize keepTick a.End=e at *;unfold QcT at *;split
  · next c =>
    rw [if_pos c] at so;split
    · have:=QmB h1;rw [u];exact this
    · next d =>
      rw [if_neg d] at so;exact Qjo h1 (r:={ e with Left:=e.Left - 1 }) ⟨rfl,rfl,rfl,rfl,rfl,rfl,rfl,rfl,rfl,rfl,rfl,rfl,rfl,rfl,fun q=>q⟩ ⟨so,fun q=>absurd (q.symm.trans u) (by decide)⟩ h1.ws
  · exact h1
theorem QnH {e:Qxb} (h:Eo e):QT (QdS e)=true:=by
  obtain ⟨c,e1,c1,_⟩:=Qiy (e:=e) h.told h.want;rw [QoG h.told h.want] at e1;rw [Option.some.inj e1]; exact c1
theorem QpX {c:Qw9} (h:QT c=true):c.Kind=0 ∨ 0 < c.Kind:=by
  have:=Qc6 h
  by_cases k:c.Kind=0
  · exact .inl k
  · rw [show (c.Kind != 0)=true from by simpa using k] at this;exact .inr (by simpa using this)
theorem Qt6 {a b:Qxc} {R:List Qxd} (h:Inv a b R) (u:a.Up=true) (hb:a.End.Boot ≠ 1000) (ht:a.End.Turn ≠ 1000000):Inv ⟨a.Up,Zx a.End⟩ b (QmH R (QbZ a.End)):=by
  have ea:Eo a.End:=h.gs.two.a.eo;have tn:=ea.turn;have hs:QfC a.End=(Zx a.End,QbZ a.End,true):=by
    unfold QfC;rw [if_neg hb,if_neg ht]
  have so:=QlC h.gs.two.a 1 [] [];have e1:QaT a 1 [] []=⟨a.Up,Zx a.End⟩:=by
    unfold QaT;rw [if_pos rfl,if_pos u,hs]
  rw [e1] at so;have wo:Z4 (QbZ a.End)=true:=by
    have:=(Qjl ea).2.2;rw [hs] at this;exact this rfl
  -- what becomes of the change under way
  have U:(Zx a.End).Num=a.End.Num∧(Zx a.End).Under=a.End.Under ∨ a.End.Up=true∧a.End.Under.Kind=0∧((Zx a.End).Under.Kind=0∧(Zx a.End).Num=a.End.Num ∨ 0 < (Zx a.End).Under.Kind∧(Zx a.End).Num=a.End.Num+1):=by
    show (QcU a.End).1=_∧(QcU a.End).2=_ ∨ _;have uu:(Zx a.End).Under=(QcU a.End).2∧(Zx a.End).Num=(QcU a.End).1:=⟨rfl,rfl⟩;rw [uu.1,uu.2];unfold QcU
    by_cases c:a.End.Up=true∧a.End.Under.Kind=0
    · rw [if_pos c];refine .inr ⟨c.1,c.2,?_⟩;dsimp only;rcases QpX (QnH ea) with k | k
      · exact .inl ⟨k,if_neg (by omega)⟩
      · exact .inr ⟨k,if_pos k⟩
    · rw [if_neg c]; exact .inl ⟨rfl,rfl⟩
  have ge:a.End.Num≤(Zx a.End).Num:=by
    rcases U with ⟨q,_⟩ | ⟨_,_,⟨_,q⟩ | ⟨_,q⟩⟩ <;> omega
  have base:Inv ⟨a.Up,Zx a.End⟩ b R:=by
    refine ⟨⟨⟨so.1,h.gs.two.b,h.gs.two.ab,h.gs.two.ba⟩,h.gs.len,h.gs.words⟩,⟨h.ab.pb,h.ab.pt,?_,?_⟩,⟨h.ba.pb,?_,h.ba.blank,?_⟩,fun v hv k=>?_⟩
    · intro u1 u2 e n;obtain ⟨q,k⟩:=h.ab.blank u1 u2 e n;rcases U with ⟨v1,v2⟩ | ⟨v1,_⟩
      · exact ⟨q,by show (Zx a.End).Num=0; rw [v1]; exact k.num,by show (Zx a.End).Under.Kind=0; rw [v2]; exact k.kind,k.told,k.all,k.got,k.full,k.fr⟩
      · rw [q] at v1; cases v1
    · intro u1 u2 e e2;have k:=h.ab.told u1 u2 e e2;refine ⟨?_,k.full⟩;show (b.End.Got=(Zx a.End).Num∧b.End.Full=(a.End.All || ((Zx a.End).Under.Kind == 3))∧frE b.End.Heard=JD a.End.Told (Zx a.End).Under) ∨ ((Zx a.End).Under.Kind ≠ 0∧b.End.Got=(Zx a.End).Num - 1∧b.End.Full=a.End.All∧frE b.End.Heard=a.End.Told);rcases U with ⟨v1,v2⟩ | ⟨v1,v2,v3⟩
      · rw [v1,v2]; exact k.num
      · have kn:b.End.Got=a.End.Num∧b.End.Full=a.End.All∧frE b.End.Heard=a.End.Told:=by
          rcases k.num with ⟨g1,g2,g3⟩ | ⟨g0,_⟩
          · rw [v2] at g2;rw [QaR v2] at g3;exact ⟨g1,by rw [g2]; simp,g3⟩
          · exact absurd v2 g0
        obtain ⟨g1,g2,g3⟩:=kn;rcases v3 with ⟨q1,q2⟩ | ⟨q1,q2⟩
        · exact .inl ⟨by rw [q2]; exact g1,by rw [g2,q1]; simp,by rw [g3,QaR q1]⟩
        · exact .inr ⟨by omega,by omega,g2,g3⟩
    · intro u1 u2 e;have:=h.ba.pt u1 u2 e;show b.End.PeerTurn≤a.End.Turn+1;omega
    · intro u1 u2 e e2;have k:=h.ba.told u1 u2 e e2;exact ⟨k.num,k.full⟩
    · obtain ⟨w1,w2⟩:=h.ws v hv k;refine ⟨fun f=>?_,fun f=>⟨(w2 f).boot,(w2 f).yours,(w2 f).turn,(w2 f).sess⟩⟩;have wv:=w1 f;refine ⟨wv.boot,wv.yours,fun q e=>?_,fun q1 q2 e e2=>?_⟩
      · have:=wv.turn q e;show v.Turn≤a.End.Turn+1∧v.Yours≤a.End.PeerBoot;omega
      · obtain ⟨g1,g2,g3⟩:=wv.sess q1 q2 e e2;refine ⟨g1,by show v.Num≤(Zx a.End).Num; omega,fun p1 p2 p3=>?_⟩;have p1:v.Num=(Zx a.End).Num:=p1;have p3:(Zx a.End).Under.Kind ≠ 0:=p3;show v.Change=(Zx a.End).Under;rcases U with ⟨v1,v2⟩ | ⟨_,_,⟨v1,_⟩ | ⟨_,v1⟩⟩
        · rw [v2] at p3 ⊢;exact g3 (by omega) p2 p3
        · exact absurd v1 p3
        · omega
  unfold QmH;split
  case isFalse=>exact base
  next hl =>
  refine ⟨⟨base.gs.two,by show (R ++ [QbZ a.End]).length≤12; simp; omega,fun x hx=>?_⟩,base.ab,base.ba,fun v hv k=>?_⟩
  · have hx:x ∈ R ++ [QbZ a.End]:=hx;rcases List.mem_append.1 hx with q | q
    · exact h.gs.words x q
    · rw [List.mem_singleton.1 q]; exact wo
  · rcases List.mem_append.1 hv with q | q
    · exact base.ws v q k
    · rw [List.mem_singleton.1 q];refine ⟨fun _=>⟨Int.le_refl _,h.ab.pb,fun _ _=>⟨Int.le_refl _,Int.le_refl _⟩,fun _ _ _ _=>⟨Int.le_refl _,Int.le_refl _,fun _ _ _=>rfl⟩⟩,fun f=>?_⟩;have f:a.End.Name=b.End.Name:=f;exact absurd (f.trans h.gs.two.ba) ea.ne
theorem QvK {a b:Qxc} {R R9:List Qxd} (h:Inv a b R):Inv (QaT a 1 [] []) b (Q9 a R R9 1 []):=by
  unfold QaT Q9;rw [if_pos rfl,if_pos rfl]
  by_cases u:a.Up=true
  · rw [if_pos u]
    by_cases hb:a.End.Boot=1000
    · have e:QfC a.End=(a.End,QO,false):=by unfold QfC; rw [if_pos hb]
      rw [if_neg (by rw [e]; simp),e]; exact h
    by_cases ht:a.End.Turn=1000000
    · have e:QfC a.End=(ZH a.End,QO,false):=by unfold QfC; rw [if_neg hb,if_pos ht]
      rw [if_neg (by rw [e]; simp),e,u]; exact QmB h
    · have e:QfC a.End=(Zx a.End,QbZ a.End,true):=by unfold QfC; rw [if_neg hb,if_neg ht]
      rw [if_pos ⟨u,by rw [e]⟩,e];exact Qt6 h u hb ht
  · rw [if_neg u,if_neg fun q=>u q.1]; exact h
theorem QsL {a b:Qxc} {R R9:List Qxd} (h:Inv a b R) (h9:∀ w ∈ R9,w ∈ R∧(QN a.End.Keys w=true ∨ QN b.End.Keys w=true)) (l9:R9.length≤12) (k:Int) (want:List Qw8) (keys:List Qw7):Inv (QaT a k want keys) b (Q9 a R R9 k keys):=by
  by_cases k1:k=1
  · subst k1;have:=QvK (R9:=R9) h;have e1:QaT a 1 want keys=QaT a 1 [] []:=rfl;have e2:Q9 a R R9 1 keys=Q9 a R R9 1 []:=rfl;rw [e1,e2]; exact this
  by_cases k9:k=9∧Qa5 keys=true
  · have so:=QlC h.gs.two.a k want keys;have e1:QaT a k want keys=⟨a.Up,{ a.End with Keys:=keys }⟩:=by
      unfold QaT;rw [if_neg k1,if_neg (by omega),if_neg (by omega),if_neg (by omega),if_neg (by omega),if_pos k9.1,if_pos k9.2]
    have e2:Q9 a R R9 k keys=R9:=by
      unfold Q9;rw [if_neg k1,if_pos k9]
    rw [e1] at so;rw [e1,e2];have h':=h.sub (fun w hw=>(h9 w hw).1) l9;exact Qjo h' ⟨rfl,rfl,rfl,rfl,rfl,rfl,rfl,rfl,rfl,rfl,rfl,rfl,rfl,rfl,fun q=>q⟩ so.1 fun v hv _=>h'.ws v hv (h9 v hv).2
  have e2:Q9 a R R9 k keys=R:=by
    unfold Q9;rw [if_neg k1,if_neg k9]
  rw [e2];have so:=QlC h.gs.two.a k want keys;unfold QaT at so ⊢;rw [if_neg k1] at so ⊢
  by_cases k5:k=5
  · rw [if_pos k5] at so ⊢;split
    · next u=>exact Qt5 h u
    · exact h
  rw [if_neg k5] at so ⊢
  by_cases k6:k=6
  · rw [if_pos k6]; exact Qt4 h
  rw [if_neg k6] at so ⊢
  by_cases k7:k=7
  · rw [if_pos k7];split
    · exact h
    · exact QmB h
  rw [if_neg k7] at so ⊢
  by_cases k8:k=8
  · rw [if_pos k8] at so ⊢;split
    · next c =>
      rw [if_pos c] at so;exact Qjo h ⟨rfl,rfl,rfl,rfl,rfl,rfl,rfl,rfl,rfl,rfl,rfl,rfl,rfl,rfl,fun q=>q⟩ so.1 h.ws
    · exact h
  rw [if_neg k8];split
  · next q=>rw [if_neg fun c=>k9 ⟨q,c⟩]; exact h
  · exact h
def Iw (s:W3):Prop:=Inv s.1 s.2.1 s.2.2
theorem QmC {s:W3} {w:Qxd} (h:w ∈ Qhh s):w ∈ s.2.2∧(QN s.1.End.Keys w=true ∨ QN s.2.1.End.Keys w=true):=by
  obtain ⟨q1,q2⟩:=List.mem_filter.1 h;exact ⟨q1,by simpa using q2⟩
theorem Qh2 {s:W3} (h:Iw s) (k at_:Int) (want:List Qw8) (keys:List Qw7):Iw (QaQ s k at_ want keys):=by
  have l9:=(QoH h.gs).1;unfold QaQ;split
  · exact QsL h (fun w hw=>QmC hw) l9 k want keys
  split
  · exact (QsL (Inv.swap h) (fun w hw=>⟨(QmC hw).1,(QmC hw).2.symm⟩) l9 k want keys).swap
  · exact h
theorem QoM {s:W3} (h:Iw s):Iw (QgM s):=by
  obtain ⟨a,b,R⟩:=s
  induction R generalizing a b with
  | nil=>exact h
  | cons x r ih=>exact ih _ _ (QnE (i:=0) h (by simp))
theorem Qt7 {s:W3} (h:Iw s) (k at_:Int):Iw (Qi1 s k at_):=by
  have hl:s.2.2.length≤12:=h.gs.len;unfold Qi1;split
  · next c =>
    split
    · exact QnE h (by omega)
    split
    · unfold QmH;split
      · next q =>
        have hm:s.2.2.getD at_.toNat default ∈ s.2.2:=Zj (by omega);refine Inv.sub (R:=s.2.2 ++ [s.2.2.getD at_.toNat default]) ?_ (fun w hw=>hw) (by simp; omega);refine ⟨⟨h.gs.two,by show (s.2.2 ++ [s.2.2.getD at_.toNat default]).length≤12; simp; omega,fun x hx=>?_⟩,h.ab,h.ba,fun w hw=>?_⟩
        · have hx:x ∈ s.2.2 ++ [s.2.2.getD at_.toNat default]:=hx;rcases List.mem_append.1 hx with p | p
          · exact h.gs.words x p
          · rw [List.mem_singleton.1 p]; exact h.gs.words _ hm
        · rcases List.mem_append.1 hw with p | p
          · exact h.ws w p
          · rw [List.mem_singleton.1 p]; exact h.ws _ hm
      · exact h
    · refine Inv.sub h (fun w hw=>?_) (by unfold QvU; simp; omega);rcases List.mem_append.1 hw with q | q
      · exact List.mem_of_mem_take q
      · exact List.mem_of_mem_drop q
  · exact h
theorem QsM {s:W3} (h:Iw s) (x:Qxd):Iw (Qh0 s x):=by
  unfold Qh0;split
  case isFalse=>exact h
  next c =>
  have hl:s.2.2.length≤12:=h.gs.len;unfold QmH;split
  · refine ⟨⟨h.gs.two,by show (s.2.2 ++ [x]).length≤12; simp; omega,fun y hy=>?_⟩,h.ab,h.ba,fun w hw k=>?_⟩
    · have hy:y ∈ s.2.2 ++ [x]:=hy;rcases List.mem_append.1 hy with p | p
      · exact h.gs.words y p
      · rw [List.mem_singleton.1 p]; exact c.1
    · rcases List.mem_append.1 hw with p | p
      · exact h.ws w p k
      · rw [List.mem_singleton.1 p] at k;rcases k with k | k
        · exact absurd (k.symm.trans c.2.1) (by decide)
        · exact absurd (k.symm.trans c.2.2) (by decide)
  · exact h
theorem Qdf {s:W3} (h:Iw s) (e:Qxf):Iw (ZI s e):=by
  unfold ZI;split
  · exact Qt7 h _ _
  split
  · exact QsM h _
  · exact Qh2 h _ _ _ _
theorem QnI {s:W3} (h:Iw s):Iw (Qau s):=Qh2 (Qh2 (QoM (Qh2 (Qh2 (QoM h) _ _ _ _) _ _ _ _)) _ _ _ _) _ _ _ _
end Go.Proofs.YtjgjdobkahdgfaaGreat
