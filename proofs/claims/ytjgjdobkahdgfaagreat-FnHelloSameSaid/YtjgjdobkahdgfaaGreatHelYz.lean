/-
  Plain Lean: what two ends know of each other, whatever happens to words: an invariant of worlds.
-/
import Derived.Test.YtjgjdobkahdgfaaGreatKz5
import Derived.Test.YtjgjdobkahdgfaaGreatHelXz
import Derived.Test.YtjgjdobkahdgfaaGreatHelJz
set_option linter.all false
namespace Go.Proofs.YtjgjdobkahdgfaaGreat
open Go Go.Ab
set_option maxHeartbeats 400000
set_option maxRecDepth 100000
structure Blank (e:Qxb):Prop where
  num:e.Num=0
  kind:e.Under.Kind=0
  told:e.Told=[]
  all:e.All=false
  got:e.Got=0
  full:e.Full=false
  fr:frE e.Heard=[]
structure Tells (A B:Qxb):Prop where
  num:(B.Got=A.Num∧B.Full=(A.All || (A.Under.Kind == 3))∧frE B.Heard=JD A.Told A.Under) ∨ (A.Under.Kind ≠ 0∧B.Got=A.Num - 1∧B.Full=A.All∧frE B.Heard=A.Told)
  full:B.Full=true→Jj B.Heard=false
theorem QsJ (t:List Qxa):frE (Qdv t)=[]:=by
  unfold frE fresh Qdv;rw [List.map_eq_nil_iff,List.filter_eq_nil_iff];intro r hr;obtain ⟨x,_,rfl⟩:=List.mem_map.1 hr;simp
theorem QlD (e:Qxb):Blank (QqQ e):=⟨rfl,rfl,rfl,rfl,rfl,rfl,QsJ _⟩
theorem Qkp {A B:Qxb} (a:Blank A) (b:Blank B):Tells A B :=
  ⟨.inl ⟨by rw [b.got,a.num],by rw [b.full,a.all,a.kind]; rfl,by rw [b.fr,QaR a.kind,a.told]⟩,fun q=>by rw [b.full] at q; cases q⟩
structure Dir (x y:Qxc):Prop where
  pb:x.End.PeerBoot≤y.End.Boot
  pt:x.Up=true→y.Up=true→x.End.PeerBoot=y.End.Boot→x.End.PeerTurn≤y.End.Turn
  blank:x.Up=true→y.Up=true→x.End.PeerBoot=y.End.Boot→y.End.PeerBoot ≠ x.End.Boot→x.End.Up=false∧Blank x.End
  told:x.Up=true→y.Up=true→x.End.PeerBoot=y.End.Boot→y.End.PeerBoot=x.End.Boot→Tells x.End y.End
structure Wa (x y:Qxc) (w:Qxd):Prop where
  boot:w.Boot≤x.End.Boot
  yours:w.Yours≤y.End.Boot
  turn:x.Up=true→w.Boot=x.End.Boot→w.Turn≤x.End.Turn∧w.Yours≤x.End.PeerBoot
  sess:x.Up=true→y.Up=true→w.Boot=x.End.Boot→w.Yours=y.End.Boot→w.Heard≤x.End.Got∧w.Num≤x.End.Num∧(w.Num=x.End.Num→w.Change.Kind ≠ 0→x.End.Under.Kind ≠ 0→w.Change=x.End.Under)
def Ws (a b:Qxc) (w:Qxd):Prop:=(w.From=a.End.Name→Wa a b w)∧(w.From=b.End.Name→Wa b a w)
structure Inv (a b:Qxc) (R:List Qxd):Prop where
  gs:Gs (a,b,R)
  ab:Dir a b
  ba:Dir b a
  ws:∀ w ∈ R,(QN a.End.Keys w=true ∨ QN b.End.Keys w=true)→Ws a b w
theorem Two.swap {a b:Qxc} (t:Two a b):Two b a:=⟨t.b,t.a,t.ba,t.ab⟩
theorem Inv.swap {a b:Qxc} {R:List Qxd} (h:Inv a b R):Inv b a R :=
  ⟨⟨h.gs.two.swap,h.gs.len,h.gs.words⟩,h.ba,h.ab,fun w hw k=>(h.ws w hw k.symm).symm⟩
theorem QwB (z:Qxb):(kept z).Num=z.Num∧(kept z).Under=z.Under∧(kept z).Told=z.Told∧(kept z).All=z.All∧(kept z).Got=z.Got∧(kept z).Full=z.Full∧(kept z).Heard=z.Heard∧(kept z).PeerBoot=z.PeerBoot∧(kept z).PeerTurn=z.PeerTurn∧(kept z).Up=z.Up:=by
  unfold kept;split <;> exact ⟨rfl,rfl,rfl,rfl,rfl,rfl,rfl,rfl,rfl,rfl⟩
structure Hf (y e:Qxb) (w:Qxd):Prop where
  pb:e.PeerBoot=y.PeerBoot
  pt:e.PeerTurn=w.Turn
  up:e.Up=(w.Yours == y.Boot)
  num:e.Num=y.Num
  a:(y.Under.Kind ≠ 0∧w.Heard=y.Num∧w.Yours=y.Boot∧e.Under.Kind=0∧e.Told=JD y.Told y.Under∧e.All=(y.All || (y.Under.Kind == 3))) ∨ (¬ (y.Under.Kind ≠ 0∧w.Heard=y.Num∧w.Yours=y.Boot)∧e.Under=y.Under∧e.Told=y.Told∧e.All=y.All)
  c:(w.Change.Kind ≠ 0∧w.Num=y.Got+1∧w.Yours=y.Boot∧(Qcf y.Heard w.Change).2=true∧e.Got=w.Num∧e.Full=(y.Full || (w.Change.Kind == 3))∧e.Heard=(Qcf y.Heard w.Change).1) ∨ (¬ (w.Change.Kind ≠ 0∧w.Num=y.Got+1∧w.Yours=y.Boot∧(Qcf y.Heard w.Change).2=true)∧e.Got=y.Got∧e.Full=y.Full∧e.Heard=y.Heard)
theorem QnD (y:Qxb) (w:Qxd):Hf y (listenY y w) w:=by
  have A:∀ z:Qxb,(JE z w).Num=z.Num∧(JE z w).Got=z.Got∧(JE z w).Full=z.Full∧(JE z w).Heard=z.Heard∧(JE z w).PeerBoot=z.PeerBoot∧(JE z w).PeerTurn=z.PeerTurn∧(JE z w).Up=z.Up∧((z.Under.Kind ≠ 0∧w.Heard=z.Num∧(JE z w).Under.Kind=0∧(JE z w).Told=JD z.Told z.Under∧(JE z w).All=(z.All || (z.Under.Kind == 3))) ∨ (¬ (z.Under.Kind ≠ 0∧w.Heard=z.Num)∧(JE z w).Under=z.Under∧(JE z w).Told=z.Told∧(JE z w).All=z.All)):=fun z=>by
    unfold JE;split
    · next c =>
      refine ⟨rfl,rfl,rfl,rfl,rfl,rfl,rfl,.inl ⟨c.1,c.2,rfl,rfl,?_⟩⟩;unfold Qei;dsimp only
      by_cases k:z.Under.Kind=3
      · rw [if_pos k,k]; cases z.All <;> rfl
      · rw [if_neg k,show (z.Under.Kind == 3)=false from by simpa using k,Bool.or_false]
    · next c=>exact ⟨rfl,rfl,rfl,rfl,rfl,rfl,rfl,.inr ⟨c,rfl,rfl,rfl⟩⟩
  have C:∀ z:Qxb,(JN z w).Num=z.Num∧(JN z w).Under=z.Under∧(JN z w).Told=z.Told∧(JN z w).All=z.All∧(JN z w).PeerBoot=z.PeerBoot∧(JN z w).PeerTurn=z.PeerTurn∧(JN z w).Up=z.Up∧((w.Change.Kind ≠ 0∧w.Num=z.Got+1∧(Qcf z.Heard w.Change).2=true∧(JN z w).Got=w.Num∧(JN z w).Full=(z.Full || (w.Change.Kind == 3))∧(JN z w).Heard=(Qcf z.Heard w.Change).1) ∨ (¬ (w.Change.Kind ≠ 0∧w.Num=z.Got+1∧(Qcf z.Heard w.Change).2=true)∧(JN z w).Got=z.Got∧(JN z w).Full=z.Full∧(JN z w).Heard=z.Heard)):=fun z=>by
    unfold JN;split
    · next c =>
      split
      · next d=>exact ⟨rfl,rfl,rfl,rfl,rfl,rfl,rfl,.inl ⟨c.1,c.2,d,rfl,rfl,rfl⟩⟩
      · next d=>exact ⟨rfl,rfl,rfl,rfl,rfl,rfl,rfl,.inr ⟨fun q=>d q.2.2,rfl,rfl,rfl⟩⟩
    · next c=>exact ⟨rfl,rfl,rfl,rfl,rfl,rfl,rfl,.inr ⟨fun q=>c ⟨q.1,q.2.1⟩,rfl,rfl,rfl⟩⟩
  unfold listenY;split
  · next c =>
    obtain ⟨k1,k2,k3,k4,k5,k6,k7,k8,k9,k10⟩:=QwB (JN (JE (QfB y w) w) w);obtain ⟨c1,c2,c3,c4,c5,c6,c7,c8⟩:=C (JE (QfB y w) w);obtain ⟨a1,a2,a3,a4,a5,a6,a7,a8⟩:=A (QfB y w);have u1:(QfB y w).Num=y.Num∧(QfB y w).Under=y.Under∧(QfB y w).Told=y.Told∧(QfB y w).All=y.All∧(QfB y w).Got=y.Got∧(QfB y w).Full=y.Full∧(QfB y w).Heard=y.Heard:=⟨rfl,rfl,rfl,rfl,rfl,rfl,rfl⟩;obtain ⟨u1,u2,u3,u4,u5,u6,u7⟩:=u1;refine ⟨by rw [k8,c5,a5]; rfl,by rw [k9,c6,a6]; rfl,by rw [k10,c7,a7]; rfl,by rw [k1,c1,a1]; rfl,?_,?_⟩
    · rw [k2,k3,k4,c2,c3,c4];rcases a8 with ⟨q1,q2,q3,q4,q5⟩ | ⟨q1,q2,q3,q4⟩
      · exact .inl ⟨q1,q2,c,q3,q4,q5⟩
      · exact .inr ⟨fun q=>q1 ⟨q.1,q.2.1⟩,q2,q3,q4⟩
    · rw [k5,k6,k7];rw [a2,a3,a4,u5,u6,u7] at c8;rcases c8 with ⟨q1,q2,q3,q4⟩ | ⟨q1,q2⟩
      · exact .inl ⟨q1,q2,c,q3,q4⟩
      · exact .inr ⟨fun q=>q1 ⟨q.1,q.2.1,q.2.2.2⟩,q2⟩
  · next c=>exact ⟨rfl,rfl,rfl,rfl,.inr ⟨fun q=>c q.2.2,rfl,rfl,rfl⟩,.inr ⟨fun q=>c q.2.2.1,rfl,rfl,rfl⟩⟩
theorem Qq0 {y e b:Qxb} {w:Qxd} (TA:Tells y b) (TB:Tells b y) (hf:Hf y e w) (rt:Rt 4 y.Heard) (hc:QT w.Change=true) (hb:To (JD b.Told b.Under)) (hs:w.Yours=y.Boot→w.Heard≤b.Got∧w.Num≤b.Num∧(w.Num=b.Num→w.Change.Kind ≠ 0→b.Under.Kind ≠ 0→w.Change=b.Under)):Tells e b∧Tells b e:=by
  refine ⟨⟨?_,TA.full⟩,?_⟩
  · rw [hf.num];rcases hf.a with ⟨q1,q2,q3,q4,q5,q6⟩ | ⟨_,q1,q2,q3⟩
    · have h1:=(hs q3).1;rcases TA.num with ⟨g1,g2,g3⟩ | ⟨_,g1,_⟩
      · exact .inl ⟨g1,by rw [g2,q6,q4]; simp,by rw [g3,QaR q4,q5]⟩
      · omega
    · rw [q1,q2,q3];exact TA.num
  · rcases hf.c with ⟨q1,q2,q3,q4,q5,q6,q7⟩ | ⟨_,q1,q2,q3⟩
    · obtain ⟨_,h2,h3⟩:=hs q3;rcases TB.num with ⟨g1,_⟩ | ⟨g0,g1,g2,g3⟩
      · omega
      · have e1:w.Num=b.Num:=by omega
        have ec:=h3 e1 q1 g0;have fr:=QvG (by decide) rt hc q4 (by rw [g3,ec]; exact hb.ord);refine ⟨.inl ⟨by rw [q5,e1],by rw [q6,g2,ec],by rw [q7,fr,g3,ec]⟩,fun f=>?_⟩;rw [q7];refine QqZ (by decide) rt hc ?_;rw [q6,Bool.or_eq_true] at f;rcases f with f | f
        · exact .inl (TB.full f)
        · exact .inr (by simpa using f)
    · refine ⟨?_,fun f=>?_⟩
      · rw [q1,q2,q3]; exact TB.num
      · rw [q3]; rw [q2] at f; exact TB.full f
theorem Qjn {e:Qxb} (h:Eo e) (w:Qxd):(helloHear e w).Name=e.Name∧(helloHear e w).Peer=e.Peer∧(helloHear e w).Boot=e.Boot∧(helloHear e w).Turn=e.Turn∧(helloHear e w).Keys=e.Keys∧(helloHear e w).Want=e.Want:=by
  have hr:=QtO (Jw.2 h);unfold helloHear;rw [if_pos (Jw.2 h)];split
  · obtain ⟨q1,q2,q3,q4⟩:=Qhg (y:=Jy e w) (w:=w);obtain ⟨r1,r2,_⟩:=Qhf (QhX hr w) w;obtain ⟨k1,k2⟩:=Qit (e:=e) (w:=w);have b:(Jy e w).Name=e.Name∧(Jy e w).Peer=e.Peer∧(Jy e w).Boot=e.Boot∧(Jy e w).Turn=e.Turn:=by
      unfold Jy;split <;> exact ⟨rfl,rfl,rfl,rfl⟩
    exact ⟨q1.trans b.1,q2.trans b.2.1,q3.trans b.2.2.1,q4.trans b.2.2.2,r1.trans k1,r2.trans k2⟩
  · exact ⟨rfl,rfl,rfl,rfl,rfl,rfl⟩
theorem QsK {e:Qxb} {w:Qxd} (h:Qct e w=true):e.Boot ≠ 1000∧QN e.Keys w=true∧w.From=e.Peer∧w.To=e.Name∧(e.PeerBoot < w.Boot ∨ (w.Boot=e.PeerBoot∧e.PeerTurn < w.Turn)):=by
  unfold Qct at h;simp only [Bool.and_eq_true,Bool.or_eq_true,Bool.not_eq_true',beq_eq_false_iff_ne,beq_iff_eq,decide_eq_true_eq] at h;obtain ⟨⟨⟨⟨h1,h2⟩,h3⟩,h4⟩,h5⟩:=h;exact ⟨h1,h2,h3,h4,h5⟩
theorem QvH {s:Qxc} (h:So s) (u:s.Up=true) (w:Qxd):So ⟨s.Up,helloHear s.End w⟩:=⟨Qsl h.eo,fun q=>absurd (q.symm.trans u) (by decide)⟩
theorem QpW {a b:Qxc} {R:List Qxd} (h:Inv a b R) {w:Qxd} (hw:w ∈ R):Inv (QcV a w) b R:=by
  by_cases c:a.Up=true∧a.End.Name=w.To
  case neg=>rw [Qdw c]; exact h
  rw [QeW c];have up:=c.1;have ea:Eo a.End:=h.gs.two.a.eo;have ok:=Jw.2 ea
  cases hn:Qct a.End w
  case false=>rw [QtS ok hn]; exact h
  obtain ⟨_,n2,n3,n4,n5⟩:=QsK hn;have wo:=(Qkm hn).1;have wc:=(Qix wo).2.2.2;have hb:¬ w.Boot < a.End.PeerBoot:=by omega
  have wa:Wa b a w:=(h.ws w hw (.inl n2)).2 (by rw [n3,h.gs.two.ba]);obtain ⟨s1,s2,s3,s4,s5,s6⟩:=Qjn ea w;have hf:=QnD (Jy a.End w) w;rw [← QpI ok hn] at hf;have rt:Rt 4 (Jy a.End w).Heard:=(QoB ea wo hb).heard.rt;have so:=QvH h.gs.two.a up w;generalize helloHear a.End w=E at *;have pbw:E.PeerBoot=w.Boot:=by
    rw [hf.pb];unfold Jy;split
    · rfl
    · omega
  have bt:(Jy a.End w).Boot=a.End.Boot:=by unfold Jy; split <;> rfl
  have old:¬ a.End.PeerBoot < w.Boot→Jy a.End w=a.End:=fun q=>if_neg q;have new:a.End.PeerBoot < w.Boot→Blank (Jy a.End w):=fun q=>by
    unfold Jy;rw [if_pos q];have k:=QlD a.End;exact ⟨k.num,k.kind,k.told,k.all,k.got,k.full,k.fr⟩
  have TT:b.Up=true→w.Boot=b.End.Boot→b.End.PeerBoot=a.End.Boot→Tells E b.End∧Tells b.End E:=fun ub e1 e2=>by
    have key:Tells (Jy a.End w) b.End∧Tells b.End (Jy a.End w):=by
      by_cases q:a.End.PeerBoot < w.Boot
      · have bl:=(h.ba.blank ub up e2 (by omega)).2;exact ⟨Qkp (new q) bl,Qkp bl (new q)⟩
      · rw [old q];exact ⟨h.ab.told up ub (by omega) e2,h.ba.told ub up e2 (by omega)⟩
    refine Qq0 key.1 key.2 hf rt wc h.gs.two.b.eo.ap fun y=>?_;exact wa.sess ub up e1 (by rw [y,bt])
  refine ⟨⟨⟨so,h.gs.two.b,s1.trans h.gs.two.ab,h.gs.two.ba.trans s2.symm⟩,h.gs.len,h.gs.words⟩,⟨?_,?_,?_,?_⟩,⟨?_,?_,?_,?_⟩,fun v hv k=>?_⟩
  · show E.PeerBoot≤b.End.Boot;rw [pbw]; exact wa.boot
  · intro _ ub e;have e:E.PeerBoot=b.End.Boot:=e;show E.PeerTurn≤b.End.Turn;rw [hf.pt];exact (wa.turn ub (by omega)).1
  · intro _ ub e n;have e:E.PeerBoot=b.End.Boot:=e;have n:b.End.PeerBoot ≠ E.Boot:=n;have y1:=(wa.turn ub (by omega)).2;have y2:=h.ba.pb;have ny:¬ w.Yours=(Jy a.End w).Boot:=by omega
    have bl:Blank (Jy a.End w):=by
      by_cases q:a.End.PeerBoot < w.Boot
      · exact new q
      · rw [old q];exact (h.ab.blank up ub (by omega) (by omega)).2
    refine ⟨?_,?_⟩
    · show E.Up=false;rw [hf.up]; simpa using ny
    · show Blank E;rcases hf.a with ⟨_,_,q,_⟩ | ⟨_,a1,a2,a3⟩
      · exact absurd q ny
      · rcases hf.c with ⟨_,_,q,_⟩ | ⟨_,c1,c2,c3⟩
        · exact absurd q ny
        · exact ⟨by rw [hf.num,bl.num],by rw [a1,bl.kind],by rw [a2,bl.told],by rw [a3,bl.all],by rw [c1,bl.got],by rw [c2,bl.full],by rw [c3,bl.fr]⟩
  · intro _ ub e e2;have e:E.PeerBoot=b.End.Boot:=e;have e2:b.End.PeerBoot=E.Boot:=e2;exact (TT ub (by omega) (by omega)).1
  · show b.End.PeerBoot≤E.Boot;rw [s3]; exact h.ba.pb
  · intro ub _ e;have e:b.End.PeerBoot=E.Boot:=e;show b.End.PeerTurn≤E.Turn;rw [s4];exact h.ba.pt ub up (by omega)
  · intro ub _ e n;have e:b.End.PeerBoot=E.Boot:=e;have n:E.PeerBoot ≠ b.End.Boot:=n;have:=wa.boot;exact h.ba.blank ub up (by omega) (by omega)
  · intro ub _ e e2;have e:b.End.PeerBoot=E.Boot:=e;have e2:E.PeerBoot=b.End.Boot:=e2;exact (TT ub (by omega) (by omega)).2
  · have k:QN a.End.Keys v=true ∨ QN b.End.Keys v=true:=by rw [← s5]; exact k
    obtain ⟨w1,w2⟩:=h.ws v hv k;refine ⟨fun f=>?_,fun f=>?_⟩
    · have wv:=w1 (f.trans s1);refine ⟨by show v.Boot≤E.Boot; rw [s3]; exact wv.boot,wv.yours,fun _ e=>?_,fun _ ub e e2=>?_⟩
      · have e:v.Boot=E.Boot:=e;have:=wv.turn up (by omega);show v.Turn≤E.Turn∧v.Yours≤E.PeerBoot;omega
      · have e:v.Boot=E.Boot:=e;have t:=(wv.turn up (by omega)).2;have p1:=h.ab.pb;have p2:=wa.boot;obtain ⟨g1,g2,g3⟩:=wv.sess up ub (by omega) e2;have be:=old (by omega);rw [be] at hf;show v.Heard≤E.Got∧v.Num≤E.Num∧(v.Num=E.Num→v.Change.Kind ≠ 0→E.Under.Kind ≠ 0→v.Change=E.Under);refine ⟨?_,by rw [hf.num]; exact g2,fun q1 q2 q3=>?_⟩
        · rcases hf.c with ⟨_,q,_,_,q2,_⟩ | ⟨_,q,_⟩ <;> omega
        · rcases hf.a with ⟨_,_,_,q,_⟩ | ⟨_,q,_⟩
          · exact absurd q q3
          · rw [q] at q3 ⊢;exact g3 (by rw [← hf.num]; exact q1) q2 q3
    · have wv:=w2 f;refine ⟨wv.boot,by show v.Yours≤E.Boot; rw [s3]; exact wv.yours,wv.turn,fun ub _ e e2=>?_⟩;have e2:v.Yours=E.Boot:=e2;exact wv.sess ub up e (by omega)
theorem Inv.sub {a b:Qxc} {R S:List Qxd} (h:Inv a b R) (hs:∀ w ∈ S,w ∈ R) (hl:S.length≤12):Inv a b S :=
  ⟨⟨h.gs.two,hl,fun x hx=>h.gs.words x (hs x hx)⟩,h.ab,h.ba,fun w hw k=>h.ws w (hs w hw) k⟩
theorem QnE {a b:Qxc} {R:List Qxd} (h:Inv a b R) {i:Nat} (hi:i < R.length):Inv (QcF (a,b,R) i).1 (QcF (a,b,R) i).2.1 (QcF (a,b,R) i).2.2:=by
  have hm:R.getD i default ∈ R:=Zj hi;have h1:=QpW h hm;have h2:=(QpW h1.swap hm).swap;have hl:=h.gs.len;refine h2.sub (fun w hw=>?_) ?_
  · have hw:w ∈ R.take i ++ R.drop (i+1):=hw;rcases List.mem_append.1 hw with q | q
    · exact List.mem_of_mem_take q
    · exact List.mem_of_mem_drop q
  · show (R.take i ++ R.drop (i+1)).length≤12;have hl:R.length≤12:=hl;simp; omega
end Go.Proofs.YtjgjdobkahdgfaaGreat
