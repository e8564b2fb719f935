/-
  Plain Lean: a calm round of two ends that share keys: each hears the other one's word.
-/
import Derived.Test.YtjgjdobkahdgfaaGreatKz5
import Derived.Test.YtjgjdobkahdgfaaGreatHelToz
set_option linter.all false
namespace Go.Proofs.YtjgjdobkahdgfaaGreat
open Go Go.Ab
set_option maxHeartbeats 400000
set_option maxRecDepth 100000
theorem QsQ {s:W3} (h:Gs s) {n:Int} (k:Sw n s):Sw n (QgM s):=by
  obtain ⟨a,b,R⟩:=s
  induction R generalizing a b with
  | nil=>exact k
  | cons x r ih =>
    refine ih _ _ (Qgp (i:=0) h (by simp)) ?_;obtain ⟨⟨q1,q2⟩,q3,q4⟩:=QlE h 0;exact ⟨⟨by show (QcF (a,b,x :: r) 0).1.End.Boot≤n; rw [q1]; exact k.1.boot,by show (QcF (a,b,x :: r) 0).1.End.Turn≤n; rw [q2]; exact k.1.turn⟩,⟨by show (QcF (a,b,x :: r) 0).2.1.End.Boot≤n; rw [q3]; exact k.2.boot,by show (QcF (a,b,x :: r) 0).2.1.End.Turn≤n; rw [q4]; exact k.2.turn⟩⟩
theorem QmD {s:W3} (h:Gs s) {n:Int} (k:Sw n s) (kd at_:Int):Sw (n+1) (QaQ s kd at_ [] []):=by
  obtain ⟨⟨_,a2,a3,_⟩,⟨_,b2,b3,_⟩⟩:=QnJ h kd at_ [] [];have:=k.1.boot;have:=k.1.turn;have:=k.2.boot;have:=k.2.turn;exact ⟨⟨by omega,by omega⟩,⟨by omega,by omega⟩⟩
def QvL (s:W3):W3:=QaQ (QaQ (QgM (QaQ (QaQ s 1 0 [] []) 1 1 [] [])) 5 0 [] []) 5 1 [] []
theorem Qq1 (s:W3):Qau s=QvL (QgM s):=rfl
theorem QpZ {s:W3} (h:Gs s) {n:Int} (k:Sw n s):Sw (n+4) (Qau s):=by
  have g1:=QiN h;have g2:=QcW g1 1 0 [] [];have g3:=QcW g2 1 1 [] [];have g4:=QiN g3;have g5:=QcW g4 5 0 [] [];have k5:=QmD g5 (QmD g4 (QsQ g3 (QmD g2 (QmD g1 (QsQ h k) 1 0) 1 1)) 5 0) 5 1;have e:n+1+1+1+1=n+4:=by omega
  rw [e] at k5;exact k5
theorem Qq2 {b:List Int} {p m:Int} {n:Nat} (hm:0≤m∧m≤1000) (h:Rd (n+71*m.toNat+130) ⟨b,p⟩):Post (Qcj ⟨b,p⟩ m) fun x=>(∃ s,x.1=toW s∧Iw s∧Sw (1+5*m) s)∧Rd n ⟨b,x.2.p⟩:=by
  unfold Qcj;refine .bd (QoN (n:=n+71*m.toNat) h) fun x1 ⟨⟨s,e1,i1,w1⟩,r1⟩=>.bd (Q:=fun x=>(∃ s,(⟨x.2.2.1,x.2.2.2.1⟩:Qxe)=toW s∧Iw s∧Sw (1+5*m) s)∧Rd n ⟨b,x.2.2.2.2⟩) (.lp (fun t=>(∃ s,(⟨t.1,t.2.1⟩:Qxe)=toW s∧Iw s∧Sw (1+5*(m - t.2.2.2)) s)∧(0≤t.2.2.2∧t.2.2.2≤m)∧Rd (n+71*t.2.2.2.toNat) ⟨b,t.2.2.1⟩) (fun t=>t.2.2.2.toNat) ⟨⟨s,e1,i1,by show Sw (1+5*(m - m)) s; rw [show 1+5*(m - m)=(1:Int) by omega]; exact w1⟩,⟨hm.1,Int.le_refl _⟩,r1⟩ fun t ⟨⟨s,t1,t2,t3⟩,t4,t5⟩=>.ite (fun c=>?_) fun c=>.ret ⟨⟨s,t1,t2,?_⟩,t5.mono (by omega)⟩) fun x5 ⟨⟨s,g1,g2,g3⟩,r5⟩=>.ret ⟨⟨s,g1,g2,g3⟩,r5⟩
  · have c:t.2.2.2 > 0:=by simpa using c
    rw [t1];refine .bd (Q:=fun x=>(∃ s,(⟨x.1,x.2.1⟩:Qxe)=toW s∧Iw s∧Sw (1+5*(m - t.2.2.2)+4) s)∧Rd (n+71*(t.2.2.2 - 1).toNat+70) ⟨b,x.2.2⟩) (.bd (Qcg (n:=n+71*(t.2.2.2 - 1).toNat+70) (t5.mono (by omega)) (by decide)) fun x9 ⟨q9,r9⟩=>.ite (fun _=>.bd (Q:=fun x=>x=toW (Qau s)) ⟨_,Qwx t2.gs 1,rfl⟩ fun x10 g10=>.ret ⟨⟨_,g10,QnI t2,QpZ t2.gs t3⟩,r9⟩) fun _=>.ret ⟨⟨s,t1,t2,t3.1.mono (by omega),t3.2.mono (by omega)⟩,r9⟩) fun x6 ⟨⟨s6,g6,i6,w6⟩,r6⟩=>?_;rw [g6];refine .bd (QqW r6 (QkK i6.gs)) fun x11 ⟨k11,r11⟩=>.bd (Q:=fun x=>x=toW (ZI s6 x11.1)) ⟨_,Qww i6.gs k11,rfl⟩ fun x12 g12=>?_;rw [wrap_i64 (n:=t.2.2.2 - 1) (by omega) (by omega)];refine .ret ⟨⟨⟨_,g12,Qdf i6 _,?_⟩,by dsimp only; omega,r11⟩,by dsimp only; omega⟩;have:=Qhi i6.gs w6 x11.1;dsimp only;rw [show 1+5*(m - (t.2.2.2 - 1))=1+5*(m - t.2.2.2)+4+1 by omega];exact this
  · have c:¬ t.2.2.2 > 0:=by simpa using c
    rw [show m - t.2.2.2=m by omega] at t3;exact t3
theorem QiO {b:List Int} (hb:b.length≤9223372036854775807) (h:∀ x ∈ b,Ql4 x):Post (ZP b) fun x=>∃ s,x=toW s∧Iw s∧Sw 300 s:=by
  unfold ZP;exact .bd (Qvu hb h) fun r hr=>.bd (Qcg (n:=900000) (b:=r.b) (p:=r.p) (hr.mono (by decide)) (by decide)) fun x2 ⟨q2,r2⟩=>.bd (Qq2 (n:=0) (by omega) (r2.mono (by omega))) fun x3 ⟨⟨s,e3,i3,w3⟩,_⟩=>.ret ⟨s,e3,i3,w3.1.mono (by omega),w3.2.mono (by omega)⟩
structure Ry (ks:List Qw7) (n:Int) (s:W3):Prop where
  iw:Iw s
  ua:s.1.Up=true
  ub:s.2.1.Up=true
  ka:s.1.End.Keys=ks
  kb:s.2.1.End.Keys=ks
  sw:Sw n s
theorem QsR {e:Qxb} (h:Eo e) (hw:Z4 (QbZ e)=true):QN e.Keys (QbZ e)=true:=by
  have kp:=Qjk h;unfold QN;rw [h.keys,hw,Bool.true_and,Bool.true_and,List.any_eq_true];refine ⟨Qws e,Zj (by omega),?_⟩;have e1:∀ s:Int,Qq5 s (QbZ e)=Qq5 s (QtT e):=fun _=>rfl;unfold Qeh;rw [e1];have:(Qws e).Id=(QbZ e).Key∧Qq5 (Qws e).Secret (QtT e)=(QbZ e).Sum:=⟨rfl,rfl⟩;rw [this.1,this.2];simp
theorem QuF {e:Qxb} (h:Eo e) (hb:e.Boot ≠ 1000) (ht:e.Turn ≠ 1000000):Z4 (QbZ e)=true:=by
  have:=(Qjl h).2.2;unfold QfC at this;rw [if_neg hb,if_neg ht] at this;exact this rfl
theorem QoO (y:Qxb) (w:Qxd):(listenY y w).Left=4:=by
  have k:∀ z:Qxb,(kept z).Left=z.Left:=fun z=>by unfold kept; split <;> rfl
  have c:∀ z:Qxb,(JN z w).Left=z.Left:=fun z=>by
    unfold JN;split
    · split <;> rfl
    · rfl
  have a:∀ z:Qxb,(JE z w).Left=z.Left:=fun z=>by unfold JE; split <;> rfl
  unfold listenY;split
  · rw [k,c,a]; rfl
  · rfl
theorem QsS {e:Qxb} (h:e.Left=4):Soft e (Qce e)∧(Qce e).Keys=e.Keys∧(Qce e).Want=e.Want:=by
  have k:=QnF (e:=e);have kk:=QnG e;have kw:(keepTick e).Want=e.Want:=by unfold keepTick; split <;> rfl
  have kl:(keepTick e).Left=e.Left:=by unfold keepTick; split <;> rfl
  unfold Qce QcT;rw [if_pos (by omega),if_neg (by omega)];exact ⟨⟨k.name,k.peer,k.boot,k.turn,k.pboot,k.pturn,k.up,k.num,k.under,k.told,k.all,k.got,k.full,k.fr,k.st⟩,kk,kw⟩
structure Nx (x y z:Qxb):Prop where
  soft:Soft (listenY (Jy (Zx x) (QbZ y)) (QbZ y)) z
  hf:Hf (Jy (Zx x) (QbZ y)) (listenY (Jy (Zx x) (QbZ y)) (QbZ y)) (QbZ y)
  keys:z.Keys=x.Keys
  want:z.Want=x.Want
  name:z.Name=x.Name
  peer:z.Peer=x.Peer
  boot:z.Boot=x.Boot
  turn:z.Turn=x.Turn+1
  pboot:z.PeerBoot=y.Boot
  rt:Rt 4 (Jy (Zx x) (QbZ y)).Heard
theorem QvM {ks:List Qw7} {n:Int} {a b:Qxc} (h:Ry ks n (a,b,[])) (hn:n≤900):∃ p q:Qxb,QvL (a,b,[])=(⟨true,p⟩,⟨true,q⟩,[])∧Nx a.End b.End p∧Nx b.End a.End q:=by
  have ua:a.Up=true:=h.ua;have ub:b.Up=true:=h.ub;have ka:a.End.Keys=ks:=h.ka;have kb:b.End.Keys=ks:=h.kb;have ea:Eo a.End:=h.iw.gs.two.a.eo;have eb:Eo b.End:=h.iw.gs.two.b.eo;have t:Two a b:=h.iw.gs.two;have da:Dir a b:=h.iw.ab;have db:Dir b a:=h.iw.ba;have sa:Sm n a:=h.sw.1;have sb:Sm n b:=h.sw.2;have na:a.End.Boot ≠ 1000∧a.End.Turn ≠ 1000000:=by have:=sa.boot; have:=sa.turn; omega
  have nb:b.End.Boot ≠ 1000∧b.End.Turn ≠ 1000000:=by have:=sb.boot; have:=sb.turn; omega
  have act:∀ x:Qxc,x.Up=true→x.End.Boot ≠ 1000∧x.End.Turn ≠ 1000000→QaT x 1 [] []=⟨true,Zx x.End⟩∧∀ R R9,Q9 x R R9 1 []=QmH R (QbZ x.End):=fun x u hx=>by
    have e:QfC x.End=(Zx x.End,QbZ x.End,true):=by unfold QfC; rw [if_neg hx.1,if_neg hx.2]
    refine ⟨?_,fun R R9=>?_⟩
    · unfold QaT;rw [if_pos rfl,if_pos u,e,u]
    · unfold Q9;rw [if_pos rfl,if_pos ⟨u,by rw [e]⟩,e]
  obtain ⟨a1,a2⟩:=act a ua na;obtain ⟨b1,b2⟩:=act b ub nb;have e1:QaQ (QaQ (a,b,[]) 1 0 [] []) 1 1 [] []=(⟨true,Zx a.End⟩,⟨true,Zx b.End⟩,[QbZ a.End,QbZ b.End]):=by
    have s0:QaQ (a,b,[]) 1 0 [] []=(⟨true,Zx a.End⟩,b,[QbZ a.End]):=by
      unfold QaQ;rw [if_pos rfl];dsimp only;rw [a1,a2]; rfl
    rw [s0];unfold QaQ;rw [if_neg (by decide),if_pos rfl];dsimp only;rw [b1,b2]; rfl
  have wa:=QuF ea na.1 na.2;have wb:=QuF eb nb.1 nb.2
  -- one of the two
  have one:∀ x y:Qxc,So x→Eo y.End→Dir x y→y.Up=true→x.Up=true→x.End.Peer=y.End.Name→y.End.Peer=x.End.Name→x.End.Keys=y.End.Keys→x.End.Boot ≠ 1000∧x.End.Turn ≠ 1000000→Z4 (QbZ y.End)=true→QcV ⟨true,Zx x.End⟩ (QbZ x.End)=⟨true,Zx x.End⟩∧QcV ⟨true,Zx x.End⟩ (QbZ y.End)=⟨true,listenY (Jy (Zx x.End) (QbZ y.End)) (QbZ y.End)⟩∧Nx x.End y.End (Qce (listenY (Jy (Zx x.End) (QbZ y.End)) (QbZ y.End))):=fun x y sx ey d uy ux n1 n2 hk hx wy=>by
    have sx1:So ⟨true,Zx x.End⟩:=by
      have:=(QlC sx 1 [] []).1;rw [(act x ux hx).1] at this;exact this
    have ex:Eo (Zx x.End):=sx1.eo;have ok:=Jw.2 ex;have new:Qct (Zx x.End) (QbZ y.End)=true:=by
      have r:QN (Zx x.End).Keys (QbZ y.End)=true:=by
        show QN x.End.Keys (QbZ y.End)=true;rw [hk]; exact QsR ey wy
      have p1:=d.pb;have p2:=d.pt ux uy;unfold Qct;rw [r];have f:(QbZ y.End).From=y.End.Name∧(QbZ y.End).To=y.End.Peer∧(QbZ y.End).Boot=y.End.Boot∧(QbZ y.End).Turn=y.End.Turn+1:=⟨rfl,rfl,rfl,rfl⟩;have g:(Zx x.End).Boot=x.End.Boot∧(Zx x.End).Peer=x.End.Peer∧(Zx x.End).Name=x.End.Name∧(Zx x.End).PeerBoot=x.End.PeerBoot∧(Zx x.End).PeerTurn=x.End.PeerTurn:=⟨rfl,rfl,rfl,rfl,rfl⟩;rw [f.1,f.2.1,f.2.2.1,f.2.2.2,g.1,g.2.1,g.2.2.1,g.2.2.2.1,g.2.2.2.2];simp only [Bool.and_eq_true,Bool.or_eq_true,Bool.not_eq_true',beq_eq_false_iff_ne,beq_iff_eq,decide_eq_true_eq];refine ⟨⟨⟨⟨hx.1,trivial⟩,n1.symm⟩,n2⟩,?_⟩
      by_cases q:x.End.PeerBoot=y.End.Boot
      · have:=p2 q;exact .inr ⟨q.symm,by omega⟩
      · exact .inl (by omega)
    have hh:=QpI ok new;obtain ⟨s1,s2,s3,s4,s5,s6⟩:=Qjn ex (QbZ y.End);rw [hh] at s1 s2 s3 s4 s5 s6;have hf:=QnD (Jy (Zx x.End) (QbZ y.End)) (QbZ y.End);obtain ⟨k1,k2,k3⟩:=QsS (QoO (Jy (Zx x.End) (QbZ y.End)) (QbZ y.End));have hb:¬ (QbZ y.End).Boot < (Zx x.End).PeerBoot:=by
      have:=d.pb;show ¬ y.End.Boot < x.End.PeerBoot;omega
    refine ⟨?_,?_,⟨k1,hf,k2.trans s5,k3.trans s6,k1.name.trans s1,k1.peer.trans s2,k1.boot.trans s3,k1.turn.trans s4,?_,(QoB ex wy hb).heard.rt⟩⟩
    · refine Qdw fun q=>?_;have q:x.End.Name=x.End.Peer:=q.2;exact sx.eo.ne q
    · rw [QeW ⟨rfl,show x.End.Name=y.End.Peer from n2.symm⟩,hh]
    · rw [k1.pboot,hf.pb];unfold Jy;split
      · rfl
      · next q =>
        have q:¬ y.End.Boot > x.End.PeerBoot:=q;have:=d.pb;show x.End.PeerBoot=y.End.Boot;omega
  obtain ⟨x1,x2,x3⟩:=one a b t.a eb da ub ua t.ba.symm t.ab.symm (ka.trans kb.symm) na wb;obtain ⟨y1,y2,y3⟩:=one b a t.b ea db ua ub t.ab.symm t.ba.symm (kb.trans ka.symm) nb wa;refine ⟨_,_,?_,x3,y3⟩;unfold QvL;rw [e1];have e2:QgM (⟨true,Zx a.End⟩,⟨true,Zx b.End⟩,[QbZ a.End,QbZ b.End])=(⟨true,listenY (Jy (Zx a.End) (QbZ b.End)) (QbZ b.End)⟩,⟨true,listenY (Jy (Zx b.End) (QbZ a.End)) (QbZ a.End)⟩,[]):=by
    unfold QgM;dsimp only [List.foldl];rw [x1,x2,y2];have:QcV ⟨true,listenY (Jy (Zx b.End) (QbZ a.End)) (QbZ a.End)⟩ (QbZ b.End)=⟨true,listenY (Jy (Zx b.End) (QbZ a.End)) (QbZ a.End)⟩:=by
      refine Qdw fun q=>?_;have nm:(listenY (Jy (Zx b.End) (QbZ a.End)) (QbZ a.End)).Name=b.End.Name:=by
        rw [← y3.name,y3.soft.name]
      have q:(listenY (Jy (Zx b.End) (QbZ a.End)) (QbZ a.End)).Name=b.End.Peer:=q.2;rw [nm] at q;exact eb.ne q
    rw [this]
  rw [e2]
  rfl
end Go.Proofs.YtjgjdobkahdgfaaGreat
