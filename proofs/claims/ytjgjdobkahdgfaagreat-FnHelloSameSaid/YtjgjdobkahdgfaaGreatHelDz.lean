/-
  Plain Lean: worlds of the reference's that are ok stay ok, whatever happens in them.
-/
import Derived.Test.YtjgjdobkahdgfaaGreatKz5
import Derived.Test.YtjgjdobkahdgfaaGreatHelCz
set_option linter.all false
namespace Go.Proofs.YtjgjdobkahdgfaaGreat
open Go Go.Ab
set_option maxHeartbeats 1000000
set_option maxRecDepth 100000
structure Down (e:Qxb):Prop where
  turn:e.Turn=0
  pboot:e.PeerBoot=0
  up:e.Up=false
  num:e.Num=0
  kind:e.Under.Kind=0
  told:e.Told=[]
  all:e.All=false
  got:e.Got=0
  full:e.Full=false
  heard:e.Heard=[]
structure So (s:Qxc):Prop where
  eo:Eo s.End
  down:s.Up=false→Down s.End
structure Two (s t:Qxc):Prop where
  a:So s
  b:So t
  ab:s.End.Name=t.End.Peer
  ba:t.End.Name=s.End.Peer
structure Gw (w:Qxe):Prop where
  two:∃ a b,w.Sides=[a,b]∧Two a b
  len:w.Radio.length≤12
  words:∀ x ∈ w.Radio,Z4 x=true
theorem Quv {s:Qxc} (h:So s):Qay s=some true:=by
  have L:=(ZT h.eo).mono (m:=1048576) (by decide);unfold Qay;rw [Qlu L.k L.t,Jw.2 h.eo,Qb,if_neg (by decide)]
  cases hu:s.Up
  · have d:=h.down hu;rw [d.turn,d.pboot,d.up,d.num,d.kind,d.told,d.all,d.got,d.full,d.heard]
    rfl
  · rfl
theorem QoC {w:Qxe} (h:Gw w):Post (Z8 w) fun x=>x=true:=by
  obtain ⟨⟨a,b,hs,t⟩,hl,hw⟩:=h;unfold Z8;rw [hs];refine .gd (fun _=>by simp) (.bd (Q:=fun x=>x=true) (.gcall (fun _=>⟨_,Quv t.a,rfl⟩) fun c=>absurd (by rfl) c) fun x2 h2=>.gd (fun _=>by simp) (.bd (Q:=fun x=>x=true) (.gcall (fun _=>⟨_,Quv t.b,rfl⟩) fun c=>absurd (by rw [h2]; rfl) c) fun x4 h4=>.gd (fun _=>by simp) (.gd (fun _=>by simp) (.gd (fun _=>by simp) (.gd (fun _=>by simp) ?_)))));rw [h2,h4];refine .ite (fun c=>?_) fun _=>.bd (Q:=fun x=>x=Sum.inr ()) ⟨_,QgL w.Radio.length (fun i=>Z4 (w.Radio.getD i default)) (.inl ()) (.inr ()) (fun i hi _=>?_) (fun _=>?_),?_⟩ fun x hx=>?_
  · exfalso;have e1:(([a,b]:List Qxc).getD 0 default)=a:=rfl;have e2:(([a,b]:List Qxc).getD 1 default)=b:=rfl;rw [e1,e2] at c;simp only [Bool.or_eq_true,bne_iff_ne,ne_eq,decide_eq_true_eq] at c;have:=t.ab;have:=t.ba;simp at c;omega
  · rw [if_pos (by simp; omega),Qp (by omega),Int.toNat_natCast,QK hi (by omega)];refine (congrArg (fun m=>bd m _) (Qop _)).trans ?_;rw [Qb];show (if (!(Z4 (w.Radio.getD i default)))=true then _ else _)=_
    cases Z4 (w.Radio.getD i default) <;> rfl
  · rw [if_neg (by simp)]
  · rw [if_pos (Qfj fun i hi=>hw _ (Zj hi))]
  · rw [hx]; exact .ret rfl
theorem Qsp {e:Qxb} (h:Eo e):Zd e=some e:=Qet ((ZT h).mono (by decide))
theorem Qms {w:Qxe} (h:Gw w):Qai w=some w:=by
  obtain ⟨⟨a,b,hs,t⟩,hl,hw⟩:=h;obtain ⟨S,R⟩:=w;dsimp only at hs hl;subst hs;have key:Post (Qai ⟨[a,b],R⟩) fun x=>x=⟨[a,b],R⟩:=by
    unfold Qai;refine .gd (by dsimp only; omega) (.bd (Q:=fun x=>x.1=[a,b]) (.lp (fun s=>(s.1=[]∧s.2=0) ∨ (s.1=[a]∧s.2=1) ∨ (s.1=[a,b]∧s.2=2)) (fun s=>(2 - s.2).toNat) (.inl ⟨rfl,rfl⟩) fun s hs=>?_) fun x hx=>.ret (by rw [hx]));obtain ⟨ys,i⟩:=s;rcases hs with ⟨e1,e2⟩ | ⟨e1,e2⟩ | ⟨e1,e2⟩ <;> dsimp only at e1 e2 <;> subst e1 <;> subst e2
    · refine .ite (fun _=>.gd (by simp) (.gd (by simp) ?_)) fun c=>absurd (by rfl) c;refine .bd (Q:=fun x=>x=a.End) ⟨_,Qsp t.a.eo,rfl⟩ fun x hx=>.gd (by simp) (.ret ⟨.inr (.inl ⟨?_,rfl⟩),by show (2 - IntKind.i64.wrap ((0:Int)+1)).toNat < (2 - (0:Int)).toNat; decide⟩);rw [hx]; rfl
    · refine .ite (fun _=>.gd (by simp) (.gd (by simp) ?_)) fun c=>absurd (by rfl) c;refine .bd (Q:=fun x=>x=b.End) ⟨_,Qsp t.b.eo,rfl⟩ fun x hx=>.gd (by simp) (.ret ⟨.inr (.inr ⟨?_,rfl⟩),by show (2 - IntKind.i64.wrap ((1:Int)+1)).toNat < (2 - (1:Int)).toNat; decide⟩);rw [hx]; rfl
    · refine .ite (fun c=>absurd c (by simp)) fun _=>.ret rfl
  obtain ⟨x,e,rfl⟩:=key;exact e
theorem Qvq {w:Qxe} (h:Gw w):QaF w=some w:=Qms h
theorem QtP {w:Qxe} (h:Gw w) {x:Qxd} (hx:Z4 x=true):Post (JQ w x) Gw:=by
  unfold JQ;refine .ite (fun c=>.gd ?_ (.ret ⟨h.two,?_,fun y hy=>?_⟩)) fun _=>.ret h
  · have:=h.len;simp; omega
  · simp at c ⊢; omega
  · rcases List.mem_append.1 hy with q | q
    · exact h.words y q
    · rw [List.mem_singleton.1 q]; exact hx
theorem Qnt {e:Qxb} (h:Eo e) {w:Qxd}:(helloHear e w).Name=e.Name∧(helloHear e w).Peer=e.Peer:=by
  unfold helloHear;rw [if_pos (Jw.2 h)];split
  · obtain ⟨q1,q2,_,_⟩:=Qhg (y:=Jy e w) (w:=w);rw [q1,q2];unfold Jy;split <;> exact ⟨rfl,rfl⟩
  · exact ⟨rfl,rfl⟩
theorem Qw5 {a b:Qxc} {P:Qxc→Int→Prop} (h0:P a 0) (h1:P b 1) {i:Int} (hi:0≤i∧i < 2):P (([a,b]:List Qxc).getD i.toNat default) i:=by
  have:i=0 ∨ i=1:=by omega
  rcases this with e | e <;> subst e
  · exact h0
  · exact h1
theorem Qvr {a b:Qxc} (t:Two a b) {i:Int} (hi:0≤i∧i < 2) {s:Qxc} (hs:So s) (hn:s.End.Name=(([a,b]:List Qxc).getD i.toNat default).End.Name) (hp:s.End.Peer=(([a,b]:List Qxc).getD i.toNat default).End.Peer):∃ a' b',([a,b]:List Qxc).set i.toNat s=[a',b']∧Two a' b':=by
  have:i=0 ∨ i=1:=by omega
  rcases this with e | e <;> subst e
  · have hn:s.End.Name=a.End.Name:=hn;have hp:s.End.Peer=a.End.Peer:=hp;exact ⟨s,b,rfl,hs,t.b,by rw [hn]; exact t.ab,by rw [hp]; exact t.ba⟩
  · have hn:s.End.Name=b.End.Name:=hn;have hp:s.End.Peer=b.End.Peer:=hp;exact ⟨a,s,rfl,t.a,hs,by rw [hp]; exact t.ab,by rw [hn]; exact t.ba⟩
theorem QoD {a b:Qxc} (t:Two a b) {i:Int} (hi:0≤i∧i < 2):So (([a,b]:List Qxc).getD i.toNat default):=Qw5 (P:=fun s _=>So s) t.a t.b hi
theorem Qnu {R:List Qxd} {i:Nat} (hw:∀ x ∈ R,Z4 x=true):∀ x ∈ R.take i ++ R.drop (i+1),Z4 x=true:=fun x hx=>by
  rcases List.mem_append.1 hx with q | q
  · exact hw x (List.mem_of_mem_take q)
  · exact hw x (List.mem_of_mem_drop q)
theorem Qsq {R:List Qxd} {at_:Int} (h:0≤at_∧at_ < (R.length:Int)) (hl:R.length≤12):(R.take at_.toNat) ++ (((R).take ((IntKind.i64.wrap (at_+1)).toNat+(Qdg ((R.length:Nat):Int) (IntKind.i64.wrap (at_+1))))).drop ((IntKind.i64.wrap (at_+1)).toNat))=R.take at_.toNat ++ R.drop (at_.toNat+1):=by
  rw [wrap_i64 (n:=at_+1) (by omega) (by omega),show (at_+1).toNat=at_.toNat+1 by omega];have e1:R.take (at_.toNat+1+Qdg ((R.length:Nat):Int) (at_+1))=R:=List.take_of_length_le (by simp [QU]; omega);rw [e1]
theorem QqU {w:Qxe} (h:Gw w) {at_:Int} (ha:0≤at_∧at_ < (w.Radio.length:Int)):Post (Jp w at_) fun x=>Gw x∧x.Radio.length+1=w.Radio.length:=by
  obtain ⟨⟨a,b,hs,t⟩,hl,hw⟩:=h;obtain ⟨S,R⟩:=w;dsimp only at hs hl ha hw;subst hs;unfold Jp;dsimp only;rw [Qsq ha hl,wrap_i64 (n:=at_+1) (by omega) (by omega)];refine .gd ha (.gd (by omega) (.gd (by omega) (.gd (by omega) (.gd ?_ (.bd (Q:=fun x=>∃ a b,x.2=[a,b]∧Two a b) (.lp (fun s=>(∃ a b,s.1=[a,b]∧Two a b)∧0≤s.2∧s.2≤2) (fun s=>(2 - s.2).toNat) ⟨⟨a,b,rfl,t⟩,Int.le_refl _,by show (0:Int)≤2; decide⟩ fun s ⟨⟨c,d,e1,t2⟩,s0,s2⟩=>?_) fun x hx=>.ret ⟨⟨hx,?_,Qnu hw⟩,?_⟩)))))
  · simp [QU]; omega
  · obtain ⟨ys,i⟩:=s;dsimp only at e1 s0 s2 ⊢;subst e1;refine .ite (fun c1=>?_) fun c1=>.ret ⟨c,d,rfl,t2⟩;have hi:0≤i∧i < 2:=⟨s0,by simpa using c1⟩;have so:=QoD t2 hi;rw [wrap_i64 (n:=i+1) (by omega) (by omega)];refine .gd (by simp; omega) (.gd (fun _=>by simp; omega) (.ite (fun c2=>.gd (by simp; omega) ?_) fun _=>.ret ⟨⟨⟨c,d,rfl,t2⟩,by dsimp only; omega⟩,by dsimp only; omega⟩));simp only [Bool.and_eq_true] at c2;refine .bd (Q:=fun x=>x=helloHear (([c,d]:List Qxc).getD i.toNat default).End (R.getD at_.toNat default)) ⟨_,Qow ((ZT so.eo).mono (by decide)) _,rfl⟩ fun x hx=>.gd (by simp; omega) (.ret ⟨⟨Qvr t2 hi ⟨?_,fun q=>?_⟩ ?_ ?_,by dsimp only; omega⟩,by dsimp only; omega⟩)
    · rw [hx]; exact Qsl so.eo
    · have q:(([c,d]:List Qxc).getD i.toNat default).Up=false:=q;rw [c2.1] at q; cases q
    · rw [hx]; exact (Qnt so.eo).1
    · rw [hx]; exact (Qnt so.eo).2
  · simp; omega
  · simp; omega
end Go.Proofs.YtjgjdobkahdgfaaGreat
