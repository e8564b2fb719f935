/-
  Plain Lean: worlds of the reference's that are ok stay ok, whatever happens in them.
-/
import Derived.Test.YtjgjdobkahdgfaaGreatKz6
import Derived.Test.YtjgjdobkahdgfaaGreatHelCz
set_option linter.all false
namespace Go.Proofs.YtjgjdobkahdgfaaGreat
open Go Go.Ab
set_option maxHeartbeats 1000000
set_option maxRecDepth 100000
structure Down (e:Qv5):Prop where
  turn:e.Turn=0
  pboot:e.PeerBoot=0
  up:e.Up=false
  num:e.Num=0
  kind:e.Under.Kind=0
  told:e.Told=[]
  all:e.All=false
  got:e.Got=0
  full:e.Full=false
  heard:e.Heard=[]
structure So (s:Qv6):Prop where
  eo:Eo s.End
  down:s.Up=false→Down s.End
structure Two (s t:Qv6):Prop where
  a:So s
  b:So t
  ab:s.End.Name=t.End.Peer
  ba:t.End.Name=s.End.Peer
structure Gw (w:Qv8):Prop where
  two:∃ a b,w.Sides=[a,b]∧Two a b
  len:w.Radio.length≤12
  words:∀ x ∈ w.Radio,Zw x=true
theorem Qtz {s:Qv6} (h:So s):Jv s=some true:=by
  have L:=(ZE h.eo).mono (m:=1048576) (by decide);unfold Jv;rw [Qkd L.k L.t,JX.2 h.eo,Qb,if_neg (by decide)]
  cases hu:s.Up
  · have d:=h.down hu;rw [d.turn,d.pboot,d.up,d.num,d.kind,d.told,d.all,d.got,d.full,d.heard]
    rfl
  · rfl
theorem Qmr {w:Qv8} (h:Gw w):Post (QN w) fun x=>x=true:=by
  obtain ⟨⟨a,b,hs,t⟩,hl,hw⟩:=h;unfold QN;rw [hs];refine .gd (fun _=>by simp) (.bd (Q:=fun x=>x=true) (.gcall (fun _=>⟨_,Qtz t.a,rfl⟩) fun c=>absurd (by rfl) c) fun x2 h2=>.gd (fun _=>by simp) (.bd (Q:=fun x=>x=true) (.gcall (fun _=>⟨_,Qtz t.b,rfl⟩) fun c=>absurd (by rw [h2]; rfl) c) fun x4 h4=>.gd (fun _=>by simp) (.gd (fun _=>by simp) (.gd (fun _=>by simp) (.gd (fun _=>by simp) ?_)))));rw [h2,h4];refine .ite (fun c=>?_) fun _=>.bd (Q:=fun x=>x=Sum.inr ()) ⟨_,QdB w.Radio.length (fun i=>Zw (w.Radio.getD i default)) (.inl ()) (.inr ()) (fun i hi _=>?_) (fun _=>?_),?_⟩ fun x hx=>?_
  · exfalso;have e1:(([a,b]:List Qv6).getD 0 default)=a:=rfl;have e2:(([a,b]:List Qv6).getD 1 default)=b:=rfl;rw [e1,e2] at c;simp only [Bool.or_eq_true,bne_iff_ne,ne_eq,decide_eq_true_eq] at c;have:=t.ab;have:=t.ba;simp at c;omega
  · rw [if_pos (by simp; omega),Qn (by omega),Int.toNat_natCast,QE hi (by omega)];refine (congrArg (fun m=>bd m _) (Qmn _)).trans ?_;rw [Qb];show (if (!(Zw (w.Radio.getD i default)))=true then _ else _)=_
    cases Zw (w.Radio.getD i default) <;> rfl
  · rw [if_neg (by simp)]
  · rw [if_pos (QcN fun i hi=>hw _ (ZG hi))]
  · rw [hx]; exact .ret rfl
theorem QrO {e:Qv5} (h:Eo e):Zf e=some e:=Qc7 ((ZE h).mono (by decide))
theorem Qiw {w:Qv8} (h:Gw w):JJ w=some w:=by
  obtain ⟨⟨a,b,hs,t⟩,hl,hw⟩:=h;obtain ⟨S,R⟩:=w;dsimp only at hs hl;subst hs;have key:Post (JJ ⟨[a,b],R⟩) fun x=>x=⟨[a,b],R⟩:=by
    unfold JJ;refine .gd (by dsimp only; omega) (.bd (Q:=fun x=>x.1=[a,b]) (.lp (fun s=>(s.1=[]∧s.2=0) ∨ (s.1=[a]∧s.2=1) ∨ (s.1=[a,b]∧s.2=2)) (fun s=>(2 - s.2).toNat) (.inl ⟨rfl,rfl⟩) fun s hs=>?_) fun x hx=>.ret (by rw [hx]));obtain ⟨ys,i⟩:=s;rcases hs with ⟨e1,e2⟩ | ⟨e1,e2⟩ | ⟨e1,e2⟩ <;> dsimp only at e1 e2 <;> subst e1 <;> subst e2
    · refine .ite (fun _=>.gd (by simp) (.gd (by simp) ?_)) fun c=>absurd (by rfl) c;refine .bd (Q:=fun x=>x=a.End) ⟨_,QrO t.a.eo,rfl⟩ fun x hx=>.gd (by simp) (.ret ⟨.inr (.inl ⟨?_,rfl⟩),by show (2 - IntKind.i64.wrap ((0:Int)+1)).toNat < (2 - (0:Int)).toNat; decide⟩);rw [hx]; rfl
    · refine .ite (fun _=>.gd (by simp) (.gd (by simp) ?_)) fun c=>absurd (by rfl) c;refine .bd (Q:=fun x=>x=b.End) ⟨_,QrO t.b.eo,rfl⟩ fun x hx=>.gd (by simp) (.ret ⟨.inr (.inr ⟨?_,rfl⟩),by show (2 - IntKind.i64.wrap ((1:Int)+1)).toNat < (2 - (1:Int)).toNat; decide⟩);rw [hx]; rfl
    · refine .ite (fun c=>absurd c (by simp)) fun _=>.ret rfl
  obtain ⟨x,e,rfl⟩:=key;exact e
theorem QrP {w:Qv8} (h:Gw w):QaC w=some w:=Qiw h
theorem Qjh {w:Qv8} (h:Gw w) {x:Qv7} (hx:Zw x=true):Post (Qad w x) Gw:=by
  unfold Qad;refine .ite (fun c=>.gd ?_ (.ret ⟨h.two,?_,fun y hy=>?_⟩)) fun _=>.ret h
  · have:=h.len;simp; omega
  · simp at c ⊢; omega
  · rcases List.mem_append.1 hy with q | q
    · exact h.words y q
    · rw [List.mem_singleton.1 q]; exact hx
theorem QrQ {w:Qv8} (h:Gw w) {x:Qv7} (hx:Zw x=true):Post (QaY w x) Gw:=Qjh h hx
theorem Qno {e:Qv5} (h:Eo e) {w:Qv7}:(ZJ e w).Name=e.Name∧(ZJ e w).Peer=e.Peer:=by
  unfold ZJ;rw [if_pos (JX.2 h)];split
  · obtain ⟨q1,q2,_,_⟩:=Qkg (y:=Qet e w) (w:=w);rw [q1,q2];unfold Qet;split <;> exact ⟨rfl,rfl⟩
  · exact ⟨rfl,rfl⟩
theorem QvY {a b:Qv6} {P:Qv6→Int→Prop} (h0:P a 0) (h1:P b 1) {i:Int} (hi:0≤i∧i < 2):P (([a,b]:List Qv6).getD i.toNat default) i:=by
  have:i=0 ∨ i=1:=by omega
  rcases this with e | e <;> subst e
  · exact h0
  · exact h1
theorem Qon {a b:Qv6} (t:Two a b) {i:Int} (hi:0≤i∧i < 2) {s:Qv6} (hs:So s) (hn:s.End.Name=(([a,b]:List Qv6).getD i.toNat default).End.Name) (hp:s.End.Peer=(([a,b]:List Qv6).getD i.toNat default).End.Peer):∃ a' b',([a,b]:List Qv6).set i.toNat s=[a',b']∧Two a' b':=by
  have:i=0 ∨ i=1:=by omega
  rcases this with e | e <;> subst e
  · have hn:s.End.Name=a.End.Name:=hn;have hp:s.End.Peer=a.End.Peer:=hp;exact ⟨s,b,rfl,hs,t.b,by rw [hn]; exact t.ab,by rw [hp]; exact t.ba⟩
  · have hn:s.End.Name=b.End.Name:=hn;have hp:s.End.Peer=b.End.Peer:=hp;exact ⟨a,s,rfl,t.a,hs,by rw [hp]; exact t.ab,by rw [hn]; exact t.ba⟩
theorem Qkk {a b:Qv6} (t:Two a b) {i:Int} (hi:0≤i∧i < 2):So (([a,b]:List Qv6).getD i.toNat default):=QvY (P:=fun s _=>So s) t.a t.b hi
theorem Qnp {R:List Qv7} {i:Nat} (hw:∀ x ∈ R,Zw x=true):∀ x ∈ R.take i ++ R.drop (i+1),Zw x=true:=fun x hx=>by
  rcases List.mem_append.1 hx with q | q
  · exact hw x (List.mem_of_mem_take q)
  · exact hw x (List.mem_of_mem_drop q)
theorem QrR {R:List Qv7} {at_:Int} (h:0≤at_∧at_ < (R.length:Int)) (hl:R.length≤12):(R.take at_.toNat) ++ (((R).take ((IntKind.i64.wrap (at_+1)).toNat+(Qc8 ((R.length:Nat):Int) (IntKind.i64.wrap (at_+1))))).drop ((IntKind.i64.wrap (at_+1)).toNat))=R.take at_.toNat ++ R.drop (at_.toNat+1):=by
  rw [wrap_i64 (n:=at_+1) (by omega) (by omega),show (at_+1).toNat=at_.toNat+1 by omega];have e1:R.take (at_.toNat+1+Qc8 ((R.length:Nat):Int) (at_+1))=R:=List.take_of_length_le (by simp [QW]; omega);rw [e1]
theorem Qgo {w:Qv8} (h:Gw w) {at_:Int} (ha:0≤at_∧at_ < (w.Radio.length:Int)):Post (Jm w at_) fun x=>Gw x∧x.Radio.length+1=w.Radio.length:=by
  obtain ⟨⟨a,b,hs,t⟩,hl,hw⟩:=h;obtain ⟨S,R⟩:=w;dsimp only at hs hl ha hw;subst hs;unfold Jm;dsimp only;rw [QrR ha hl,wrap_i64 (n:=at_+1) (by omega) (by omega)];refine .gd ha (.gd (by omega) (.gd (by omega) (.gd (by omega) (.gd ?_ (.bd (Q:=fun x=>∃ a b,x.2=[a,b]∧Two a b) (.lp (fun s=>(∃ a b,s.1=[a,b]∧Two a b)∧0≤s.2∧s.2≤2) (fun s=>(2 - s.2).toNat) ⟨⟨a,b,rfl,t⟩,Int.le_refl _,by show (0:Int)≤2; decide⟩ fun s ⟨⟨c,d,e1,t2⟩,s0,s2⟩=>?_) fun x hx=>.ret ⟨⟨hx,?_,Qnp hw⟩,?_⟩)))))
  · simp [QW]; omega
  · obtain ⟨ys,i⟩:=s;dsimp only at e1 s0 s2 ⊢;subst e1;refine .ite (fun c1=>?_) fun c1=>.ret ⟨c,d,rfl,t2⟩;have hi:0≤i∧i < 2:=⟨s0,by simpa using c1⟩;have so:=Qkk t2 hi;rw [wrap_i64 (n:=i+1) (by omega) (by omega)];refine .gd (by simp; omega) (.gd (fun _=>by simp; omega) (.ite (fun c2=>.gd (by simp; omega) ?_) fun _=>.ret ⟨⟨⟨c,d,rfl,t2⟩,by dsimp only; omega⟩,by dsimp only; omega⟩));simp only [Bool.and_eq_true] at c2;refine .bd (Q:=fun x=>x=ZJ (([c,d]:List Qv6).getD i.toNat default).End (R.getD at_.toNat default)) ⟨_,Qof ((ZE so.eo).mono (by decide)) _,rfl⟩ fun x hx=>.gd (by simp; omega) (.ret ⟨⟨Qon t2 hi ⟨?_,fun q=>?_⟩ ?_ ?_,by dsimp only; omega⟩,by dsimp only; omega⟩)
    · rw [hx]; exact Qus so.eo
    · have q:(([c,d]:List Qv6).getD i.toNat default).Up=false:=q;rw [c2.1] at q; cases q
    · rw [hx]; exact (Qno so.eo).1
    · rw [hx]; exact (Qno so.eo).2
  · simp; omega
  · simp; omega
theorem Qnq {w:Qv8} (h:Gw w):Post (JK w) fun r=>r.length≤w.Radio.length∧∀ x ∈ r,Zw x=true:=by
  obtain ⟨⟨a,b,hs,t⟩,hl,hw⟩:=h;have ka:=(ZE t.a.eo).k;have kb:=(ZE t.b.eo).k;unfold JK;rw [hs];refine .bd (Q:=fun x=>x.2.length≤w.Radio.length∧∀ y ∈ x.2,Zw y=true) (.lp (fun s=>0≤s.2∧(s.1.length:Int)≤s.2∧s.2≤(w.Radio.length:Int)∧∀ y ∈ s.1,Zw y=true) (fun s=>(w.Radio.length - s.2).toNat) ⟨Int.le_refl _,Int.le_refl _,by dsimp only; omega,fun y hy=>by cases hy⟩ fun s ⟨s0,s1,s2,s3⟩=>?_) fun x hx=>.ret hx;refine .ite (fun c1=>?_) fun c1=>.ret ⟨by dsimp only; omega,s3⟩;have c1:s.2 < (w.Radio.length:Int):=by simpa using c1
  have hm:Zw (w.Radio.getD s.2.toNat default)=true:=hw _ (ZG (by omega));rw [wrap_i64 (n:=s.2+1) (by omega) (by omega)];refine .gd (by simp) (.gd (by omega) (.bd (Q:=fun _=>True) ⟨_,Qfh (by exact Nat.le_trans ka (by decide)) _,trivial⟩ fun x7 _=>.gd (fun _=>by simp) (.gd (fun _=>by omega) (.bd (Q:=fun _=>True) (.gcall (fun _=>⟨_,Qfh (by exact Nat.le_trans kb (by decide)) _,trivial⟩) fun _=>trivial) fun x10 _=>.ite (fun _=>.gd (by omega) (.gd ?_ (.ret ⟨⟨?_,?_,?_,fun y hy=>?_⟩,?_⟩))) fun _=>.ret ⟨⟨?_,?_,?_,s3⟩,?_⟩))))
  · simp; omega
  · dsimp only; omega
  · simp; omega
  · dsimp only; omega
  · rcases List.mem_append.1 hy with q | q
    · exact s3 y q
    · rw [List.mem_singleton.1 q]; exact hm
  · dsimp only; omega
  · dsimp only; omega
  · dsimp only; omega
  · dsimp only; omega
  · dsimp only; omega
end Go.Proofs.YtjgjdobkahdgfaaGreat
