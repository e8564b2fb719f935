/-
  Plain Lean: worlds of the reference's that are ok stay ok, whatever happens in them.
-/
import Derived.Test.YtjgjdobkahdgfaaGreatKz5
import Derived.Test.YtjgjdobkahdgfaaGreatHelCz
set_option linter.all false
namespace Go.Proofs.YtjgjdobkahdgfaaGreat
open Go Go.Ab
set_option maxHeartbeats 1000000
set_option maxRecDepth 100000
structure Down (e:Qxp):Prop where
  turn:e.Turn=0
  pboot:e.PeerBoot=0
  up:e.Up=false
  num:e.Num=0
  kind:e.Under.Kind=0
  told:e.Told=[]
  all:e.All=false
  got:e.Got=0
  full:e.Full=false
  heard:e.Heard=[]
structure So (s:Qxq):Prop where
  eo:Eo s.End
  down:s.Up=false→Down s.End
structure Two (s t:Qxq):Prop where
  a:So s
  b:So t
  ab:s.End.Name=t.End.Peer
  ba:t.End.Name=s.End.Peer
structure Gw (w:Qxs):Prop where
  two:∃ a b,w.Sides=[a,b]∧Two a b
  len:w.Radio.length≤12
  words:∀ x ∈ w.Radio,Jb x=true
theorem QuF {s:Qxq} (h:So s):QaE s=some true:=by
  have L:=(ZX h.eo).mono (m:=1048576) (by decide);unfold QaE;rw [QlH L.k L.t,JI.2 h.eo,Qb,if_neg (by decide)]
  cases hu:s.Up
  · have d:=h.down hu;rw [d.turn,d.pboot,d.up,d.num,d.kind,d.told,d.all,d.got,d.full,d.heard]
    rfl
  · rfl
theorem QoR {w:Qxs} (h:Gw w):Post (Jf w) fun x=>x=true:=by
  obtain ⟨⟨a,b,hs,t⟩,hl,hw⟩:=h;unfold Jf;rw [hs];refine .gd (fun _=>by simp) (.bd (Q:=fun x=>x=true) (.gcall (fun _=>⟨_,QuF t.a,rfl⟩) fun c=>absurd (by rfl) c) fun x2 h2=>.gd (fun _=>by simp) (.bd (Q:=fun x=>x=true) (.gcall (fun _=>⟨_,QuF t.b,rfl⟩) fun c=>absurd (by rw [h2]; rfl) c) fun x4 h4=>.gd (fun _=>by simp) (.gd (fun _=>by simp) (.gd (fun _=>by simp) (.gd (fun _=>by simp) ?_)))));rw [h2,h4];refine .ite (fun c=>?_) fun _=>.bd (Q:=fun x=>x=Sum.inr ()) ⟨_,QgW w.Radio.length (fun i=>Jb (w.Radio.getD i default)) (.inl ()) (.inr ()) (fun i hi _=>?_) (fun _=>?_),?_⟩ fun x hx=>?_
  · exfalso;have e1:(([a,b]:List Qxq).getD 0 default)=a:=rfl;have e2:(([a,b]:List Qxq).getD 1 default)=b:=rfl;rw [e1,e2] at c;simp only [Bool.or_eq_true,bne_iff_ne,ne_eq,decide_eq_true_eq] at c;have:=t.ab;have:=t.ba;simp at c;omega
  · rw [if_pos (by simp; omega),Qp (by omega),Int.toNat_natCast,QM hi (by omega)];refine (congrArg (fun m=>bd m _) (QoE _)).trans ?_;rw [Qb];show (if (!(Jb (w.Radio.getD i default)))=true then _ else _)=_
    cases Jb (w.Radio.getD i default) <;> rfl
  · rw [if_neg (by simp)]
  · rw [if_pos (Qfs fun i hi=>hw _ (Zo hi))]
  · rw [hx]; exact .ret rfl
theorem QsD {e:Qxp} (h:Eo e):Zg e=some e:=QeD ((ZX h).mono (by decide))
theorem QmH {w:Qxs} (h:Gw w):Qam w=some w:=by
  obtain ⟨⟨a,b,hs,t⟩,hl,hw⟩:=h;obtain ⟨S,R⟩:=w;dsimp only at hs hl;subst hs;have key:Post (Qam ⟨[a,b],R⟩) fun x=>x=⟨[a,b],R⟩:=by
    unfold Qam;refine .gd (by dsimp only; omega) (.bd (Q:=fun x=>x.1=[a,b]) (.lp (fun s=>(s.1=[]∧s.2=0) ∨ (s.1=[a]∧s.2=1) ∨ (s.1=[a,b]∧s.2=2)) (fun s=>(2 - s.2).toNat) (.inl ⟨rfl,rfl⟩) fun s hs=>?_) fun x hx=>.ret (by rw [hx]));obtain ⟨ys,i⟩:=s;rcases hs with ⟨e1,e2⟩ | ⟨e1,e2⟩ | ⟨e1,e2⟩ <;> dsimp only at e1 e2 <;> subst e1 <;> subst e2
    · refine .ite (fun _=>.gd (by simp) (.gd (by simp) ?_)) fun c=>absurd (by rfl) c;refine .bd (Q:=fun x=>x=a.End) ⟨_,QsD t.a.eo,rfl⟩ fun x hx=>.gd (by simp) (.ret ⟨.inr (.inl ⟨?_,rfl⟩),by show (2 - IntKind.i64.wrap ((0:Int)+1)).toNat < (2 - (0:Int)).toNat; decide⟩);rw [hx]; rfl
    · refine .ite (fun _=>.gd (by simp) (.gd (by simp) ?_)) fun c=>absurd (by rfl) c;refine .bd (Q:=fun x=>x=b.End) ⟨_,QsD t.b.eo,rfl⟩ fun x hx=>.gd (by simp) (.ret ⟨.inr (.inr ⟨?_,rfl⟩),by show (2 - IntKind.i64.wrap ((1:Int)+1)).toNat < (2 - (1:Int)).toNat; decide⟩);rw [hx]; rfl
    · refine .ite (fun c=>absurd c (by simp)) fun _=>.ret rfl
  obtain ⟨x,e,rfl⟩:=key;exact e
theorem QvA {w:Qxs} (h:Gw w):QaN w=some w:=QmH h
theorem Qt0 {w:Qxs} (h:Gw w) {x:Qxr} (hx:Jb x=true):Post (JV w x) Gw:=by
  unfold JV;refine .ite (fun c=>.gd ?_ (.ret ⟨h.two,?_,fun y hy=>?_⟩)) fun _=>.ret h
  · have:=h.len;simp; omega
  · simp at c ⊢; omega
  · rcases List.mem_append.1 hy with q | q
    · exact h.words y q
    · rw [List.mem_singleton.1 q]; exact hx
theorem QnK {e:Qxp} (h:Eo e) {w:Qxr}:(helloHear e w).Name=e.Name∧(helloHear e w).Peer=e.Peer:=by
  unfold helloHear;rw [if_pos (JI.2 h)];split
  · obtain ⟨q1,q2,_,_⟩:=Qhs (y:=JB e w) (w:=w);rw [q1,q2];unfold JB;split <;> exact ⟨rfl,rfl⟩
  · exact ⟨rfl,rfl⟩
theorem Qxj {a b:Qxq} {P:Qxq→Int→Prop} (h0:P a 0) (h1:P b 1) {i:Int} (hi:0≤i∧i < 2):P (([a,b]:List Qxq).getD i.toNat default) i:=by
  have:i=0 ∨ i=1:=by omega
  rcases this with e | e <;> subst e
  · exact h0
  · exact h1
theorem QvB {a b:Qxq} (t:Two a b) {i:Int} (hi:0≤i∧i < 2) {s:Qxq} (hs:So s) (hn:s.End.Name=(([a,b]:List Qxq).getD i.toNat default).End.Name) (hp:s.End.Peer=(([a,b]:List Qxq).getD i.toNat default).End.Peer):∃ a' b',([a,b]:List Qxq).set i.toNat s=[a',b']∧Two a' b':=by
  have:i=0 ∨ i=1:=by omega
  rcases this with e | e <;> subst e
  · have hn:s.End.Name=a.End.Name:=hn;have hp:s.End.Peer=a.End.Peer:=hp;exact ⟨s,b,rfl,hs,t.b,by rw [hn]; exact t.ab,by rw [hp]; exact t.ba⟩
  · have hn:s.End.Name=b.End.Name:=hn;have hp:s.End.Peer=b.End.Peer:=hp;exact ⟨a,s,rfl,t.a,hs,by rw [hp]; exact t.ab,by rw [hn]; exact t.ba⟩
theorem QoS {a b:Qxq} (t:Two a b) {i:Int} (hi:0≤i∧i < 2):So (([a,b]:List Qxq).getD i.toNat default):=Qxj (P:=fun s _=>So s) t.a t.b hi
theorem QnL {R:List Qxr} {i:Nat} (hw:∀ x ∈ R,Jb x=true):∀ x ∈ R.take i ++ R.drop (i+1),Jb x=true:=fun x hx=>by
  rcases List.mem_append.1 hx with q | q
  · exact hw x (List.mem_of_mem_take q)
  · exact hw x (List.mem_of_mem_drop q)
theorem QsE {R:List Qxr} {at_:Int} (h:0≤at_∧at_ < (R.length:Int)) (hl:R.length≤12):(R.take at_.toNat) ++ (((R).take ((IntKind.i64.wrap (at_+1)).toNat+(Qdb ((R.length:Nat):Int) (IntKind.i64.wrap (at_+1))))).drop ((IntKind.i64.wrap (at_+1)).toNat))=R.take at_.toNat ++ R.drop (at_.toNat+1):=by
  rw [wrap_i64 (n:=at_+1) (by omega) (by omega),show (at_+1).toNat=at_.toNat+1 by omega];have e1:R.take (at_.toNat+1+Qdb ((R.length:Nat):Int) (at_+1))=R:=List.take_of_length_le (by simp [QW]; omega);rw [e1]
theorem Qra {w:Qxs} (h:Gw w) {at_:Int} (ha:0≤at_∧at_ < (w.Radio.length:Int)):Post (Jv w at_) fun x=>Gw x∧x.Radio.length+1=w.Radio.length:=by
  obtain ⟨⟨a,b,hs,t⟩,hl,hw⟩:=h;obtain ⟨S,R⟩:=w;dsimp only at hs hl ha hw;subst hs;unfold Jv;dsimp only;rw [QsE ha hl,wrap_i64 (n:=at_+1) (by omega) (by omega)];refine .gd ha (.gd (by omega) (.gd (by omega) (.gd (by omega) (.gd ?_ (.bd (Q:=fun x=>∃ a b,x.2=[a,b]∧Two a b) (.lp (fun s=>(∃ a b,s.1=[a,b]∧Two a b)∧0≤s.2∧s.2≤2) (fun s=>(2 - s.2).toNat) ⟨⟨a,b,rfl,t⟩,Int.le_refl _,by show (0:Int)≤2; decide⟩ fun s ⟨⟨c,d,e1,t2⟩,s0,s2⟩=>?_) fun x hx=>.ret ⟨⟨hx,?_,QnL hw⟩,?_⟩)))))
  · simp [QW]; omega
  · obtain ⟨ys,i⟩:=s;dsimp only at e1 s0 s2 ⊢;subst e1;refine .ite (fun c1=>?_) fun c1=>.ret ⟨c,d,rfl,t2⟩;have hi:0≤i∧i < 2:=⟨s0,by simpa using c1⟩;have so:=QoS t2 hi;rw [wrap_i64 (n:=i+1) (by omega) (by omega)];refine .gd (by simp; omega) (.gd (fun _=>by simp; omega) (.ite (fun c2=>.gd (by simp; omega) ?_) fun _=>.ret ⟨⟨⟨c,d,rfl,t2⟩,by dsimp only; omega⟩,by dsimp only; omega⟩));simp only [Bool.and_eq_true] at c2;refine .bd (Q:=fun x=>x=helloHear (([c,d]:List Qxq).getD i.toNat default).End (R.getD at_.toNat default)) ⟨_,QoL ((ZX so.eo).mono (by decide)) _,rfl⟩ fun x hx=>.gd (by simp; omega) (.ret ⟨⟨QvB t2 hi ⟨?_,fun q=>?_⟩ ?_ ?_,by dsimp only; omega⟩,by dsimp only; omega⟩)
    · rw [hx]; exact Qsz so.eo
    · have q:(([c,d]:List Qxq).getD i.toNat default).Up=false:=q;rw [c2.1] at q; cases q
    · rw [hx]; exact (QnK so.eo).1
    · rw [hx]; exact (QnK so.eo).2
  · simp; omega
  · simp; omega
end Go.Proofs.YtjgjdobkahdgfaaGreat
