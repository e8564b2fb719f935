/-
  Plain Lean: what a bridge thinks is the best of what it has heard; in calm all bridges come to take to be so what they should.
-/
import Derived.Test.YtejhbiefhpgjeaaGreatKz5
import Derived.Test.YtejhbiefhpgjeaaGreatTreeKz
set_option linter.all false
namespace Go.Proofs.YtejhbiefhpgjeaaGreat
open Go Go.Ab
set_option maxHeartbeats 400000
structure Cand (w:TreeWorld) (b:Int) (i:Nat) (e:Int):Prop where
  hi:i < w.Links.length
  he:e=0 ∨ e=1
  hb:brAt w i e=b
  non:nothing (slotAt w i e).Vector=false
  age:(slotAt w i e).Vector.Age < 10
  sum:(slotAt w i e).Vector.Cost+(w.Links.getD i default).Cost≤1000
def stOf (w:TreeWorld) (i:Nat) (e:Int):TSt:=⟨(slotAt w i e).Vector.Root,(slotAt w i e).Vector.Cost+(w.Links.getD i default).Cost,(slotAt w i e).Vector.Age+1,i,idAt w (brAt w i (1 - e)).toNat⟩
def KL (a b:TSt):Prop:=a.root < b.root ∨ (a.root=b.root∧(a.cost < b.cost ∨ (a.cost=b.cost∧(a.id < b.id ∨ (a.id=b.id∧a.link≤b.link)))))
def tst0 (w:TreeWorld) (b:Int):TSt:=⟨(w.Bridges.getD b.toNat default).Id,0,0,-1,0⟩
structure Bst (w:TreeWorld) (b:Int) (j:Int) (d:Nat→Int→Prop) (s:TSt):Prop where
  src:s=tst0 w b ∨ ∃ i e,Cand w b i e∧s=stOf w i e
  self:KL s (tst0 w b)
  best:∀ i e,d i e→Cand w b i e→KL s (stOf w i e)
  link:s.link≤j
theorem bst_end {w:TreeWorld} {b:Int} {j:Nat} {d:Nat→Int→Prop} {s:TSt} {e:Nat} (he:e=0 ∨ e=1) (hj:j < w.Links.length) (h:Bst w b j d s):Bst w b j (fun i x=>d i x ∨ (i=j∧x=(e:Int))) (endStep w b j s e):=by
  unfold endStep
  by_cases hb:brAt w j (e:Int)=b
  · rw [if_pos hb];unfold cand
    by_cases c1:((nothing (slotAt w j (e:Int)).Vector || decide ((slotAt w j (e:Int)).Vector.Age ≥ 10)) || decide ((slotAt w j (e:Int)).Vector.Cost+(w.Links.getD j default).Cost > 1000))=true
    · rw [if_pos c1];refine ⟨h.src,h.self,fun i x hd hc=>?_,h.link⟩;rcases hd with hd | ⟨rfl,rfl⟩
      · exact h.best i x hd hc
      · exfalso;have h1:=hc.non;have h2:=hc.age;have h3:=hc.sum;rw [h1,Bool.false_or,Bool.or_eq_true,decide_eq_true_eq,decide_eq_true_eq] at c1;omega
    · rw [if_neg c1];have c1':=Bool.eq_false_iff.2 c1;rw [Bool.or_eq_false_iff,Bool.or_eq_false_iff,decide_eq_false_iff_not,decide_eq_false_iff_not] at c1';have hc:Cand w b j e:=⟨hj,by omega,hb,c1'.1.1,by omega,by omega⟩
      by_cases c2:(slotAt w j (e:Int)).Vector.Root < s.root ∨ ((slotAt w j (e:Int)).Vector.Root=s.root∧((slotAt w j (e:Int)).Vector.Cost+(w.Links.getD j default).Cost < s.cost ∨ ((slotAt w j (e:Int)).Vector.Cost+(w.Links.getD j default).Cost=s.cost∧(w.Bridges.getD (brAt w j (1 - (e:Int))).toNat default).Id < s.id)))
      · rw [if_pos c2];have hs:=h.self;refine ⟨.inr ⟨j,e,hc,rfl⟩,?_,fun i x hd hc2=>?_,Int.le_refl _⟩
        · unfold KL at hs ⊢;dsimp only;omega
        · rcases hd with hd | ⟨rfl,rfl⟩
          · have hx:=h.best i x hd hc2;unfold KL at hx ⊢;dsimp only;omega
          · exact .inr ⟨rfl,.inr ⟨rfl,.inr ⟨rfl,Int.le_refl _⟩⟩⟩
      · rw [if_neg c2];refine ⟨h.src,h.self,fun i x hd hc2=>?_,h.link⟩;rcases hd with hd | ⟨rfl,rfl⟩
        · exact h.best i x hd hc2
        · have hl:=h.link;unfold KL stOf idAt;dsimp only;omega
  · rw [if_neg hb];refine ⟨h.src,h.self,fun i x hd hc=>?_,h.link⟩;rcases hd with hd | ⟨rfl,rfl⟩
    · exact h.best i x hd hc
    · exact absurd hc.hb hb
theorem think_best (w:TreeWorld) (b:Int):Bst w b w.Links.length (fun _ _=>True) (thinkSt w b):=by
  have key:∀ j,j≤w.Links.length→Bst w b ((j:Int) - 1) (fun i _=>i < j) ((List.range j).foldl (linkStep w b) (tst0 w b)):=by
    intro j
    induction j with
    | zero=>exact fun _=>⟨.inl rfl,.inr ⟨rfl,.inr ⟨rfl,.inr ⟨rfl,Int.le_refl _⟩⟩⟩,fun i _ hd=>absurd hd (Nat.not_lt_zero _),(show (-1:Int)≤((0:Nat):Int) - 1 by decide)⟩
    | succ j ih =>
      intro hj;have i1:=ih (by omega);rw [List.range_succ,List.foldl_append];show Bst w b _ _ (endStep w b j (endStep w b j _ 0) 1);have i2:Bst w b j (fun i _=>i < j) ((List.range j).foldl (linkStep w b) (tst0 w b)):=⟨i1.src,i1.self,i1.best,by have:=i1.link; omega⟩;have i3:=bst_end (.inr rfl) (by omega) (bst_end (.inl rfl) (by omega) i2);refine ⟨i3.src,i3.self,fun i e hd hc=>i3.best i e ?_ hc,by have:=i3.link; omega⟩
      by_cases c:i=j
      · rcases hc.he with rfl | rfl
        · exact .inl (.inr ⟨c,rfl⟩)
        · exact .inr ⟨c,rfl⟩
      · exact .inl (.inl (by omega))
  have k:=key _ (Nat.le_refl _);have kl:(thinkSt w b).link≤(w.Links.length:Int) - 1:=k.link;exact ⟨k.src,k.self,fun i e _ hc=>k.best i e hc.hi hc,by omega⟩
structure Tgt (w:TreeWorld) (D:List Int) (v:Nat) (i:Nat) (e:Int):Prop where
  hi:i < w.Links.length
  he:e=0 ∨ e=1
  op:isOpen w i=true
  hb:brAt w i e=(v:Int)
  eq:D.getD (brAt w i (1 - e)).toNat default+(w.Links.getD i default).Cost=D.getD v default
def Fst (w:TreeWorld) (s:Up) (i:Nat) (e:Int):Prop:=0≤s.link∧(idAt w s.next.toNat < idAt w (brAt w i (1 - e)).toNat ∨ (idAt w s.next.toNat=idAt w (brAt w i (1 - e)).toNat∧s.link≤i))
theorem fst_end {w:TreeWorld} {D:List Int} {v j:Nat} {d:Nat→Int→Prop} {s:Up} {e:Nat} (hs:s.link≤j) (h:∀ i x,d i x→Tgt w D v i x→Fst w s i x) :
    (upEnd w D v j s e).link≤j∧∀ i x,(d i x ∨ (i=j∧x=(e:Int)))→Tgt w D v i x→Fst w (upEnd w D v j s e) i x:=by
  unfold upEnd
  by_cases c:isOpen w j=true∧brAt w j (e:Int)=(v:Int)∧D.getD (brAt w j (1 - (e:Int))).toNat default+(w.Links.getD j default).Cost=D.getD v default∧(s.link < 0 ∨ idAt w (brAt w j (1 - (e:Int))).toNat < idAt w s.next.toNat)
  · rw [if_pos c];refine ⟨Int.le_refl _,fun i x hd ht=>?_⟩;rcases hd with hd | ⟨rfl,rfl⟩
    · have:=h i x hd ht;unfold Fst at this ⊢;dsimp only;refine ⟨by omega,?_⟩;rcases c.2.2.2 with c2 | c2
      · omega
      · left; omega
    · exact ⟨by dsimp only; omega,.inr ⟨rfl,Int.le_refl _⟩⟩
  · rw [if_neg c];refine ⟨hs,fun i x hd ht=>?_⟩;rcases hd with hd | ⟨rfl,rfl⟩
    · exact h i x hd ht
    · have n1:¬ s.link < 0:=fun hh=>c ⟨ht.op,ht.hb,ht.eq,.inl hh⟩;have n2:¬ idAt w (brAt w i (1 - (e:Int))).toNat < idAt w s.next.toNat:=fun hh=>c ⟨ht.op,ht.hb,ht.eq,.inr hh⟩;unfold Fst;omega
theorem up_first {w:TreeWorld} {D:List Int} {v i:Nat} {e:Int} (ht:Tgt w D v i e):Fst w (upOf w D v) i e:=by
  have key:∀ j,((List.range j).foldl (upStep w D v) ⟨-1,-1⟩).link≤(j:Int) - 1∧∀ i x,i < j→Tgt w D v i x→Fst w ((List.range j).foldl (upStep w D v) ⟨-1,-1⟩) i x:=by
    intro j
    induction j with
    | zero=>exact ⟨(show (-1:Int)≤((0:Nat):Int) - 1 by decide),fun i _ hd=>absurd hd (Nat.not_lt_zero _)⟩
    | succ j ih =>
      obtain ⟨i1,i2⟩:=ih;rw [List.range_succ,List.foldl_append];show (upEnd w D v j (upEnd w D v j _ 0) 1).link≤_∧∀ i x,_→_→Fst w (upEnd w D v j (upEnd w D v j _ 0) 1) i x;obtain ⟨a1,a2⟩:=fst_end (e:=0) (d:=fun i _=>i < j) (j:=j) (by omega) i2;obtain ⟨b1,b2⟩:=fst_end (e:=1) a1 a2;refine ⟨by omega,fun i x hd hx=>b2 i x ?_ hx⟩
      by_cases c:i=j
      · rcases hx.he with rfl | rfl
        · exact .inl (.inr ⟨c,rfl⟩)
        · exact .inr ⟨c,rfl⟩
      · exact .inl (.inl (by omega))
  exact (key _).2 i e ht.hi ht
def Hon (w:TreeWorld) (b:Nat) (x:TreeVector):Prop:=∃ r,r < w.Bridges.length∧x.Root=idAt w r∧((netOf w).costs r).getD b default < far∧((netOf w).costs r).getD b default≤x.Cost
theorem tri {w:TreeWorld} (hw:WOk w) {i:Nat} (hi:i < w.Links.length) (ho:isOpen w i=true) {e:Int} (he:e=0 ∨ e=1) {r:Nat} (hr:r < w.Bridges.length) :
    ((netOf w).costs r).getD (brAt w i e).toNat default≤((netOf w).costs r).getD (brAt w i (1 - e)).toNat default+(w.Links.getD i default).Cost:=by
  have st:=(netOf w).stable_ab (netOk hw) Net.after_len ((netOf w).final (netOk hw) (r:=r) hr) hi ho;have ea:(netOf w).a i=(w.Links.getD i default).A.toNat:=rfl;have eb:(netOf w).b i=(w.Links.getD i default).B.toNat:=rfl;have ec:(netOf w).c i=(w.Links.getD i default).Cost:=rfl;rw [ea,eb,ec] at st;rcases he with rfl | rfl
  · exact st.1
  · exact st.2
theorem near_small {w:TreeWorld} (hw:WOk w) {r b:Nat} (hr:r < w.Bridges.length) (hb:b < w.Bridges.length) (h:((netOf w).costs r).getD b default < far):0≤((netOf w).costs r).getD b default∧((netOf w).costs r).getD b default≤4800:=by
  have hl:((netOf w).costs r).length=w.Bridges.length:=Net.after_len;have hB:=bd_get (costs_bd hw hr) (v:=b) (by omega);omega
theorem Hon.step {w:TreeWorld} (hw:WOk w) {i:Nat} (hi:i < w.Links.length) (ho:isOpen w i=true) {e:Int} (he:e=0 ∨ e=1) {x:TreeVector} (h:Hon w (brAt w i (1 - e)).toNat x) (g:Int):Hon w (brAt w i e).toNat ⟨x.Root,x.Cost+(w.Links.getD i default).Cost,g⟩:=by
  obtain ⟨r,h1,h2,h3,h4⟩:=h;have t:=tri hw hi ho he h1;have hl:=linkAt hw.link hi;have b1:=brAt_in hw hi (1 - e);have s:=near_small hw h1 (b:=(brAt w i (1 - e)).toNat) (by omega) h3;have far_:far=1073741824:=rfl;exact ⟨r,h1,h2,by omega,by dsimp only; omega⟩
theorem id_pos {w:TreeWorld} (hw:WOk w) {b:Nat} (hb:b < w.Bridges.length):1≤idAt w b:=(bridge_iff.1 (hw.br b hb)).1.1
def φ1 (w:TreeWorld) (k:Nat) (i:Nat) (e:Int) (x:TreeVector):Prop:=nothing x=false→x.Age < k→Hon w (brAt w i (1 - e)).toNat x
theorem Calm.open {w v:TreeWorld} (h:Calm True 0 w v) {i:Nat} (hi:i < w.Links.length) {e:Int} (he:e=0 ∨ e=1) (hn:nothing (slotAt v i e).Vector=false):isOpen w i=true:=by
  cases ho:isOpen w i
  · have h1:=h.cl i e hi he ho;have h2:=slotLeft (h.nt.k.g.wok.slot (i:=i) (by rw [h.nt.l]; exact hi) e);rw [hn] at h2;have:(slotAt v i e).Left=0:=by omega
    rw [this] at h2;exact absurd h2.2.2 (by decide)
  · rfl
theorem think_hon {w v:TreeWorld} (hw:WOk w) (h:Calm True 0 w v) {k:Nat} (hs:Sl (φ1 w k) w v) {b:Nat} (hb:b < w.Bridges.length) (ha:(thinkSt v b).age < (k+1:Nat)):Hon w b ⟨(thinkSt v b).root,(thinkSt v b).cost,(thinkSt v b).age⟩:=by
  have far_:far=1073741824:=rfl;rcases (think_best v b).src with e0 | ⟨i,e,hc,e0⟩
  · rw [e0];refine ⟨b,hb,?_,by rw [cost_root hw hb]; omega,by rw [cost_root hw hb]; exact Int.le_refl _⟩;have:=h.nt.id b;unfold idAt at this;unfold tst0 idAt;dsimp only;rw [Int.toNat_natCast,this]
  · rw [e0] at ha ⊢;have hi:i < w.Links.length:=by rw [← h.nt.l]; exact hc.hi
    have ho:=h.open hi hc.he hc.non;have hh:=hs i e hi hc.he ho hc.non (by unfold stOf at ha; dsimp only at ha; omega);have hbr:=hc.hb;rw [h.nt.br] at hbr;have:=hh.step hw hi ho hc.he ((slotAt v i e).Vector.Age+1);rw [hbr,Int.toNat_natCast] at this;unfold stOf;rw [h.nt.k.s.links];exact this
theorem says_think {w v:TreeWorld} (h:Calm True 0 w v) {k:Nat} {e:Int} (hk:k < w.Links.length) (ho:isOpen w k=true) (hw:WOk w) :
    ((brAt w k (1 - e)).toNat < w.Bridges.length)∧(v.Bridges.getD (brAt v k (1 - e)).toNat default).Mind=think v ((brAt w k (1 - e)).toNat:Nat):=by
  have hb:=brAt_in hw hk (1 - e);refine ⟨by omega,?_⟩;rw [h.nt.br];refine h.th trivial _ (by rw [h.nt.k.s.n]; omega) ?_;have:=open_up ho (1 - e);rw [← h.nt.up] at this;exact this
theorem says1 {w:TreeWorld} (hw:WOk w) (k:Nat):Says True 0 (φ1 w k) (φ1 w (k+1)) w:=by
  intro v h hs i e hi he ho;obtain ⟨hb,hm⟩:=says_think (e:=e) h hi ho hw;intro _ ha;rw [hm] at ha ⊢;exact think_hon hw h hs hb ha
def rk (w:TreeWorld) (r v:Nat):Nat:=cntN (fun u=>decide (((netOf w).costs r).getD u default < ((netOf w).costs r).getD v default)) w.Bridges.length
theorem rk_lt {w:TreeWorld} {r u v:Nat} (hu:u < w.Bridges.length) (h:((netOf w).costs r).getD u default < ((netOf w).costs r).getD v default):rk w r u < rk w r v :=
  cntN_lt (fun x _ hh=>by simp only [decide_eq_true_eq] at hh ⊢; omega) hu (by simp only [decide_eq_true_eq]; exact h) (by simp)
theorem rk_8 {w:TreeWorld} (hw:WOk w) {r v:Nat} (hv:v < w.Bridges.length):rk w r v≤7:=by
  have h8:=bridgesLen hw;have:rk w r v < w.Bridges.length:=cnt_lt hv;omega
theorem short {w:TreeWorld} (hw:WOk w) (hd:w.Down.length≤9223372036854775807) {r:Nat} (hr:r < w.Bridges.length):∀ (k:Nat) {v:Nat},v < w.Bridges.length→J w r v→rk w r v≤k→stepsOf w r v≤k∧((netOf w).costs r).getD v default≤50*(k:Int)
  | k,v,hv,hn,hk=>by
    by_cases e:v=r
    · subst e;rw [steps_root,cost_root hw hv];omega
    · obtain ⟨u1,u2,u3,u4,u5,u6⟩:=up_next hw hr hv e hn;have hl:=rk_lt (w:=w) (r:=r) (u:=(upOf w ((netOf w).costs r) v).next.toNat) (v:=v) (by omega) u5;have nn:J w r (upOf w ((netOf w).costs r) v).next.toNat:=by unfold J at hn ⊢; omega
      have t:=(upOf_tight (w:=w) ((netOf w).costs r) v u1).2;have lc:=linkAt hw.link (i:=(upOf w ((netOf w).costs r) v).link.toNat) (by omega);rw [steps_next hw hd hr hv e hn]
      match k,hk with
      | 0,hk=>omega
      | k+1,hk =>
        have ih:=short hw hd hr k (v:=(upOf w ((netOf w).costs r) v).next.toNat) (by omega) nn (by omega);omega
noncomputable def φ2 (w:TreeWorld) (j:Nat) (i:Nat) (e:Int) (x:TreeVector):Prop:=(nothing x=false→Hon w (brAt w i (1 - e)).toNat x)∧(rk w (rootOf w (brAt w i (1 - e)).toNat) (brAt w i (1 - e)).toNat < j→x=(mindOf w (brAt w i (1 - e)).toNat).Vector)
theorem think_right {w v:TreeWorld} (hw:WOk w) (hd:w.Down.length≤9223372036854775807) (h:Calm True 0 w v) {j:Nat} (hs:Sl (φ2 w j) w v) {b:Nat} (hb:b < w.Bridges.length) (hj:rk w (rootOf w b) b < j+1):think v (b:Int)=mindOf w b:=by
  have far_:far=1073741824:=rfl;obtain ⟨r1,r2⟩:=root_J hw hb;have rb:J w (rootOf w b) b:=r2.symm hw hb r1;have ids:∀ c,idAt v c=idAt w c:=h.nt.id;have T:=think_best v (b:Int)
  -- what is heard is not better than it should be
  have low:∀ x:TreeVector,Hon w b x→idAt w (rootOf w b)≤x.Root∧(x.Root=idAt w (rootOf w b)→((netOf w).costs (rootOf w b)).getD b default≤x.Cost):=by
    intro x hx;obtain ⟨r,h1,h2,h3,h4⟩:=hx;have jr:J w b r:=J.symm hw h1 hb h3;refine ⟨by rw [h2]; exact root_least h1 jr,fun e=>?_⟩;have:r=rootOf w b:=ids_inj hw h1 r1 (by rw [← h2,e]);rw [← this]; exact h4
  -- nearer ones say what they should
  have near_:∀ i e,Cand v b i e→i < w.Links.length∧isOpen w i=true∧Hon w (brAt w i (1 - e)).toNat (slotAt v i e).Vector∧brAt w i e=(b:Int)∧(brAt w i (1 - e)).toNat < w.Bridges.length∧Hon w b ⟨(stOf v i e).root,(stOf v i e).cost,0⟩∧(stOf v i e).cost=(slotAt v i e).Vector.Cost+(w.Links.getD i default).Cost:=by
    intro i e hc;have hi:i < w.Links.length:=by rw [← h.nt.l]; exact hc.hi
    have ho:=h.open hi hc.he hc.non;have hh:=(hs i e hi hc.he ho).1 hc.non;have hbr:=hc.hb;rw [h.nt.br] at hbr;have hin:=brAt_in hw hi (1 - e);have st:=hh.step hw hi ho hc.he 0;rw [hbr,Int.toNat_natCast] at st;have ec:(stOf v i e).cost=(slotAt v i e).Vector.Cost+(w.Links.getD i default).Cost:=by unfold stOf; rw [h.nt.k.s.links]
    refine ⟨hi,ho,hh,hbr,by omega,?_,ec⟩;rw [ec];exact st
  have told:∀ i e,i < w.Links.length→(e=0 ∨ e=1)→isOpen w i=true→(brAt w i (1 - e)).toNat < w.Bridges.length→((netOf w).costs (rootOf w b)).getD (brAt w i (1 - e)).toNat default < ((netOf w).costs (rootOf w b)).getD b default →
      (slotAt v i e).Vector=⟨idAt w (rootOf w b),((netOf w).costs (rootOf w b)).getD (brAt w i (1 - e)).toNat default,stepsOf w (rootOf w b) (brAt w i (1 - e)).toNat⟩:=by
    intro i e hi he ho hin hlt;have ju:J w (rootOf w b) (brAt w i (1 - e)).toNat:=by unfold J at rb ⊢; omega
    have re:rootOf w (brAt w i (1 - e)).toNat=rootOf w b:=(root_eq hw hb hin (r2.trans hw hb r1 hin ju)).symm;have:=(hs i e hi he ho).2 (by rw [re]; have:=rk_lt (w:=w) (r:=rootOf w b) hin hlt; omega);rw [this];unfold mindOf;dsimp only;rw [re]
  have z0:tst0 v b=⟨idAt w b,0,0,-1,0⟩:=by
    have:=ids b;unfold idAt at this;unfold tst0 idAt;rw [Int.toNat_natCast,this]
  by_cases e0:b=rootOf w b
  · have c0:((netOf w).costs (rootOf w b)).getD b default=0:=by rw [← e0]; exact cost_root hw hb
    have hst:thinkSt v b=⟨idAt w b,0,0,-1,0⟩:=by
      rcases T.src with e1 | ⟨i,e,hc,e1⟩
      · rw [e1,z0]
      · exfalso;obtain ⟨hi,ho,hh,hbr,hin,st,ec⟩:=near_ i e hc;have k:=T.self;rw [e1,z0] at k;have l:=low _ st;rw [c0,← e0] at l;have ip:=id_pos hw hin;have ie:(stOf v i e).id=idAt w (brAt w i (1 - e)).toNat:=by unfold stOf; dsimp only; rw [h.nt.br,ids]
        unfold KL at k;dsimp only at k l;rw [ie] at k;omega
    unfold think mindOf;rw [hst,if_pos e0,c0,← e0,steps_root]
    rfl
  · obtain ⟨u1,u2,u3,u4,u5,u6⟩:=up_next hw r1 hb e0 rb;obtain ⟨t1,t2⟩:=upOf_tight (w:=w) ((netOf w).costs (rootOf w b)) b u1;have stp:=steps_next hw hd r1 hb e0 rb;have sh:=short hw hd r1 7 hb rb (rk_8 hw hb);generalize hU:upOf w ((netOf w).costs (rootOf w b)) b=U at *;obtain ⟨l,hl⟩:∃ l:Nat,U.link=l:=⟨U.link.toNat,by omega⟩;obtain ⟨u,hu⟩:∃ u:Nat,U.next=u:=⟨U.next.toNat,by omega⟩;rw [hl,Int.toNat_natCast] at u6 t1 t2;rw [hu,Int.toNat_natCast] at u5 t2 stp;rw [hu] at u6;have hll:l < w.Links.length:=by omega
    have lk:=linkAt hw.link hll;obtain ⟨e,he,hb1,hb2⟩:∃ e:Int,(e=0 ∨ e=1)∧brAt w l e=(b:Int)∧brAt w l (1 - e)=(u:Int):=by
      unfold othOf at u6
      by_cases c1:(b:Int)=(w.Links.getD l default).A
      · rw [if_pos c1] at u6;exact ⟨0,.inl rfl,c1.symm,u6⟩
      · rw [if_neg c1] at u6
        by_cases c2:(b:Int)=(w.Links.getD l default).B
        · rw [if_pos c2] at u6;exact ⟨1,.inr rfl,c2.symm,u6⟩
        · rw [if_neg c2] at u6; omega
    have e2n:(brAt w l (1 - e)).toNat=u:=by rw [hb2]; exact Int.toNat_natCast u
    have hun:u < w.Bridges.length:=by omega
    have sl:=told l e hll he t1 (by rw [e2n]; exact hun) (by rw [e2n]; exact u5);rw [e2n] at sl;have ip:=id_pos hw r1;have cu:Cand v b l e:=⟨by rw [h.nt.l]; exact hll,he,by rw [h.nt.br]; exact hb1,by
      rw [sl]; unfold nothing; dsimp only;rw [Bool.and_eq_false_iff]; left; rw [beq_eq_false_iff_ne]; omega,by rw [sl]; dsimp only; omega,by rw [sl,h.nt.k.s.links]; dsimp only; omega⟩
    have su:stOf v l e=⟨idAt w (rootOf w b),((netOf w).costs (rootOf w b)).getD b default,stepsOf w (rootOf w b) u+1,l,idAt w u⟩:=by
      unfold stOf;rw [sl,h.nt.k.s.links,h.nt.br,e2n,ids];dsimp only;rw [t2]
    have kb:=T.best l e trivial cu;have hst:thinkSt v b=stOf v l e:=by
      rcases T.src with e1 | ⟨i,e',hc,e1⟩
      · exfalso;rw [e1,z0,su] at kb;have rl:=root_least hb (J.refl hw hb);have ne:idAt w b ≠ idAt w (rootOf w b):=fun hh=>e0 (ids_inj hw hb r1 hh);unfold KL at kb;dsimp only at kb;omega
      · obtain ⟨hi,ho,hh,hbr,hin,st,ec⟩:=near_ i e' hc;rw [e1,su] at kb;have lw:=low _ st;have ie:(stOf v i e').id=idAt w (brAt w i (1 - e')).toNat:=by unfold stOf; dsimp only; rw [h.nt.br,ids]
        have lc:=linkAt hw.link hi;have il:(stOf v i e').link=i:=rfl;have ir:(stOf v i e').root=(slotAt v i e').Vector.Root:=rfl;unfold KL at kb;dsimp only at kb lw;have er:(stOf v i e').root=idAt w (rootOf w b):=by omega
        have lw2:=lw.2 er;obtain ⟨q,q1,q2,q3,q4⟩:=hh;have qe:q=rootOf w b:=ids_inj hw q1 r1 (by rw [← q2,← ir,er]);rw [qe] at q3 q4;have tr:=tri hw hi ho hc.he r1;rw [hbr,Int.toNat_natCast] at tr;have tg:Tgt w ((netOf w).costs (rootOf w b)) b i e':=⟨hi,hc.he,ho,hbr,by omega⟩;have fs:=up_first tg;rw [hU] at fs;unfold Fst at fs;rw [hl,hu,Int.toNat_natCast] at fs;rw [ie,il] at kb;have eil:i=l:=by omega
        have eid:idAt w (brAt w i (1 - e')).toNat=idAt w u:=by omega
        have eo:(brAt w i (1 - e')).toNat=u:=ids_inj hw hin hun eid;have ee:e'=e:=by
          rw [eil] at hbr eo;have h1:=hc.he;have bA:brAt w l 0=(w.Links.getD l default).A:=rfl;have bB:brAt w l 1=(w.Links.getD l default).B:=rfl;rcases h1 with rfl | rfl <;> rcases he with rfl | rfl
          · rfl
          · omega
          · omega
          · rfl
        rw [e1,eil,ee]
    unfold think mindOf;rw [hst,su,if_neg e0,hU,hl,stp]
    rfl
theorem says2 {w:TreeWorld} (hw:WOk w) (hd:w.Down.length≤9223372036854775807) (j:Nat):Says True 0 (φ2 w j) (φ2 w (j+1)) w:=by
  intro v h hs i e hi he ho;obtain ⟨hb,hm⟩:=says_think (e:=e) h hi ho hw;rw [hm];refine ⟨fun _=>?_,fun hr=>?_⟩
  · refine think_hon hw h (k:=11) (fun i e hi he ho hn ha=>(hs i e hi he ho).1 hn) hb ?_;have:=(think_in h.nt.k.g.wok (i0:=((brAt w i (1 - e)).toNat:Nat)) (by rw [h.nt.k.s.n]; omega)).2.2.1;omega
  · rw [think_right hw hd h hs hb hr]
structure Right (w v:TreeWorld):Prop where
  calm:Calm True 0 w v
  sl:Sl (φ2 w 8) w v
theorem Right.round {w v:TreeWorld} (hw:WOk w) (hd:w.Down.length≤9223372036854775807) (h:Right w v) (t:Nat):Right w (roundR t v):=by
  have mono:∀ j i e x,φ2 w (j+1) i e x→φ2 w j i e x:=fun j i e x hx=>⟨hx.1,fun hr=>hx.2 (by omega)⟩;have key:=round_dn (mono 8) (says2 hw hd 8) (by decide:(0:Int)≤0) (by decide) (by rw [drain_nil h.calm.rd]; exact h.calm) (by rw [drain_nil h.calm.rd]; exact h.sl) t;exact ⟨key.1,fun i e hi he ho=>mono 8 i e _ (key.2 i e hi he ho)⟩
theorem Right.more {w v:TreeWorld} (hw:WOk w) (hd:w.Down.length≤9223372036854775807) (h:Right w v) (t:Nat):∀ n,Right w (itN (roundR t) n v)
  | 0=>h
  | n+1=>(Right.more hw hd h t n).round hw hd t
theorem Right.mind {w v:TreeWorld} (hw:WOk w) (hd:w.Down.length≤9223372036854775807) (h:Right w v) {b:Nat} (hb:b < w.Bridges.length) (hu:(w.Bridges.getD b default).Up=true):(v.Bridges.getD b default).Mind=mindOf w b:=by
  have hu2:(v.Bridges.getD b default).Up=true:=by
    have:=h.calm.nt.up (b:Int);unfold upAt at this;rw [Int.toNat_natCast] at this;rw [this]; exact hu
  rw [h.calm.th trivial b (by rw [h.calm.nt.k.s.n]; exact hb) hu2];exact think_right hw hd h.calm h.sl hb (by have:=rk_8 hw (r:=rootOf w b) hb; omega)
theorem calm_right {w v:TreeWorld} (hw:WOk w) (hd:w.Down.length≤9223372036854775807) (h:Nt w v) (t:Nat) {n:Nat} (hn:22≤n):Right w (itN (roundR t) n v):=by
  have c3:=three h t;obtain ⟨c14,s14⟩:=rounds_dn (φ1 w) (fun j i e x hx h1 h2=>hx h1 (by omega)) (says1 hw) c3 (fun i e hi he ho _ ha=>by
    have hv:=vec_in (c3.nt.k.g.wok.vec (i:=i) (by rw [c3.nt.l]; exact hi) e);omega) t 11
  have s0:Sl (φ2 w 0) w (itN (roundR t) 11 (itN (roundR t) 3 v)):=fun i e hi he ho=>⟨fun hn=>s14 i e hi he ho hn (by
    have hv:=vec_in (c14.nt.k.g.wok.vec (i:=i) (by rw [c14.nt.l]; exact hi) e);omega),fun hr=>absurd hr (Nat.not_lt_zero _)⟩
  obtain ⟨c22,s22⟩:=rounds_dn (φ2 w) (fun j i e x hx=>⟨hx.1,fun hr=>hx.2 (by omega)⟩) (says2 hw hd) c14 s0 t 8;have r22:Right w (itN (roundR t) 22 v):=by
    have e:itN (roundR t) 22 v=itN (roundR t) 8 (itN (roundR t) 11 (itN (roundR t) 3 v)):=by rw [← itN_add,← itN_add]
    rw [e];exact ⟨c22,s22⟩
  have:=r22.more hw hd t (n - 22);rw [← itN_add,show 22+(n - 22)=n by omega] at this;exact this
end Go.Proofs.YtejhbiefhpgjeaaGreat
