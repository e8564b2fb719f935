/-
  Plain Lean: who is joined with whom; what should be taken to be so, said outright.
-/
import Derived.Test.YtejhbiefhpgjeaaGreatKz5
import Derived.Test.YtejhbiefhpgjeaaGreatTreeB3z
import Derived.Test.YtejhbiefhpgjeaaGreatTreeB2iz
set_option linter.all false
namespace Go.Proofs.YtejhbiefhpgjeaaGreat
open Go Go.Ab
set_option maxHeartbeats 400000
def J (w:TreeWorld) (u v:Nat):Prop:=((netOf w).costs u).getD v default < far
theorem cost_root {w:TreeWorld} (hw:WOk w) {r:Nat} (hr:r < w.Bridges.length):((netOf w).costs r).getD r default=0:=((netOf w).inv_after (netOk hw) (r:=r) (k:=(netOf w).n) hr).root
theorem netBig {w:TreeWorld} (hw:WOk w):(netOf w).n*(netOf w).m≤1000:=Nat.le_trans (netSize hw) (by decide)
theorem J.refl {w:TreeWorld} (hw:WOk w) {u:Nat} (hu:u < w.Bridges.length):J w u u:=by
  unfold J; rw [cost_root hw hu]; decide
theorem J.symm {w:TreeWorld} (hw:WOk w) {u v:Nat} (hu:u < w.Bridges.length) (hv:v < w.Bridges.length) (h:J w u v):J w v u :=
  (netOf w).back (netOk hw) (netBig hw) (r:=u) (s:=v) hu hv (v:=v) hv h (J.refl hw hv)
theorem J.trans {w:TreeWorld} (hw:WOk w) {u v x:Nat} (hu:u < w.Bridges.length) (hv:v < w.Bridges.length) (hx:x < w.Bridges.length) (h:J w u v) (k:J w v x):J w u x :=
  (netOf w).back (netOk hw) (netBig hw) (r:=x) (s:=u) hx hu (v:=v) hv (k.symm hw hv hx) h
theorem J.link {w:TreeWorld} (hw:WOk w) {i:Nat} (hi:i < w.Links.length) (ho:isOpen w i=true):J w (w.Links.getD i default).A.toNat (w.Links.getD i default).B.toNat:=by
  have hl:=linkAt hw.link hi;have ha:(w.Links.getD i default).A.toNat < w.Bridges.length:=by omega
  have e:othOf w (w.Links.getD i default).A.toNat i=(w.Links.getD i default).B:=if_pos (by omega);have:=near_other hw (r:=(w.Links.getD i default).A.toNat) ha (v:=(w.Links.getD i default).A.toNat) ha hi ho (by omega) (J.refl hw ha);rw [e] at this;exact this
theorem least_le {w:TreeWorld} {D:List Int} {b:Nat}:∀ {j v:Nat},v < j→near (D.getD v default)=true→idAt w ((List.range j).foldl (leastStep w D) b)≤idAt w v
  | 0,_,h,_=>absurd h (Nat.not_lt_zero _)
  | j+1,v,h,hn=>by
    rw [List.range_succ,List.foldl_append];show idAt w (leastStep w D ((List.range j).foldl (leastStep w D) b) j)≤_;generalize hx:(List.range j).foldl (leastStep w D) b=x;unfold leastStep
    by_cases e:v=j
    · subst e;split
      · omega
      · rename_i hh;exact Int.not_lt.1 fun hl=>hh ⟨hn,hl⟩
    · have:=least_le (w:=w) (D:=D) (b:=b) (j:=j) (v:=v) (by omega) hn;rw [hx] at this;split
      · omega
      · exact this
theorem root_least {w:TreeWorld} {b v:Nat} (hv:v < w.Bridges.length) (h:J w b v):idAt w (rootOf w b)≤idAt w v:=least_le hv (decide_eq_true h)
theorem root_J {w:TreeWorld} (hw:WOk w) {b:Nat} (hb:b < w.Bridges.length):rootOf w b < w.Bridges.length∧J w b (rootOf w b):=by
  obtain ⟨h1,h2⟩:=rootOf_in hw hb;exact ⟨h1,of_decide_eq_true (p:=((netOf w).costs b).getD (rootOf w b) default < far) h2⟩
theorem ids_inj {w:TreeWorld} (hw:WOk w) {i k:Nat} (hi:i < w.Bridges.length) (hk:k < w.Bridges.length) (e:idAt w i=idAt w k):i=k:=by
  have key:∀ {i k:Nat},i < k→k < w.Bridges.length→idAt w i ≠ idAt w k:=fun {i k} h hk e=>by
    have:=hw.br k hk;simp only [bridgeOk,Bool.and_eq_true] at this;have:=allR_get this.1.2 h;unfold idAt at e;rw [e] at this;simp at this
  rcases Nat.lt_trichotomy i k with h | h | h
  · exact absurd e (key h hk)
  · exact h
  · exact absurd e.symm (key h hi)
theorem root_eq {w:TreeWorld} (hw:WOk w) {i k:Nat} (hi:i < w.Bridges.length) (hk:k < w.Bridges.length) (h:J w i k):rootOf w i=rootOf w k:=by
  obtain ⟨a1,a2⟩:=root_J hw hi;obtain ⟨b1,b2⟩:=root_J hw hk;refine ids_inj hw a1 b1 (Int.le_antisymm (root_least b1 (h.trans hw hi hk b1 b2)) (root_least a1 ((h.symm hw hi hk).trans hw hk hi a1 a2)))
theorem cnt_lt {w:TreeWorld} {r v:Nat} (hv:v < w.Bridges.length):cntN (fun u=>decide (((netOf w).costs r).getD u default < ((netOf w).costs r).getD v default)) w.Bridges.length < w.Bridges.length:=by
  have cm:=cntN_lt (p:=fun _=>true) (q:=fun u=>decide (((netOf w).costs r).getD u default < ((netOf w).costs r).getD v default)) (n:=w.Bridges.length) (fun _ _ _=>rfl) (v:=v) hv rfl (by simp);have cx:=cntN_max (p:=fun _=>true) (n:=w.Bridges.length);omega
theorem steps_way {w:TreeWorld} (hw:WOk w) (hd:w.Down.length≤9223372036854775807) {r v:Nat} (hr:r < w.Bridges.length) (hv:v < w.Bridges.length) (hn:J w r v) (age:Int) (h0:0≤age)
    (h1:age+cntN (fun u=>decide (((netOf w).costs r).getD u default < ((netOf w).costs r).getD v default)) w.Bridges.length < w.Bridges.length):lp (wayStep w r) (age,(v:Int))=some (age+stepsOf w r v):=by
  obtain ⟨n,_,n2⟩:=way hw hd hr 0 _ v hv hn (Nat.le_refl _);have e0:lp (wayStep w r) (0,(v:Int))=some (0+(n:Int)):=n2 0 (Int.le_refl _) (by have:=cnt_lt (w:=w) (r:=r) hv; omega);have e1:stepsOf w r v=n:=by
    unfold stepsOf;rw [e0];show (0+(n:Int)).toNat=n;omega
  rw [e1];exact n2 age h0 h1
theorem steps_next {w:TreeWorld} (hw:WOk w) (hd:w.Down.length≤9223372036854775807) {r v:Nat} (hr:r < w.Bridges.length) (hv:v < w.Bridges.length) (hvr:v ≠ r) (hn:J w r v) :
    stepsOf w r v=stepsOf w r (upOf w ((netOf w).costs r) v).next.toNat+1:=by
  obtain ⟨u1,u2,u3,u4,u5,u6⟩:=up_next hw hr hv hvr hn;have hl:((netOf w).costs r).length=w.Bridges.length:=Net.after_len;have hB:=costs_bd hw hr;have h8:=bridgesLen hw;have cv:=cnt_lt (w:=w) (r:=r) hv;have cl:=cntN_lt (p:=fun u=>decide (((netOf w).costs r).getD u default < ((netOf w).costs r).getD v default)) (q:=fun u=>decide (((netOf w).costs r).getD u default < ((netOf w).costs r).getD (upOf w ((netOf w).costs r) v).next.toNat default)) (n:=w.Bridges.length) (fun x _ h=>by
    simp only [decide_eq_true_eq] at h ⊢; omega) (v:=(upOf w ((netOf w).costs r) v).next.toNat) (by omega) (by simp only [decide_eq_true_eq]; exact u5) (by simp)
  have en:(((upOf w ((netOf w).costs r) v).next.toNat:Nat):Int)=(upOf w ((netOf w).costs r) v).next:=by omega
  have nn:J w r (upOf w ((netOf w).costs r) v).next.toNat:=by unfold J at hn ⊢; omega
  have e1:=steps_way hw hd hr (v:=(upOf w ((netOf w).costs r) v).next.toNat) (by omega) nn 1 (by omega) (by omega);have e0:=steps_way hw hd hr hv hn 0 (by omega) (by omega);rw [lp_more (s':=(1,(upOf w ((netOf w).costs r) v).next)) (by
    unfold wayStep;rw [if_pos (by simp; omega)];simp only [Int.toNat_natCast]
    rfl),← en,e1] at e0
  have:=Option.some.inj e0;omega
theorem best_eq {w:TreeWorld} (hw:WOk w) (hd:w.Down.length≤9223372036854775807) {b:Nat} (hb:b < w.Bridges.length):bestFn w b=mindOf w b:=by
  unfold bestFn;rw [best_impl hw hd hb]; rfl
def Up.Tight (w:TreeWorld) (D:List Int) (v:Nat) (s:Up):Prop:=0≤s.link→isOpen w s.link.toNat=true∧D.getD s.next.toNat default+(w.Links.getD s.link.toNat default).Cost=D.getD v default
theorem upEnd_tight {w:TreeWorld} {D:List Int} {v i e:Nat} {s:Up} (h:s.Tight w D v):(upEnd w D v i s e).Tight w D v:=by
  unfold upEnd;split
  · rename_i hh;intro _;exact ⟨hh.1,hh.2.2.1⟩
  · exact h
theorem upOf_tight {w:TreeWorld} (D:List Int) (v:Nat):(upOf w D v).Tight w D v:=fold_in (p:=fun s=>Up.Tight w D v s) w.Links.length (fun _ _ _ h=>upEnd_tight (upEnd_tight h)) (fun h=>absurd h (by decide)) _ (Nat.le_refl _)
end Go.Proofs.YtejhbiefhpgjeaaGreat
