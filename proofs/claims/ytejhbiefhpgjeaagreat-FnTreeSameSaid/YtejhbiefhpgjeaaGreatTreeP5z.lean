/-
  Plain Lean: TreeThink says what the reference says; rows FnExactTreeWorldOk and FnExactTreeThink by the arguments' facts.
-/
import Derived.Test.YtejhbiefhpgjeaaGreatKz5
import Derived.Test.YtejhbiefhpgjeaaGreatTreeCpz
import Derived.Test.YtejhbiefhpgjeaaGreatTreeWz
import Derived.Test.YtejhbiefhpgjeaaGreatArgz
import Derived.Test.YtejhbiefhpgjeaaGreatMkz
set_option linter.all false
namespace Go.Proofs.YtejhbiefhpgjeaaGreat
open Go Go.Ab
set_option maxHeartbeats 400000
structure TSt where
  root:Int
  cost:Int
  age:Int
  link:Int
  id:Int
def cand (w:TreeWorld) (i:Nat) (st:TSt) (v:TreeVector) (o:Int):TSt :=
  if (nothing v || decide (v.Age ≥ 10)) || decide (v.Cost+(w.Links.getD i default).Cost > 1000) then st
  else if v.Root < st.root ∨ (v.Root=st.root∧(v.Cost+(w.Links.getD i default).Cost < st.cost ∨ (v.Cost+(w.Links.getD i default).Cost=st.cost∧(w.Bridges.getD o.toNat default).Id < st.id)))
    then ⟨v.Root,v.Cost+(w.Links.getD i default).Cost,v.Age+1,i,(w.Bridges.getD o.toNat default).Id⟩ else st
def endStep (w:TreeWorld) (i0:Int) (i:Nat) (st:TSt) (e:Nat):TSt:=if brAt w i (e:Int)=i0 then cand w i st (slotAt w i (e:Int)).Vector (brAt w i (1 - (e:Int))) else st
def linkStep (w:TreeWorld) (i0:Int) (st:TSt) (i:Nat):TSt:=endStep w i0 i (endStep w i0 i st 0) 1
def thinkSt (w:TreeWorld) (i0:Int):TSt:=(List.range w.Links.length).foldl (linkStep w i0) ⟨(w.Bridges.getD i0.toNat default).Id,0,0,-1,0⟩
def think (w:TreeWorld) (i0:Int):TreeMind:=⟨⟨(thinkSt w i0).root,(thinkSt w i0).cost,(thinkSt w i0).age⟩,(thinkSt w i0).link⟩
def TSt.In (s:TSt):Prop:=1≤s.root∧s.root≤1000∧0≤s.cost∧s.cost≤1000
theorem cand_in {w:TreeWorld} {i:Nat} {st:TSt} {v:TreeVector} {o:Int} (hw:linksOk w.Bridges.length w.Links=true) (hi:i < w.Links.length) (hv:vecOk v=true) (h:st.In):(cand w i st v o).In:=by
  unfold cand;have:=linkAt hw hi;obtain ⟨v1,v2,v3,v4,v5,v6,v7,_⟩:=vec_in hv;split
  · exact h
  · rename_i h1;simp only [Bool.or_eq_true,decide_eq_true_eq] at h1;have:v.Root ≠ 0:=fun e=>h1 (.inl (.inl (v7 e)));split
    · exact ⟨by dsimp only; omega,by dsimp only; omega,by dsimp only; omega,by dsimp only; omega⟩
    · exact h
theorem end_in {w:TreeWorld} (hw:WOk w) {i:Nat} (hi:i < w.Links.length) (i0:Int) {st:TSt} (e:Nat) (h:st.In):(endStep w i0 i st e).In:=by
  unfold endStep;split
  · exact cand_in hw.link hi (hw.vec hi _) h
  · exact h
theorem link_in {w:TreeWorld} (hw:WOk w) {i:Nat} (hi:i < w.Links.length) (i0:Int) {st:TSt} (h:st.In):(linkStep w i0 st i).In:=end_in hw hi i0 1 (end_in hw hi i0 0 h)
theorem selfMind_p (a:Int):impl_selfMind_m a=some ⟨⟨a,0,0⟩,-1⟩:=rfl
theorem self_in {w:TreeWorld} (hw:WOk w) {i0:Int} (h:0≤i0∧i0 < w.Bridges.length):TSt.In ⟨(w.Bridges.getD i0.toNat default).Id,0,0,-1,0⟩:=by
  have:=hw.br i0.toNat (by omega);simp only [bridgeOk,Bool.and_eq_true,inR_iff] at this;exact ⟨this.1.1.1,this.1.1.2,Int.le_refl _,by dsimp only; omega⟩
theorem implThink_p {w:TreeWorld} (hw:WOk w) {i0:Int} (h:0≤i0∧i0 < w.Bridges.length):impl_TreeWorld_think_m w i0=some (think w i0):=by
  unfold impl_TreeWorld_think_m;rw [gd_pos h,selfMind_p,bd_val];refine (bd_fold (fun (s:TSt) i=>(s.root,s.cost,s.age,s.link,(i:Int),s.id)) w.Links.length (linkStep w i0) (fun s=>(s.root,s.cost,s.age,s.link)) ⟨(w.Bridges.getD i0.toNat default).Id,0,0,-1,0⟩ (fun _ s=>s.In) rfl (self_in hw h) (fun i a hi h=>link_in hw hi i0 h) ?_ ?_).trans rfl
  · intro i s hi hs;have hwl:=hw.l;rw [if_pos (by simp; omega),gd_pos (by dsimp only; omega)];dsimp only;have hl:=linkAt hw.link hi;rw [Int.toNat_natCast];refine (bd_fold (fun (s:TSt) e=>(s.root,s.cost,s.age,s.link,(e:Int),s.id)) 2 (endStep w i0 i) (fun s=>(s.id,s.root,s.cost,s.age,s.link)) s (fun _ s=>s.In) rfl hs (fun e a _ h=>end_in hw hi i0 e h) ?_ ?_).trans ?_
    · intro e s he hs;obtain ⟨s1,s2,s3,s4⟩:=hs;obtain ⟨v1,v2,v3,v4,v5,v6,v7,v8⟩:=vec_in (hw.vec hi (e:Int));rw [if_pos (by simp; omega),slot_p (by rw [hw.a]; exact hi) (by rw [hw.b]; exact hi),bd_val,bridgeAt_p hi,bd_val];dsimp only;rw [wrap_i64 (n:=(slotAt w i (e:Int)).Vector.Cost+_) (by omega) (by omega),wrap_i64 (n:=(e:Int)+1) (by omega) (by omega),wrap_i64 (n:=(slotAt w i (e:Int)).Vector.Age+1) (by omega) (by omega),wrap_i64 (n:=1 - (e:Int)) (by omega) (by omega)];rw [bridgeAt_p hi,nothing_p];have hbr:0≤brAt w i (1 - (e:Int))∧brAt w i (1 - (e:Int)) < w.Bridges.length:=by unfold brAt; split <;> omega
      unfold endStep
      by_cases hb:brAt w i (e:Int)=i0
      · rw [if_pos hb,show (brAt w i (e:Int) != i0)=false by simp [hb],gcall_pos rfl,bd_val,Bool.false_or];unfold cand
        by_cases hc:((nothing (slotAt w i (e:Int)).Vector || decide ((slotAt w i (e:Int)).Vector.Age ≥ 10)) || decide ((slotAt w i (e:Int)).Vector.Cost+(w.Links.getD i default).Cost > 1000))=true
        · rw [if_pos hc,if_pos hc]; simp
        · rw [if_neg hc,if_neg hc,bd_val,gd_pos hbr];simp only [Bool.or_eq_true,decide_eq_true_eq] at hc;rw [compare_lt (by omega) (by omega),bd_val]
          by_cases hx:(slotAt w i (e:Int)).Vector.Root < s.root ∨ ((slotAt w i (e:Int)).Vector.Root=s.root∧((slotAt w i (e:Int)).Vector.Cost+(w.Links.getD i default).Cost < s.cost ∨ ((slotAt w i (e:Int)).Vector.Cost+(w.Links.getD i default).Cost=s.cost∧(w.Bridges.getD (brAt w i (1 - (e:Int))).toNat default).Id < s.id)))
          · rw [if_pos hx,if_pos (by
              simp only [Bool.or_eq_true,Bool.and_eq_true,decide_eq_true_eq,beq_iff_eq];split <;> omega)]
            simp
          · rw [if_neg hx,if_neg (by
              simp only [Bool.or_eq_true,Bool.and_eq_true,decide_eq_true_eq,beq_iff_eq];split <;> omega)]
            simp
      · rw [if_neg hb,show (brAt w i (e:Int) != i0)=true by simp [hb],gcall_neg (by decide),bd_val,if_pos (by simp)];simp
    · intro s hs
      rfl
    · rw [wrap_succ hi hwl]
      rfl
  · intro s hs;rw [if_neg (by simp)]
theorem link_eq {w:TreeWorld} (hw:WOk w) {i:Nat} (hi:i < w.Links.length) (i0:Int) (st:TSt):linkStep w i0 st i =
    if i0=(w.Links.getD i default).A then cand w i st (w.AtA.getD i default).Vector (w.Links.getD i default).B else if i0=(w.Links.getD i default).B then cand w i st (w.AtB.getD i default).Vector (w.Links.getD i default).A else st:=by
  have hl:=linkAt hw.link hi;have a0:brAt w i ((0:Nat):Int)=(w.Links.getD i default).A:=rfl;have a1:brAt w i ((1:Nat):Int)=(w.Links.getD i default).B:=rfl;have b0:brAt w i (1 - ((0:Nat):Int))=(w.Links.getD i default).B:=rfl;have b1:brAt w i (1 - ((1:Nat):Int))=(w.Links.getD i default).A:=rfl;have c0:slotAt w i ((0:Nat):Int)=w.AtA.getD i default:=rfl;have c1:slotAt w i ((1:Nat):Int)=w.AtB.getD i default:=rfl;unfold linkStep endStep;rw [a0,a1,b0,b1,c0,c1]
  by_cases h1:i0=(w.Links.getD i default).A
  · rw [if_neg (by omega),if_pos (by omega),if_pos h1]
  · have h1':¬ (w.Links.getD i default).A=i0:=fun e=>h1 e.symm;simp only [if_neg h1',if_neg h1]
    by_cases h2:i0=(w.Links.getD i default).B
    · rw [if_pos (by omega),if_pos h2]
    · rw [if_neg (by omega),if_neg h2]
theorem specThink_p {w:TreeWorld} (hw:WOk w) {i0:Int} (h:0≤i0∧i0 < w.Bridges.length):spec_l82Think_m w i0=some (think w i0):=by
  unfold spec_l82Think_m;rw [gd_pos h,show spec_l82Self_m (w.Bridges.getD i0.toNat default).Id=some ⟨⟨(w.Bridges.getD i0.toNat default).Id,0,0⟩,-1⟩ from rfl,bd_val];refine (bd_fold (fun (s:TSt) i=>(s.root,s.cost,s.age,s.link,s.id,(i:Int))) w.Links.length (linkStep w i0) (fun s=>(s.root,s.cost,s.age,s.link)) ⟨(w.Bridges.getD i0.toNat default).Id,0,0,-1,0⟩ (fun _ s=>s.In) rfl (self_in hw h) (fun i a hi h=>link_in hw hi i0 h) ?_ ?_).trans rfl
  · intro i s hi hs;have hwl:=hw.l;have hl:=linkAt hw.link hi;have ha:=hw.a;have hb:=hw.b;rw [if_pos (by simp; omega)];dsimp only;rw [link_eq hw hi];have step:∀ (v:TreeVector) (o:Int),vecOk v=true→0≤o∧o < w.Bridges.length→(gd ((0:Int)≤(i:Int)∧(i:Int) < ((w.Links.length:Nat):Int)) <|
        bd (spec_l82Far_m v ((w.Links.getD (i:Int).toNat default).Cost)) fun x9 =>
        gd ((decide (x9.Root > 0))=true→((0:Int)≤o∧o < ((w.Bridges.length:Nat):Int))) <|
        bd (gcall ((decide (x9.Root > 0))=true) (spec_l82Better_m x9 ((w.Bridges.getD o.toNat default).Id) (⟨s.root,s.cost,s.age⟩:TreeVector) s.id)) fun x11 =>
        (if ((decide (x9.Root > 0)) && x11)=true then
        gd ((0:Int)≤o∧o < ((w.Bridges.length:Nat):Int)) <|
        some (.inl (x9.Root,x9.Cost,x9.Age,(i:Int),(w.Bridges.getD o.toNat default).Id,IntKind.i64.wrap ((i:Int)+1)))
        else
        some (.inl (s.root,s.cost,s.age,s.link,s.id,IntKind.i64.wrap ((i:Int)+1)))):Option ((Int × Int × Int × Int × Int × Int) ⊕ (Int × Int × Int × Int))) =
        some (.inl ((cand w i s v o).root,(cand w i s v o).cost,(cand w i s v o).age,(cand w i s v o).link,(cand w i s v o).id,((i+1:Nat):Int))):=by
      intro v o hv ho;obtain ⟨v1,v2,v3,v4,v5,v6,v7,v8⟩:=vec_in hv;rw [gd_pos (by omega),Int.toNat_natCast,wrap_succ hi hwl];unfold spec_l82Far_m cand;rw [wrap_i64 (n:=v.Cost+_) (by omega) (by omega),wrap_i64 (n:=v.Age+_) (by omega) (by omega)]
      by_cases hc:((nothing v || decide (v.Age ≥ 10)) || decide (v.Cost+(w.Links.getD i default).Cost > 1000))=true
      · rw [if_pos hc,if_pos (by
          simp only [Bool.or_eq_true,decide_eq_true_eq,beq_iff_eq] at hc ⊢;rcases hc with (hc | hc) | hc
          · exact .inl (.inl (v8 hc))
          · exact .inl (.inr (by omega))
          · exact .inr hc),bd_val]
        simp [gcall,gd]
      · rw [if_neg hc,if_neg (by
          simp only [Bool.or_eq_true,decide_eq_true_eq,beq_iff_eq] at hc ⊢;rintro ((hc' | hc') | hc')
          · exact hc (.inl (.inl (v7 hc')))
          · exact hc (.inl (.inr (by omega)))
          · exact hc (.inr hc')),bd_val]
        simp only [Bool.or_eq_true,decide_eq_true_eq] at hc;have hr:v.Root > 0:=by
          have:v.Root ≠ 0:=fun e=>hc (.inl (.inl (v7 e)));omega
        dsimp only;rw [gd_pos (fun _=>ho),gcall_pos (by simpa using hr),better_p,bd_val,gd_pos ho]
        by_cases hx:v.Root < s.root ∨ (v.Root=s.root∧(v.Cost+(w.Links.getD i default).Cost < s.cost ∨ (v.Cost+(w.Links.getD i default).Cost=s.cost∧(w.Bridges.getD o.toNat default).Id < s.id)))
        · rw [if_pos (by simp only [Bool.and_eq_true,decide_eq_true_eq]; exact ⟨hr,hx⟩),if_pos hx]
        · rw [if_neg (by simp only [Bool.and_eq_true,decide_eq_true_eq]; exact fun h=>hx h.2),if_neg hx]
    have e0:(w.AtA.getD i default).Vector=(slotAt w i 0).Vector:=rfl;have e1:(w.AtB.getD i default).Vector=(slotAt w i 1).Vector:=rfl;unfold spec_l82At_m;rw [gd_pos (by omega),gd_pos (by omega),gd_pos (by omega)]
    by_cases h1:i0=(w.Links.getD i default).A
    · rw [if_pos (by simpa using h1),if_pos h1,bd_val];dsimp only;rw [if_neg (by simp only [Int.toNat_natCast,decide_eq_true_eq]; omega)];exact step _ _ (by rw [Int.toNat_natCast,e0]; exact hw.vec hi 0) (by rw [Int.toNat_natCast]; omega)
    · rw [if_neg (by simpa using h1),if_neg h1]
      by_cases h2:i0=(w.Links.getD i default).B
      · rw [if_pos (by simpa using h2),if_pos h2,bd_val];dsimp only;rw [if_neg (by simp only [Int.toNat_natCast,decide_eq_true_eq]; omega)];exact step _ _ (by rw [Int.toNat_natCast,e1]; exact hw.vec hi 1) (by rw [Int.toNat_natCast]; omega)
      · rw [if_neg (by simpa using h2),if_neg h2,bd_val];dsimp only;rw [if_pos (by decide),wrap_succ hi hwl]
  · intro s hs;rw [if_neg (by simp)]
end Go.Proofs.YtejhbiefhpgjeaaGreat
