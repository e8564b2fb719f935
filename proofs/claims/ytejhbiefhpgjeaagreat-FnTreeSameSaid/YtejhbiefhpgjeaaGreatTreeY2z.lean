/-
  Plain Lean: what was, and the order in which links say, does not show; the row FnTreeSame.
-/
import Derived.Test.YtejhbiefhpgjeaaGreatKz5
import Derived.Test.YtejhbiefhpgjeaaGreatTreeYz
set_option linter.all false
namespace Go.Proofs.YtejhbiefhpgjeaaGreat
open Go Go.Ab
set_option maxHeartbeats 400000
theorem wtIds_p {a:TreeWorld} (h:a.Bridges.length≤1048576):laws_wtIds_m a=some (idsOf a):=by
  unfold laws_wtIds_m;obtain ⟨e,_⟩:=lp_fold (step:=(fun s1:List Int × Int =>
    (if (decide (s1.2 < ((a.Bridges.length:Nat):Int)))=true then
    gd ((0:Int)≤s1.2∧s1.2 < ((a.Bridges.length:Nat):Int)) <|
    gd (((s1.1.length)+(([(a.Bridges.getD s1.2.toNat default).Id]:List Int).length))*(8+1)≤70368744177664) <|
    some (.inl ((s1.1 ++ ([(a.Bridges.getD s1.2.toNat default).Id]:List Int)),IntKind.i64.wrap (s1.2+1)))
    else
    some (.inr (s1.1.length,s1.1)):Option ((List Int × Int) ⊕ (Nat × List Int))))) a.Bridges.length (fun xs i=>xs ++ [(a.Bridges.getD i default).Id]) (fun xs=>(xs.length,xs)) [] (fun i xs=>xs.length=i∧xs=(a.Bridges.take i).map (·.Id)) ⟨rfl,by simp⟩ (fun i xs hi ⟨h1,h2⟩=>⟨by simp [h1],by
      rw [h2,List.take_succ,List.map_append];simp [List.getD_eq_getElem?_getD,hi]⟩) (fun i xs hi ⟨h1,h2⟩=>by
      rw [if_pos (by simp; omega),gd_pos (by dsimp only; omega)];simp only [Int.toNat_natCast];rw [gd_pos (by simp; omega),wrap_succ hi (by omega)]) (fun xs _=>by rw [if_neg (by simp)])
  rename_i inv;rw [e,bd_val];dsimp only;rw [inv.2,List.take_length]
  rfl
theorem takeAll {α:Type} (xs:List α):xs.take xs.length=xs:=List.take_of_length_le (Nat.le_refl _)
theorem fnTreeSame_p {a0 a1:List Int} (h:a0.length≤9223372036854775807∧∀ x ∈ a0,FitsB x) (_:a1.length≤9223372036854775807∧∀ x ∈ a1,FitsB x):laws_FnTreeSame_m a0 a1=some true:=by
  have key:Post (laws_FnTreeSame_m a0 a1) fun x=>x=true:=by
    unfold laws_FnTreeSame_m;refine .ite (fun _=>.ret rfl) fun _=>.bd (any_good h.1 h.2) fun w g=>?_;have h12:=g.l12;have h8:=g.n8;have hd12:=g.len.d;rw [wtIds_p (by omega),bd_val,implOpen_p (by rw [ids_len]; omega) (by omega),open_ok g,bd_val];dsimp only;rw [if_neg (by decide)];have L0:=lk_open g;generalize newWorld (idsOf w) w.Links=b0 at *;refine .bd (Q:=fun x=>Lk w ⟨x.1,x.2.1,x.2.2.1,x.2.2.2.1,x.2.2.2.2.1,x.2.2.2.2.2⟩ w.Down 0) (.lp (fun s=>∃ j:Nat,s.2.2.2.2.2.2=(j:Int)∧j≤w.Down.length∧Lk w ⟨s.1,s.2.1,s.2.2.1,s.2.2.2.1,s.2.2.2.2.1,s.2.2.2.2.2.1⟩ (w.Down.take j) 0) (fun s=>w.Down.length - s.2.2.2.2.2.2.toNat) ⟨0,rfl,Nat.zero_le _,L0⟩ fun s ⟨j,ej,hj,L⟩=>?_) fun x7 L7=>?_
    · obtain ⟨sb,sl,sd,sA,sB,sR,si⟩:=s;dsimp only at ej L ⊢;subst ej;refine .ite (fun c=>?_) fun c=>.ret ?_
      · have c:=of_decide_eq_true c;have hjl:j < w.Down.length:=by omega
        refine .gd (by omega) ?_;rw [Int.toNat_natCast,iStep_p L.g,bd_val,wrap_succ hjl (by omega)];exact .ret ⟨⟨j+1,rfl,hjl,lk_cut g hjl L⟩,by dsimp only; omega⟩
      · have:j=w.Down.length:=by
          simp only [decide_eq_true_eq] at c;omega
        subst this;rw [takeAll] at L;exact L
    · refine .bd (Q:=fun x=>Lk w ⟨x.1,x.2.1,x.2.2.1,x.2.2.2.1,x.2.2.2.2.1,x.2.2.2.2.2⟩ w.Down w.Bridges.length) (.lp (fun s=>∃ j:Nat,s.2.2.2.2.2.2=(j:Int)∧j≤w.Bridges.length∧Lk w ⟨s.1,s.2.1,s.2.2.1,s.2.2.2.1,s.2.2.2.2.1,s.2.2.2.2.2.1⟩ w.Down j) (fun s=>w.Bridges.length - s.2.2.2.2.2.2.toNat) ⟨0,rfl,Nat.zero_le _,L7⟩ fun s ⟨j,ej,hj,L⟩=>?_) fun x14 L14=>?_
      · obtain ⟨sb,sl,sd,sA,sB,sR,si⟩:=s;dsimp only at ej L ⊢;subst ej;refine .ite (fun c=>?_) fun c=>.ret ?_
        · have c:=of_decide_eq_true c;have hjl:j < w.Bridges.length:=by omega
          refine .gd (by omega) ?_;rw [Int.toNat_natCast,wrap_succ hjl (by omega)];refine .ite (fun u=>?_) fun u=>?_
          · rw [iStep_p L.g,bd_val];exact .ret ⟨⟨j+1,rfl,hjl,lk_fall hjl L (by simpa using u)⟩,by dsimp only; omega⟩
          · exact .ret ⟨⟨j+1,rfl,hjl,lk_stay hjl L (by simpa using u)⟩,by dsimp only; omega⟩
        · have:j=w.Bridges.length:=by
            simp only [decide_eq_true_eq] at c;omega
          subst this;exact L
      · have nt:=lk_nt L14;have gb:=L14.g;generalize (⟨x14.1,x14.2.1,x14.2.2.1,x14.2.2.2.1,x14.2.2.2.2.1,x14.2.2.2.2.2⟩:TreeWorld)=b at *;refine .gd (by decide) ?_;rw [iCalm_p g,bd_val,show rnds 32=32 from rfl];refine .gd (by decide) ?_;rw [iCalm_p gb,bd_val,show rnds 32=32 from rfl];have r1:=rt_calm g (off w (((a1.length:Nat):Int).tmod 12)) (n:=32) (by omega);have r2:=rt_calm gb (off b (((a0.length:Nat):Int).tmod 12)) (n:=32) (by omega);have n1:Nt w _:=(calm_right g.wok g.dn (.refl g) (off w (((a1.length:Nat):Int).tmod 12)) (n:=32) (by omega)).calm.nt;have n2:Nt b _:=(calm_right gb.wok gb.dn (.refl gb) (off b (((a0.length:Nat):Int).tmod 12)) (n:=32) (by omega)).calm.nt;have n3:=(n1.symm g).trans (nt.trans n2);generalize itN (roundR (off w (((a1.length:Nat):Int).tmod 12))) 32 w=A at *;generalize itN (roundR (off b (((a0.length:Nat):Int).tmod 12))) 32 b=B at *;have hlA:A.Len 9223372036854775807:=Len.mono r1.g.len (by omega);have hlB:B.Len 9223372036854775807:=Len.mono r2.g.len (by omega);have hn:=n3.k.s.n;have b8:=r1.g.n8;refine .bd (Q:=fun x=>x=.inr ()) (.lp (fun q=>0≤q∧q≤A.Bridges.length) (fun q=>(A.Bridges.length - q).toNat) ⟨Int.le_refl _,by omega⟩ fun q ⟨q1,q2⟩=>.ite (fun d=>?_) fun _=>.ret rfl) fun x25 e25=>?_
        · have d:=of_decide_eq_true d;have wq:IntKind.i64.wrap (q+1)=q+1:=wrap_i64 (by omega) (by omega);have re:=rt_minds r1 r2 n3 (i:=q.toNat) (by omega);refine .gd (by omega) (.gd (by omega) ?_);rw [mindsEq,if_neg (by rw [decide_eq_true re]; decide),wq];exact .ret ⟨⟨by omega,by omega⟩,by omega⟩
        · rw [e25];dsimp only;have tA:impl_TreePasses_m A=some _:=implTreePasses_p hlA;have tB:impl_TreePasses_m B=some _:=implTreePasses_p hlB;unfold treePasses at tA tB;rw [if_pos (good_iff.2 r1.g)] at tA;rw [if_pos (good_iff.2 r2.g),← rt_passes r1 r2 n3] at tB;have pn:=passL_len A A.Links.length;have l12:=r1.g.l12;rw [tA,bd_val,tB,bd_val,wtInts_self (by omega),bd_val,implTreeRight_p hlB,rt_treeRight r2,gcall_pos rfl,bd_val];exact .ret rfl
  obtain ⟨x,e,hx⟩:=key;rw [e,hx]
end Go.Proofs.YtejhbiefhpgjeaaGreat
