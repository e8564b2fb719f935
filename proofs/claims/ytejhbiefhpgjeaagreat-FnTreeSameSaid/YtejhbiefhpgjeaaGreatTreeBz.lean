/-
  Plain Lean: what each bridge should take to be so, impl's and the reference's alike.
-/
import Derived.Test.YtejhbiefhpgjeaaGreatKz5
import Derived.Test.YtejhbiefhpgjeaaGreatBfz
import Derived.Test.YtejhbiefhpgjeaaGreatTreeAz
set_option linter.all false
namespace Go.Proofs.YtejhbiefhpgjeaaGreat
open Go Go.Ab
set_option maxHeartbeats 400000
def netOf (w:TreeWorld):Net:=⟨w.Bridges.length,w.Links.length,isOpen w,fun i=>(w.Links.getD i default).A.toNat,fun i=>(w.Links.getD i default).B.toNat,fun i=>(w.Links.getD i default).Cost⟩
theorem netOk {w:TreeWorld} (hw:WOk w):(netOf w).Ok:=by
  refine ⟨fun i hi=>?_,fun i hi=>?_,fun i hi=>?_,fun i hi=>?_,fun i hi=>?_⟩ <;> have:=linkAt hw.link hi <;> dsimp only [netOf] <;> omega
theorem bridgesLen {w:TreeWorld} (hw:WOk w):w.Bridges.length≤8:=by have:=linksOk_len hw.link; omega
theorem netSize {w:TreeWorld} (hw:WOk w):(netOf w).n*(netOf w).m≤96:=by
  have h1:(netOf w).n≤8:=bridgesLen hw;have h2:(netOf w).m≤12:=linksLen hw;exact Nat.mul_le_mul h1 h2
theorem bd_get {D:List Int} {k:Nat} (h:Bd k D) {v:Nat} (hv:v < D.length):0≤D.getD v default∧(D.getD v default=far ∨ D.getD v default≤50*(k:Int)):=h v hv
theorem two_relax' {D:List Int} {a b:Nat} {c:Int} (ha:a < D.length) (hb:b < D.length) (hab:a ≠ b) (hc:1≤c) :
    (D.set a (min (D.getD a default) (D.getD b default+c))).set b (min ((D.set a (min (D.getD a default) (D.getD b default+c))).getD b default) ((D.set a (min (D.getD a default) (D.getD b default+c))).getD a default+c))=relL D a b c:=by
  refine list_ext (by rw [relL_len]; simp) fun v _=>?_;rw [relL_get ha hb hab,getD_set ha,getD_ne hab]
  by_cases h2:v=b
  · subst h2;rw [getD_set (by simpa using hb),if_pos rfl];omega
  · rw [getD_ne (Ne.symm h2),if_neg h2]
    by_cases h1:v=a
    · subst h1; rw [getD_set ha,if_pos rfl]
    · rw [getD_ne (Ne.symm h1),if_neg h1]
theorem fill_p {n:Nat} {f z:Int} {step:List Int × Int→Option ((List Int × Int) ⊕ (Nat × List Int))}
    (h1:∀ (i:Nat) (xs:List Int),i < n→xs.length=n→step (xs,(i:Int))=some (.inl (xs.set i f,((i+1:Nat):Int)))) (h2:∀ xs:List Int,xs.length=n→step (xs,(n:Int))=some (.inr (xs.length,xs))) :
    lp step (List.replicate n z,0)=some (n,List.replicate n f):=by
  have:=lp_at (step:=step) n (fun i=>(List.replicate i f ++ List.replicate (n - i) z,(i:Int))) (n,List.replicate n f) (fun i hi=>by
    rw [h1 i _ hi (by simp; omega)];refine congrArg some (congrArg Sum.inl (Prod.ext ?_ rfl));dsimp only;rw [List.set_append_right _ _ (by simp),show n - i=(n - (i+1))+1 by omega,List.replicate_succ];simp only [List.length_replicate,Nat.sub_self,List.set_cons_zero];rw [List.replicate_succ',List.append_assoc]
    rfl) (by
    rw [h2 _ (by simp)];simp)
  simpa using this
theorem implCosts_p {w:TreeWorld} (hw:WOk w) (hd:w.Down.length≤9223372036854775807) {r:Nat} (hr:r < w.Bridges.length):impl_TreeWorld_costs_m w (r:Int)=some ((netOf w).costs r):=by
  have h8:=bridgesLen hw;have h12:=linksLen hw;have hN:=netOk hw;unfold impl_TreeWorld_costs_m;rw [gd_pos (by omega),Int.toNat_natCast,fill_p (f:=1073741824) (fun i xs hi hx=>?_) (fun xs hx=>by rw [if_neg (by simp)]),bd_val]
  · dsimp only;rw [gd_pos (by omega),Int.toNat_natCast];refine (bd_fold (fun (D:List Int) i=>(D,(i:Int))) w.Bridges.length (fun D _=>(netOf w).round D) (fun D=>(D.length,D)) ((netOf w).init r) (fun i D=>D.length=(netOf w).n∧Bd (i*(netOf w).m) D) rfl ⟨Net.init_len,by have:=(netOf w).bd_after hN (r:=r) (k:=0) hr; exact this⟩ (fun i D hi h=>⟨Net.round_len.trans h.1,by rw [Nat.succ_mul]; exact (netOf w).bd_part hN h.1 h.2 (Nat.le_refl _)⟩) ?_ ?_).trans rfl
    · intro i D hi h;rw [if_pos (by simp; omega)];dsimp only;refine (bd_fold (fun (D:List Int) i=>(D,(i:Int))) w.Links.length (netOf w).link (fun D=>(D.length,D)) D (fun j E=>E.length=(netOf w).n∧Bd (i*(netOf w).m+j) E) rfl h (fun j E hj h=>⟨Net.link_len.trans h.1,(netOf w).bd_link hN h.1 h.2 hj⟩) ?_ ?_).trans (by dsimp only; rw [wrap_succ hi (by omega)]; rfl)
      · intro j E hj hE;have hl:=linkAt hw.link hj;have la:(w.Links.getD j default).A.toNat < E.length:=by rw [hE.1]; exact hN.an j hj
        have lb:(w.Links.getD j default).B.toNat < E.length:=by rw [hE.1]; exact hN.bn j hj
        have le:E.length=w.Bridges.length:=hE.1;rw [if_pos (by simp; omega),gd_pos (by dsimp only; omega)];dsimp only;rw [implOpenL_p hw hd hj,bd_val,wrap_succ hj (by omega),Int.toNat_natCast];unfold Net.link
        by_cases ho:isOpen w j=true
        · have hs:i*(netOf w).m≤96:=Nat.le_trans (Nat.mul_le_mul_right _ (Nat.le_of_lt hi)) (netSize hw);have ba:=bd_get hE.2 la;have bb:=bd_get hE.2 lb;have far_:far=1073741824:=rfl;rw [if_pos ho,gd_pos (by omega),gd_pos (by omega),gd_pos (by omega),bd_val];have wr:∀ x:Int,0≤x∧(x=far ∨ x≤50*((i*(netOf w).m+j:Nat):Int))→IntKind.i64.wrap (x+(w.Links.getD j default).Cost)=x+(w.Links.getD j default).Cost:=fun x hx=>wrap_i64 (by omega) (by omega);have mn:∀ x y:Int,(if x < y then x else y)=min y x:=fun x y=>by split <;> omega
          rw [wr _ bb,mn,gd_pos (by (try rw [List.length_set]); omega),gd_pos (by (try rw [List.length_set]); omega),gd_pos (by (try rw [List.length_set]); omega),bd_val];rw [getD_set la,wrap_i64 (n:=min (E.getD (w.Links.getD j default).A.toNat default) (E.getD (w.Links.getD j default).B.toNat default+(w.Links.getD j default).Cost)+(w.Links.getD j default).Cost) (by omega) (by omega),mn];rw [if_pos (show (netOf w).op j=true from ho)];have:=two_relax' (D:=E) (c:=(w.Links.getD j default).Cost) la lb (hN.ab j hj) (by omega);rw [getD_set la] at this;exact congrArg (fun z=>some (Sum.inl (z,((j+1:Nat):Int)))) this
        · rw [if_neg ho,if_neg (show ¬ (netOf w).op j=true from ho)]
      · intro E hE;rw [if_neg (by simp)]
    · intro D hD;rw [if_neg (by simp)]
  · rw [if_pos (by simp; omega),gd_pos (by dsimp only; omega),Int.toNat_natCast,wrap_succ hi (by omega)]
end Go.Proofs.YtejhbiefhpgjeaaGreat
