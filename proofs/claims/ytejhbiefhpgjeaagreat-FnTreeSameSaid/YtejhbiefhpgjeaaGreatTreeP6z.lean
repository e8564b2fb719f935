/-
  Plain Lean: TreeOpenWorld says what the reference says, and hands out rows of its own; the row FnExactTreeOpenWorld.
-/
import Derived.Test.YtejhbiefhpgjeaaGreatKz5
import Derived.Test.YtejhbiefhpgjeaaGreatTreeP5z
import Derived.Test.YtejhbiefhpgjeaaGreatTreeMz
import Derived.Test.YtejhbiefhpgjeaaGreatTreeCpz
import Derived.Test.YtejhbiefhpgjeaaGreatMkz
set_option linter.all false
namespace Go.Proofs.YtejhbiefhpgjeaaGreat
open Go Go.Ab
set_option maxHeartbeats 400000
def newBridge (id:Int):TreeBridge:=⟨id,true,⟨⟨id,0,0⟩,-1⟩⟩
def newWorld (ids:List Int) (ls:List TreeLink):TreeWorld:=⟨ids.map newBridge,ls,[],List.replicate ls.length default,List.replicate ls.length default,[]⟩
def noWorld:TreeWorld:=⟨[],[],[],[],[],[]⟩
def openWorld (ids:List Int) (ls:List TreeLink):TreeWorld × Bool:=if linksOk ids.length ls=true∧worldOk (newWorld ids ls)=true then (newWorld ids ls,true) else (noWorld,false)
theorem newWorld_len {ids:List Int} {ls:List TreeLink} (h:linksOk ids.length ls=true):(newWorld ids ls).Len 12:=by
  have:=linksOk_len h;refine ⟨?_,?_,?_,?_,?_,?_⟩ <;> simp [newWorld] <;> omega
theorem bridges_p {ids:List Int} {k:List TreeBridge × Nat→Option (TreeWorld × Bool)} {step:List TreeBridge × Int→Option ((List TreeBridge × Int) ⊕ (List TreeBridge × Nat))}
    (h1:∀ (i:Nat) (bs:List TreeBridge),i < ids.length→bs.length=i→step (bs,(i:Int))=some (.inl (bs ++ [newBridge (ids.getD i default)],((i+1:Nat):Int)))) (h2:∀ bs:List TreeBridge,bs.length=ids.length→step (bs,(ids.length:Int))=some (.inr (bs,bs.length))) :
    bd (lp step ([],0)) k=k (ids.map newBridge,ids.length):=by
  have:=lp_at (step:=step) ids.length (fun i=>((ids.take i).map newBridge,(i:Int))) (ids.map newBridge,ids.length) (fun i hi=>by
    rw [h1 i _ hi (by simp; omega)];rw [List.take_succ,List.map_append];simp [List.getD_eq_getElem?_getD,hi]) (by
    rw [h2 _ (by simp)];simp)
  have e:lp step ([],0)=some (ids.map newBridge,ids.length):=by simpa using this
  rw [e,bd_val]
theorem clone_p {ls:List TreeLink} (h:ls.length≤1048576):impl_clone_TreeLink_m ls=some ls:=by
  unfold impl_clone_TreeLink_m;rw [gd_pos (by omega),gd_pos (by simp; omega)];simp
theorem implOpen_p {ids:List Int} {ls:List TreeLink} (h0:ids.length≤1048576) (hl:ls.length≤1048576):impl_TreeOpenWorld_m ids ls=some (openWorld ids ls):=by
  unfold impl_TreeOpenWorld_m openWorld;rw [implLinksOk_p _ (by omega),bd_val]
  cases h:linksOk ids.length ls
  · simp [noWorld]
  · have hlen:=linksOk_len h;have hw:=newWorld_len h;rw [if_neg (by decide),clone_p hl,bd_val,gd_pos (by omega),gd_pos (by omega)];refine (bridges_p (ids:=ids) (fun i bs hi hb=>?_) (fun bs hb=>by rw [if_neg (by simp)])).trans ?_
    · rw [if_pos (by simp; omega),gd_pos (by dsimp only; omega)];simp only [selfMind_p,bd_val,Int.toNat_natCast];rw [gd_pos (by simp; omega),wrap_succ hi (by omega)]
      rfl
    · dsimp only;have:=implWorldOk_p (w:=newWorld ids ls) (by have:=hw.b; omega) (by have:=hw.l; omega) (by have:=hw.d; omega) (by have:=hw.r; omega);unfold newWorld at this ⊢;rw [Int.toNat_natCast,this,bd_val]
      cases worldOk ⟨ids.map newBridge,ls,[],List.replicate ls.length default,List.replicate ls.length default,[]⟩ <;> simp [noWorld]
theorem specOpen_p {ids:List Int} {ls:List TreeLink} (h0:ids.length≤1048576) (hl:ls.length≤1048576):spec_TreeOpenWorld_m ids ls=some (openWorld ids ls):=by
  unfold spec_TreeOpenWorld_m openWorld;rw [specLinksOk_p _ (by omega),bd_val]
  cases h:linksOk ids.length ls
  · simp [noWorld]
  · have hlen:=linksOk_len h;have hw:=newWorld_len h;rw [if_neg (by decide),gd_pos (by omega),gd_pos (by omega)];refine (bridges_p (ids:=ids) (fun i bs hi hb=>?_) (fun bs hb=>by rw [if_neg (by simp)])).trans ?_
    · rw [if_pos (by simp; omega),gd_pos (by dsimp only; omega),gd_pos (by dsimp only; omega),show ∀ a,spec_l82Self_m a=some ⟨⟨a,0,0⟩,-1⟩ from fun _=>rfl];simp only [bd_val,Int.toNat_natCast];rw [gd_pos (by simp; omega),wrap_succ hi (by omega)]
      rfl
    · dsimp only;have:=specWorldOk_p (w:=newWorld ids ls) (by have:=hw.b; omega) (by have:=hw.l; omega) (by have:=hw.d; omega) (by have:=hw.r; omega);have hc:=copy_p (w:=newWorld ids ls) (Len.mono hw (by omega));unfold newWorld at this hc ⊢;rw [Int.toNat_natCast,this,bd_val,hc]
      cases worldOk ⟨ids.map newBridge,ls,[],List.replicate ls.length default,List.replicate ls.length default,[]⟩ <;> simp [noWorld]
end Go.Proofs.YtejhbiefhpgjeaaGreat
