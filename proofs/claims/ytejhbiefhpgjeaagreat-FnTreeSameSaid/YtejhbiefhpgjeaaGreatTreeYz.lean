/-
  Plain Lean: a world opened anew, with the same links cut and the same bridges fallen, is of the same net.
-/
import Derived.Test.YtejhbiefhpgjeaaGreatKz5
import Derived.Test.YtejhbiefhpgjeaaGreatTreeK5z
import Derived.Test.YtejhbiefhpgjeaaGreatTreeOz
set_option linter.all false
namespace Go.Proofs.YtejhbiefhpgjeaaGreat
open Go Go.Ab
set_option maxHeartbeats 400000
structure Lk (a b:TreeWorld) (d:List Int) (i:Nat):Prop where
  g:Good b
  n:b.Bridges.length=a.Bridges.length
  l:b.Links=a.Links
  d:b.Down=d
  id:∀ c,idAt b c=idAt a c
  up:∀ k:Nat,(b.Bridges.getD k default).Up=if k < i then (a.Bridges.getD k default).Up else decide (k < a.Bridges.length)
theorem down_all {a:Int}:∀ {xs:List Int},(∀ x ∈ xs,x < a)→downL xs a=xs∧downR xs a=[]
  | [],_=>⟨rfl,rfl⟩
  | y :: ys,h=>by
    obtain ⟨h1,h2⟩:=down_all (xs:=ys) fun x hx=>h x (List.mem_cons_of_mem _ hx);have hy:=decide_eq_true (h y (List.mem_cons_self ..));unfold downL downR at *;rw [List.takeWhile_cons,List.dropWhile_cons,if_pos hy,if_pos hy,h1,h2];exact ⟨rfl,rfl⟩
theorem downN_end {xs:List Int} {a:Int} (h:∀ x ∈ xs,x < a):downN xs a 8=xs ++ [a]:=by
  obtain ⟨e1,e2⟩:=down_all h;unfold downN;rw [e1,e2];simp
theorem forget_down (w:TreeWorld) (a:Nat) (e:Int):(forget w a e).Down=w.Down:=by
  unfold forget;rw [thinks_sh];unfold setSlot;split <;> rfl
theorem id_slot {w:TreeWorld} {i:Nat} {e:Int} {s:TreeSlot} (c:Nat):idAt (setSlot w i e s) c=idAt w c:=by unfold idAt setSlot; split <;> rfl
theorem forget_id {w:TreeWorld} {a:Nat} {e:Int} (hb:(brAt w a e).toNat < w.Bridges.length) (c:Nat):idAt (forget w a e) c=idAt w c:=by
  unfold forget;have:idAt (thinks (setSlot w a e noSlot) (brAt w a e).toNat) c=idAt (setSlot w a e noSlot) c:=id_thinks (by rw [same_setSlot.n]; exact hb) c;rw [this,id_slot]
theorem forget_up {w:TreeWorld} {a:Nat} {e:Int} (hb:(brAt w a e).toNat < w.Bridges.length) (c:Int):upAt (forget w a e) c=upAt w c:=by
  unfold forget;rw [up_thinks (by rw [same_setSlot.n]; exact hb),up_slot]
theorem same_forget {w:TreeWorld} {a:Nat} {e:Int}:Same w (forget w a e):=same_setSlot.trans same_thinks
theorem lk_cut {a b:TreeWorld} (ga:Good a) {j:Nat} (hj:j < a.Down.length) (h:Lk a b (a.Down.take j) 0):Lk a (doEv b ⟨8,a.Down.getD j default,0⟩) (a.Down.take (j+1)) 0:=by
  obtain ⟨g,s⟩:=do_good h.g ⟨8,a.Down.getD j default,0⟩;have hd:doEv b ⟨8,a.Down.getD j default,0⟩=linkEv b ⟨8,a.Down.getD j default,0⟩:=rfl;obtain ⟨p1,p2⟩:=downs_pw ga.down;have hx:=p2 _ (getD_mem hj);have hlt:∀ x ∈ a.Down.take j,x < a.Down.getD j default:=fun x hx=>by
    obtain ⟨i,hi,e⟩:=List.getElem_of_mem hx;rw [List.length_take] at hi;have:=List.pairwise_iff_getElem.1 p1 i j (by omega) hj (by omega);rw [List.getD_eq_getElem?_getD,List.getElem?_eq_getElem hj,← e,List.getElem_take];exact this
  have hin:inR (a.Down.getD j default) 0 ((b.Links.length:Int) - 1)=true:=inR_iff.2 (by rw [h.l]; exact hx);have ht:(a.Down.getD j default).toNat < b.Links.length:=by rw [h.l]; omega
  have hlk:=linkAt h.g.link ht;have ev:linkEv b ⟨8,a.Down.getD j default,0⟩=forget (forget (setDown b (downN b.Down (a.Down.getD j default) 8)) (a.Down.getD j default).toNat 0) (a.Down.getD j default).toNat 1:=by
    unfold linkEv;dsimp only;rw [if_pos hin,if_pos rfl]
  have hb0:(brAt (setDown b (downN b.Down (a.Down.getD j default) 8)) (a.Down.getD j default).toNat 0).toNat < (setDown b (downN b.Down (a.Down.getD j default) 8)).Bridges.length:=by
    show (b.Links.getD (a.Down.getD j default).toNat default).A.toNat < b.Bridges.length;omega
  have hb1:(brAt (forget (setDown b (downN b.Down (a.Down.getD j default) 8)) (a.Down.getD j default).toNat 0) (a.Down.getD j default).toNat 1).toNat < (forget (setDown b (downN b.Down (a.Down.getD j default) 8)) (a.Down.getD j default).toNat 0).Bridges.length:=by
    rw [br_same same_forget,same_forget.n];show (b.Links.getD (a.Down.getD j default).toNat default).B.toNat < b.Bridges.length;omega
  rw [hd] at g s ⊢;refine ⟨g,s.n.trans h.n,s.links.trans h.l,?_,fun c=>?_,fun k=>?_⟩
  · rw [ev,forget_down,forget_down];show downN b.Down (a.Down.getD j default) 8=_;rw [h.d,downN_end hlt,List.take_succ,List.getD_eq_getElem?_getD,List.getElem?_eq_getElem hj]
    rfl
  · rw [ev,forget_id hb1,forget_id hb0];exact h.id c
  · have:=forget_up hb1 (k:Int);rw [forget_up hb0,← ev] at this;have e:upAt (setDown b (downN b.Down (a.Down.getD j default) 8)) (k:Int)=upAt b (k:Int):=rfl;rw [e] at this;unfold upAt at this;rw [Int.toNat_natCast] at this;rw [this];exact h.up k
theorem lk_fall {a b:TreeWorld} {i:Nat} (hi:i < a.Bridges.length) (h:Lk a b a.Down i) (hu:(a.Bridges.getD i default).Up=false):Lk a (doEv b ⟨6,(i:Int),0⟩) a.Down (i+1):=by
  obtain ⟨g,s⟩:=do_good h.g ⟨6,(i:Int),0⟩;have hd:doEv b ⟨6,(i:Int),0⟩=bridgeEv b ⟨6,(i:Int),0⟩:=rfl;have hib:i < b.Bridges.length:=by rw [h.n]; exact hi
  have hin:inR (i:Int) 0 ((b.Bridges.length:Int) - 1)=true:=inR_iff.2 (by omega);have ev:bridgeEv b ⟨6,(i:Int),0⟩=setBr (wiped b (i:Int)) i ⟨(b.Bridges.getD i default).Id,false,⟨⟨0,0,0⟩,0⟩⟩:=by
    unfold bridgeEv;dsimp only;rw [if_pos hin,if_neg (by decide),Int.toNat_natCast]
  obtain ⟨_,i2,_⟩:=wiped_in h.g (i:Int) _ (Nat.le_refl _);have hb:(wiped b (i:Int)).Bridges=b.Bridges:=i2.br;have hdn:(wiped b (i:Int)).Down=b.Down:=i2.down;have hg:∀ k,(bridgeEv b ⟨6,(i:Int),0⟩).Bridges.getD k default=if k=i then ⟨(b.Bridges.getD i default).Id,false,⟨⟨0,0,0⟩,0⟩⟩ else b.Bridges.getD k default:=fun k=>by
    rw [ev,getD_setB (by rw [hb]; exact hib),hb]
  rw [hd] at g s ⊢;refine ⟨g,s.n.trans h.n,s.links.trans h.l,?_,fun c=>?_,fun k=>?_⟩
  · rw [ev];show (wiped b (i:Int)).Down=_;rw [hdn,h.d]
  · unfold idAt;rw [hg];split
    · rename_i e; rw [e]; exact h.id i
    · exact h.id c
  · rw [hg]
    by_cases e:k=i
    · rw [if_pos e,if_pos (by omega),e,hu]
    · rw [if_neg e,h.up k]
      by_cases c:k < i
      · rw [if_pos c,if_pos (by omega)]
      · rw [if_neg c,if_neg (by omega)]
theorem lk_stay {a b:TreeWorld} {i:Nat} (hi:i < a.Bridges.length) (h:Lk a b a.Down i) (hu:(a.Bridges.getD i default).Up=true):Lk a b a.Down (i+1) :=
  ⟨h.g,h.n,h.l,h.d,h.id,fun k=>by
    rw [h.up k]
    by_cases e:k=i
    · subst e;rw [if_neg (Nat.lt_irrefl _),if_pos (Nat.lt_succ_self _),hu,decide_eq_true hi]
    · by_cases c:k < i
      · rw [if_pos c,if_pos (by omega)]
      · rw [if_neg c,if_neg (by omega)]⟩
theorem lk_nt {a b:TreeWorld} (h:Lk a b a.Down a.Bridges.length):Nt a b :=
  ⟨⟨h.g,⟨h.n,h.l⟩,h.d⟩,fun c=>by
    unfold upAt;rw [h.up];split
    · rfl
    · rename_i hn;rw [decide_eq_false hn,List.getD_eq_getElem?_getD,List.getElem?_eq_none (by omega)];exact rfl,h.id⟩
def idsOf (a:TreeWorld):List Int:=a.Bridges.map (·.Id)
theorem ids_len (a:TreeWorld):(idsOf a).length=a.Bridges.length:=by simp [idsOf]
theorem ids_get {a:TreeWorld} {i:Nat} (hi:i < a.Bridges.length):(idsOf a).getD i default=(a.Bridges.getD i default).Id:=by
  simp [idsOf,List.getD_eq_getElem?_getD,hi]
theorem open_ok {a:TreeWorld} (g:Good a):openWorld (idsOf a) a.Links=(newWorld (idsOf a) a.Links,true):=by
  have hl:linksOk ((idsOf a).length:Int) a.Links=true:=by rw [ids_len]; exact g.link
  have key:worldOk (newWorld (idsOf a) a.Links)=true:=by
    rw [newOk hl];unfold idsOk;refine allR_of fun i hi=>?_;have hi':i < a.Bridges.length:=by rw [← ids_len]; exact hi
    obtain ⟨h1,h2,_⟩:=bridge_iff.1 (g.br i hi');rw [Bool.and_eq_true,ids_get hi'];refine ⟨inR_iff.2 h1,allR_of fun k hk=>?_⟩;rw [ids_get (by omega),Bool.not_eq_true',beq_eq_false_iff_ne];exact h2 k hk
  unfold openWorld;rw [if_pos ⟨hl,key⟩]
theorem lk_open {a:TreeWorld} (g:Good a):Lk a (newWorld (idsOf a) a.Links) (a.Down.take 0) 0:=by
  have ho:=open_ok g;have gw:worldOk (newWorld (idsOf a) a.Links)=true:=by
    unfold openWorld at ho;split at ho
    · rename_i h; exact h.2
    · exact absurd (congrArg Prod.snd ho) (by simp)
  refine ⟨good_iff.1 gw,by simp [newWorld,idsOf],rfl,rfl,fun c=>?_,fun k=>?_⟩
  · unfold idAt
    by_cases hc:c < a.Bridges.length
    · rw [newBridge_get (by rw [ids_len]; exact hc),ids_get hc]; rfl
    · rw [List.getD_eq_getElem?_getD,List.getD_eq_getElem?_getD,List.getElem?_eq_none (by simp [newWorld,idsOf]; omega),List.getElem?_eq_none (by omega)]
  · rw [if_neg (by omega)]
    by_cases hc:k < a.Bridges.length
    · rw [newBridge_get (by rw [ids_len]; exact hc),decide_eq_true hc]; rfl
    · rw [decide_eq_false hc,List.getD_eq_getElem?_getD,List.getElem?_eq_none (by simp [newWorld,idsOf]; omega)]
      rfl
theorem rt_minds {w v:TreeWorld} (hw:Rt w) (hv:Rt v) (n:Nt w v) {i:Nat} (hi:i < w.Bridges.length):(w.Bridges.getD i default).Mind=(v.Bridges.getD i default).Mind:=by
  have hW:=hw.g.wok;have hd:=hw.g.dn
  by_cases hu:(w.Bridges.getD i default).Up=true
  · rw [hw.self.mind hW hd hi hu,(hv.r w hw.g n).mind hW hd hi hu]
  · have h1:=(bridge_iff.1 (hw.g.br i hi)).2.2;have h2:=(bridge_iff.1 (hv.g.br i (by rw [n.k.s.n]; exact hi))).2.2;have h3:=n.up (i:Int);unfold upAt at h3;rw [Int.toNat_natCast] at h3;rw [if_neg hu] at h1;rw [h3,if_neg hu] at h2;unfold mindZero at h1 h2;generalize (w.Bridges.getD i default).Mind=m at *;generalize (v.Bridges.getD i default).Mind=k at *;obtain ⟨⟨a,b,c⟩,d⟩:=m;obtain ⟨⟨a',b',c'⟩,d'⟩:=k;simp only [Bool.and_eq_true,beq_iff_eq,and_true] at h1 h2;obtain ⟨⟨rfl,rfl,rfl⟩,rfl⟩:=h1;obtain ⟨⟨rfl,rfl,rfl⟩,rfl⟩:=h2
    rfl
theorem rt_passes {w v:TreeWorld} (hw:Rt w) (hv:Rt v) (n:Nt w v):passL w w.Links.length=passL v v.Links.length:=by
  have hW:=hw.g.wok;have hd:=hw.g.dn;rw [n.k.s.links];unfold passL;refine congrArg _ (List.filter_congr fun i hi=>?_);have hi':=List.mem_range.1 hi;rw [Bool.eq_iff_iff,hw.self.pass hW hd hi',(hv.r w hw.g n).pass hW hd hi']
end Go.Proofs.YtejhbiefhpgjeaaGreat
