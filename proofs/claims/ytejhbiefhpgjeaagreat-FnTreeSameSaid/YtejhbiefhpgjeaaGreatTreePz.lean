/-
  Plain Lean: what TreeWorldOk says, impl's and the reference's alike; no condition but those typed.
-/
import Derived.Test.YtejhbiefhpgjeaaGreatKz5
import Derived.Test.YtejhbiefhpgjeaaGreatMkz
set_option linter.all false
namespace Go.Proofs.YtejhbiefhpgjeaaGreat
open Go Go.Ab
set_option maxHeartbeats 400000
set_option maxRecDepth 100000
def inR (a lo hi:Int):Bool:=decide (lo≤a) && decide (a≤hi)
theorem inR_iff {a lo hi:Int}:inR a lo hi=true ↔ lo≤a∧a≤hi:=by simp [inR]
@[simp] theorem within_p (a lo hi:Int):impl_within_m a lo hi=some (inR a lo hi):=rfl
@[simp] theorem l81In_p (a lo hi:Int):spec_l81In_m a lo hi=some (inR a lo hi):=by simp [spec_l81In_m,inR]
def nothing (v:TreeVector):Bool:=v.Root == 0 && (v.Cost == 0 && v.Age == 0)
@[simp] theorem nothing_p (v:TreeVector):impl_TreeVector_nothing_m v=some (nothing v):=by simp [impl_TreeVector_nothing_m,nothing]
def vecOk (v:TreeVector):Bool:=nothing v || (inR v.Root 1 1000 && inR v.Cost 0 1000 && inR v.Age 0 10)
@[simp] theorem implVecOk_p (v:TreeVector):impl_TreeVectorOk_m v=some (vecOk v):=by
  unfold impl_TreeVectorOk_m vecOk
  simp only [nothing_p,within_p,bd_val,gcall_val]
  cases nothing v <;> cases inR v.Root 1 1000 <;> cases inR v.Cost 0 1000 <;> simp
@[simp] theorem specVecOk_p (v:TreeVector):spec_TreeVectorOk_m v=some (vecOk v):=by
  unfold spec_TreeVectorOk_m vecOk
  by_cases h:v.Root=0
  · simp [h,nothing,inR]
  · simp only [l81In_p,bd_val,gcall_val,nothing]
    cases inR v.Root 1 1000 <;> cases inR v.Cost 0 1000 <;> simp [h]
theorem vecOk_root {v:TreeVector} (h:vecOk v=true):nothing v=(v.Root == 0):=by
  unfold vecOk at h
  cases hn:nothing v
  · simp [hn,inR] at h;simp; omega
  · simp [nothing] at hn;simp [hn]
theorem vecOk_pos {v:TreeVector} (h:vecOk v=true):decide (v.Root > 0)=!nothing v:=by
  rw [vecOk_root h];unfold vecOk at h;simp [nothing,inR] at h
  by_cases h0:v.Root=0
  · simp [h0]
  · simp [h0]; grind
def linkOk (n:Int) (l:TreeLink):Bool:=!((decide (l.A < 0) || decide (l.A ≥ l.B)) || decide (l.B ≥ n)) && inR l.Cost 1 50
def linksOk (n:Int) (ls:List TreeLink):Bool:=inR n 1 8 && decide (ls.length≤12) && allR ls.length (fun i=>linkOk n (ls.getD i default))
theorem implLinksOk_p (n:Int) {ls:List TreeLink} (h:ls.length≤9223372036854775807):impl_TreeLinksOk_m n ls=some (linksOk n ls):=by
  unfold impl_TreeLinksOk_m linksOk;rw [lp_all ls.length (fun i=>linkOk n (ls.getD i default)) (.inl ()) (.inr ()) (fun i hi _=>?_) (fun _=>by rw [if_neg (by simp)]),bd_val]
  · cases allR ls.length (fun i=>linkOk n (ls.getD i default))
    · simp
    · simp only [if_true,within_p,bd_val];rw [show decide ((ls.length:Int)≤12)=decide (ls.length≤12) from decide_eq_decide.2 (by omega)]; simp
  · rw [if_pos (by simp; omega),gd_pos (by omega),Int.toNat_natCast,wrap_succ hi h,within_p,gcall_nb,bd_val];unfold linkOk
    cases (decide ((ls.getD i default).A < 0) || decide ((ls.getD i default).A ≥ (ls.getD i default).B)) || decide ((ls.getD i default).B ≥ n) <;> cases inR (ls.getD i default).Cost 1 50 <;> rfl
theorem specLinksOk_p (n:Int) {ls:List TreeLink} (h:ls.length≤9223372036854775807):spec_TreeLinksOk_m n ls=some (linksOk n ls):=by
  unfold spec_TreeLinksOk_m linksOk;rw [l81In_p,bd_val]
  cases h1:inR n 1 8
  · simp
  · by_cases h2:ls.length≤12
    · rw [if_neg (by simp; omega)];rw [lp_all ls.length (fun i=>linkOk n (ls.getD i default)) (.inl ()) (.inr ()) (fun i hi _=>?_) (fun _=>by rw [if_neg (by simp)]),bd_val]
      · cases allR ls.length (fun i=>linkOk n (ls.getD i default)) <;> simp [h2]
      · rw [if_pos (by simp; omega),gd_pos (by omega),Int.toNat_natCast,wrap_succ hi h,l81In_p,gcall_nb,bd_val];unfold linkOk
        cases (decide ((ls.getD i default).A < 0) || decide ((ls.getD i default).A ≥ (ls.getD i default).B)) || decide ((ls.getD i default).B ≥ n) <;> cases inR (ls.getD i default).Cost 1 50 <;> rfl
    · rw [if_pos (by simp; omega)];simp [h2]
def hasR (n:Nat) (p:Nat→Bool):Bool:=!allR n (fun i=>!p i)
theorem hasR_of {n:Nat} {p:Nat→Bool}:(firstR p n).isSome=hasR n p:=by
  unfold hasR
  cases h:firstR p n with
  | some i =>
    obtain ⟨h1,h2,_⟩:=firstR_some h;rw [allR_false h1 (by simp [h2])]; rfl
  | none=>rw [allR_of (fun i hi=>by simp [firstR_none h i hi])]; rfl
def hasI (xs:List Int) (a:Int):Bool:=hasR xs.length (fun i=>xs.getD i default == a)
theorem indexI_p {xs:List Int} (h:xs.length≤9223372036854775807) (a:Int):slices_Index_int_int_m xs a=some (((firstR (fun i=>xs.getD i default == a) xs.length).map (fun i:Nat=>(i:Int))).getD (-1)):=by
  unfold slices_Index_int_int_m;rw [lp_first xs.length (fun i=>xs.getD i default == a) (fun i=>.inl (i:Int)) (.inr ()) (fun i hi=>?_) (by rw [if_neg (by simp)]),bd_val]
  · cases firstR (fun i=>xs.getD i default == a) xs.length <;> rfl
  · rw [if_pos (by simp; omega),gd_pos (by omega),Int.toNat_natCast,wrap_succ hi h,show (a == xs.getD i default)=(xs.getD i default == a) from BEq.comm]
    cases xs.getD i default == a <;> rfl
theorem getD_ge {o:Option Nat}:decide ((o.map (fun i:Nat=>(i:Int))).getD (-1) ≥ 0)=o.isSome:=by cases o <;> simp
theorem isDown_p {w:TreeWorld} (h:w.Down.length≤9223372036854775807) (a:Int):impl_TreeWorld_isDown_m w a=some (hasI w.Down a):=by
  unfold impl_TreeWorld_isDown_m slices_Contains_int_int_m;rw [indexI_p h,bd_val,bd_val,getD_ge,hasR_of]; rfl
theorem l82Has_p {xs:List Int} (h:xs.length≤9223372036854775807) (a:Int):spec_l82Has_m xs a=some (hasI xs a):=by
  unfold spec_l82Has_m hasI hasR;rw [lp_all xs.length (fun i=>!(xs.getD i default == a)) (.inl ()) (.inr ()) (fun i hi _=>?_) (fun _=>by rw [if_neg (by simp)]),bd_val]
  · cases allR xs.length (fun i=>!(xs.getD i default == a)) <;> rfl
  · rw [if_pos (by simp; omega),gd_pos (by omega),Int.toNat_natCast,wrap_succ hi h]
    cases xs.getD i default == a <;> rfl
def mindZero (m:TreeMind):Bool:=((m.Vector.Root == 0) && ((m.Vector.Cost == 0) && ((m.Vector.Age == 0) && true))) && ((m.Link == 0) && true)
def bridgeOk (w:TreeWorld) (i:Nat):Bool :=
  inR (w.Bridges.getD i default).Id 1 1000 && allR i (fun k=>!((w.Bridges.getD k default).Id == (w.Bridges.getD i default).Id)) &&
  (if (w.Bridges.getD i default).Up=true then vecOk (w.Bridges.getD i default).Mind.Vector && !nothing (w.Bridges.getD i default).Mind.Vector && inR (w.Bridges.getD i default).Mind.Link (-1) ((w.Links.length:Int) - 1)
   else mindZero (w.Bridges.getD i default).Mind)
theorem getD_take {α:Type} [Inhabited α] {xs:List α} {n i:Nat} (h:i < n):(xs.take n).getD i default=xs.getD i default:=by
  simp [List.getD_eq_getElem?_getD,List.getElem?_take,h]
theorem containsB_p {xs:List TreeBridge} (h:xs.length≤9223372036854775807) {n:Nat} (hn:n≤xs.length) (b:TreeBridge) :
    slices_ContainsFunc_TreeBridge_TreeBridge_impl_TreeWorld_bridgesOk_1_m (xs.take n) b=some (hasR n (fun k=>(xs.getD k default).Id == b.Id)):=by
  unfold slices_ContainsFunc_TreeBridge_TreeBridge_impl_TreeWorld_bridgesOk_1_m slices_IndexFunc_TreeBridge_TreeBridge_impl_TreeWorld_bridgesOk_1_m;have hl:(xs.take n).length=n:=by simp; omega
  rw [hl,lp_first n (fun k=>(xs.getD k default).Id == b.Id) (fun i=>.inl (i:Int)) (.inr ()) (fun i hi=>?_) (by rw [if_neg (by simp)]),bd_val,← hasR_of,← getD_ge]
  · cases firstR (fun k=>(xs.getD k default).Id == b.Id) n <;> rfl
  · rw [if_pos (by simp; omega),gd_pos (by omega),Int.toNat_natCast,wrap_succ hi (by omega),getD_take hi];simp only [impl_TreeWorld_bridgesOk_1_m,bd_val]
    cases (xs.getD i default).Id == b.Id <;> rfl
theorem implBridges_p {w:TreeWorld} (hb:w.Bridges.length≤9223372036854775807) (hl:w.Links.length≤9223372036854775807):impl_TreeWorld_bridgesOk_m w=some (allR w.Bridges.length (bridgeOk w)):=by
  unfold impl_TreeWorld_bridgesOk_m;rw [lp_all w.Bridges.length (bridgeOk w) (.inl ()) (.inr ()) (fun i hi _=>?_) (fun _=>by rw [if_neg (by simp)]),bd_val]
  · cases allR w.Bridges.length (bridgeOk w) <;> rfl
  · rw [if_pos (by simp; omega),gd_pos (by omega),Int.toNat_natCast,wrap_succ hi hb,within_p,bd_val,gd_pos (fun _=>by omega),containsB_p hb (by omega),wrap_i64 (by omega) (by omega)];simp only [implVecOk_p,nothing_p,within_p,gcall_val,bd_val];unfold bridgeOk hasR mindZero
    cases inR (w.Bridges.getD i default).Id 1 1000 <;> cases allR i (fun k=>!((w.Bridges.getD k default).Id == (w.Bridges.getD i default).Id)) <;> cases (w.Bridges.getD i default).Up <;>
      cases vecOk (w.Bridges.getD i default).Mind.Vector <;> cases nothing (w.Bridges.getD i default).Mind.Vector <;> cases inR (w.Bridges.getD i default).Mind.Link (-1) ((w.Links.length:Int) - 1) <;> simp
    all_goals (by_cases h0:((w.Bridges.getD i default).Mind.Vector.Root=0∧(w.Bridges.getD i default).Mind.Vector.Cost=0∧(w.Bridges.getD i default).Mind.Vector.Age=0)∧(w.Bridges.getD i default).Mind.Link=0 <;> grind)
theorem specBridge_p {w:TreeWorld} (hb:w.Bridges.length≤9223372036854775807) (hl:w.Links.length≤9223372036854775807) {i:Nat} (hi:i < w.Bridges.length):spec_l82BridgeOk_m w (i:Int)=some (bridgeOk w i):=by
  unfold spec_l82BridgeOk_m;rw [gd_pos (by omega),Int.toNat_natCast,l81In_p,bd_val];rw [lp_all i (fun k=>!((w.Bridges.getD k default).Id == (w.Bridges.getD i default).Id)) (.inl ()) (.inr ()) (fun k hk _=>?_) (fun _=>by rw [if_neg (by simp)]),bd_val]
  · rw [wrap_i64 (by omega) (by omega)];simp only [specVecOk_p,l81In_p,gcall_val,bd_val];unfold bridgeOk mindZero
    cases inR (w.Bridges.getD i default).Id 1 1000
    · simp
    · cases allR i (fun k=>!((w.Bridges.getD k default).Id == (w.Bridges.getD i default).Id))
      · simp
      · cases (w.Bridges.getD i default).Up
        · simp
        · cases hv:vecOk (w.Bridges.getD i default).Mind.Vector
          · simp
          · rw [vecOk_pos hv]
            cases nothing (w.Bridges.getD i default).Mind.Vector <;> simp
  · rw [if_pos (by simp; omega),gd_pos (by omega),Int.toNat_natCast,wrap_succ hk (by omega)]
    cases (w.Bridges.getD k default).Id == (w.Bridges.getD i default).Id <;> rfl
def isLink (w:TreeWorld) (a:Int):Bool:=inR a 0 ((w.Links.length:Int) - 1)
theorem isLink_p {w:TreeWorld} (hl:w.Links.length≤9223372036854775807) (a:Int):impl_TreeWorld_isLink_m w a=some (isLink w a):=by
  unfold impl_TreeWorld_isLink_m isLink;rw [wrap_i64 (by omega) (by omega),within_p,bd_val]
def wordOk (w:TreeWorld) (r:TreeWord):Bool:=isLink w r.Link && inR r.End 0 1 && vecOk r.Vector && !nothing r.Vector
def radioOk (w:TreeWorld):Bool:=allR w.Radio.length (fun i=>wordOk w (w.Radio.getD i default))
theorem wordBad_p {w:TreeWorld} (hl:w.Links.length≤9223372036854775807) (r:TreeWord):impl_TreeWorldOk_1_m r w=some (!wordOk w r):=by
  unfold impl_TreeWorldOk_1_m wordOk;simp only [isLink_p hl,within_p,implVecOk_p,nothing_p,gcall_val,bd_val]
  cases isLink w r.Link <;> cases inR r.End 0 1 <;> cases vecOk r.Vector <;> simp
theorem radio_p {w:TreeWorld} (hl:w.Links.length≤9223372036854775807) (hr:w.Radio.length≤9223372036854775807):slices_ContainsFunc_TreeWord_TreeWord_impl_TreeWorldOk_1_m w.Radio w=some (!radioOk w):=by
  unfold slices_ContainsFunc_TreeWord_TreeWord_impl_TreeWorldOk_1_m slices_IndexFunc_TreeWord_TreeWord_impl_TreeWorldOk_1_m;have e:radioOk w=!hasR w.Radio.length (fun i=>!wordOk w (w.Radio.getD i default)):=by simp [radioOk,hasR]
  rw [lp_first w.Radio.length (fun i=>!wordOk w (w.Radio.getD i default)) (fun i=>.inl (i:Int)) (.inr ()) (fun i hi=>?_) (by rw [if_neg (by simp)]),bd_val,e,Bool.not_not,← hasR_of,← getD_ge]
  · cases firstR (fun i=>!wordOk w (w.Radio.getD i default)) w.Radio.length <;> rfl
  · rw [if_pos (by simp; omega),gd_pos (by omega),Int.toNat_natCast,wrap_succ hi (by omega)];simp only [wordBad_p hl,bd_val]
    cases wordOk w (w.Radio.getD i default) <;> rfl
def downAt (w:TreeWorld) (i:Nat):Bool:=isLink w (w.Down.getD i default) && !(decide (i > 0) && decide (w.Down.getD (i - 1) default ≥ w.Down.getD i default))
def slotOk (s:TreeSlot):Bool:=vecOk s.Vector && inR s.Left 0 3 && ((s.Left == 0) == nothing s.Vector)
def endOk (w:TreeWorld) (i:Nat) (s:TreeSlot) (b:Int):Bool:=slotOk s && (nothing s.Vector || (!hasI w.Down i && (w.Bridges.getD b.toNat default).Up))
def endsOk (w:TreeWorld) (i:Nat):Bool:=endOk w i (w.AtA.getD i default) (w.Links.getD i default).A && endOk w i (w.AtB.getD i default) (w.Links.getD i default).B
def worldOk (w:TreeWorld):Bool:=linksOk w.Bridges.length w.Links && allR w.Bridges.length (bridgeOk w) &&
  (decide (w.AtA.length=w.Links.length) && decide (w.AtB.length=w.Links.length) && decide (w.Radio.length≤12)) && allR w.Down.length (downAt w) && radioOk w && allR w.Links.length (endsOk w)
theorem linkAt {n:Int} {ls:List TreeLink} (h:linksOk n ls=true) {i:Nat} (hi:i < ls.length):0≤(ls.getD i default).A∧(ls.getD i default).A < (ls.getD i default).B∧(ls.getD i default).B < n∧1≤(ls.getD i default).Cost∧(ls.getD i default).Cost≤50:=by
  simp only [linksOk,Bool.and_eq_true] at h;have:=allR_get h.2 hi;simp only [linkOk,inR,Bool.and_eq_true,Bool.not_eq_true',Bool.or_eq_false_iff,decide_eq_true_eq,decide_eq_false_iff_not] at this;omega
def slotAt (w:TreeWorld) (i:Nat) (e:Int):TreeSlot:=if e=0 then w.AtA.getD i default else w.AtB.getD i default
def brAt (w:TreeWorld) (i:Nat) (e:Int):Int:=if e=0 then (w.Links.getD i default).A else (w.Links.getD i default).B
theorem slot_p {w:TreeWorld} {i:Nat} (ha:i < w.AtA.length) (hb:i < w.AtB.length) (e:Int):impl_TreeWorld_slot_m w (i:Int) e=some (slotAt w i e):=by
  unfold impl_TreeWorld_slot_m slotAt;rw [gd_pos (by omega),gd_pos (by omega),Int.toNat_natCast]
  by_cases h:e=0
  · rw [if_pos (by simp [h]),if_pos h]
  · rw [if_neg (by simp [h]),if_neg h]
theorem bridgeAt_p {w:TreeWorld} {i:Nat} (ha:i < w.Links.length) (e:Int):impl_TreeWorld_bridgeAt_m w (i:Int) e=some (brAt w i e):=by
  unfold impl_TreeWorld_bridgeAt_m brAt;rw [gd_pos (by omega),gd_pos (by omega),Int.toNat_natCast]
  by_cases h:e=0
  · rw [if_pos (by simp [h]),if_pos h]
  · rw [if_neg (by simp [h]),if_neg h]
theorem implSlot_p {w:TreeWorld} (hd:w.Down.length≤9223372036854775807) (hlo:linksOk w.Bridges.length w.Links=true) (hA:w.AtA.length=w.Links.length) (hB:w.AtB.length=w.Links.length) {i:Nat} (hi:i < w.Links.length) (e:Int) :
    impl_TreeWorld_slotOk_m w (i:Int) e=some (endOk w i (slotAt w i e) (brAt w i e)):=by
  have hl:=linkAt hlo hi;have hbr:0≤brAt w i e∧brAt w i e < w.Bridges.length:=by unfold brAt; split <;> omega
  unfold impl_TreeWorld_slotOk_m endOk slotOk;rw [slot_p (by omega) (by omega),bd_val];simp only [implVecOk_p,within_p,nothing_p,gcall_val,bd_val,isDown_p hd,bridgeAt_p hi]
  cases vecOk (slotAt w i e).Vector
  · simp
  · cases inR (slotAt w i e).Left 0 3
    · simp
    · cases hn:nothing (slotAt w i e).Vector
      · by_cases h0:(slotAt w i e).Left=0
        · simp [h0]
        · cases hd:hasI w.Down i
          · simp [h0];rw [gd_pos hbr];simp [h0]
          · simp [h0,gd]
      · by_cases h0:(slotAt w i e).Left=0
        · simp [h0,gd]
        · simp [h0]
theorem implWorldOk_p {w:TreeWorld} (h1:w.Bridges.length≤9223372036854775807) (h2:w.Links.length≤9223372036854775807) (h3:w.Down.length≤9223372036854775807) (h4:w.Radio.length≤9223372036854775807):impl_TreeWorldOk_m w=some (worldOk w):=by
  unfold impl_TreeWorldOk_m worldOk;rw [implLinksOk_p _ h2,bd_val,implBridges_p h1 h2,gcall_nb,bd_val]
  cases hlo:linksOk w.Bridges.length w.Links
  · simp
  · cases allR w.Bridges.length (bridgeOk w)
    · simp
    · by_cases hA:w.AtA.length=w.Links.length
      · by_cases hB:w.AtB.length=w.Links.length
        · by_cases hR:w.Radio.length≤12
          · rw [if_neg (by simp [hA,hB]; omega)];rw [lp_all w.Down.length (downAt w) (.inl ()) (.inr ()) (fun i hi _=>?_) (fun _=>by rw [if_neg (by simp)]),bd_val]
            · cases allR w.Down.length (downAt w)
              · simp
              · simp only [if_true];rw [lp_all w.Links.length (endsOk w) (.inl ()) (.inr ()) (fun i hi _=>?_) (fun _=>by rw [if_neg (by simp)]),bd_val]
                · cases allR w.Links.length (endsOk w)
                  · simp
                  · simp only [if_true];rw [radio_p h2 h4,bd_val];simp [hA,hB,hR]
                · rw [if_pos (by simp; omega),implSlot_p h3 hlo hA hB hi,bd_val,implSlot_p h3 hlo hA hB hi,gcall_nb,bd_val,wrap_succ hi h2];have e:endsOk w i=(endOk w i (slotAt w i 0) (brAt w i 0) && endOk w i (slotAt w i 1) (brAt w i 1)):=rfl;rw [e]
                  cases endOk w i (slotAt w i 0) (brAt w i 0) <;> cases endOk w i (slotAt w i 1) (brAt w i 1) <;> simp
            · rw [if_pos (by simp; omega),gd_pos (by omega),Int.toNat_natCast,isLink_p h2,bd_val,gd_pos (fun h _=>by
                simp at h;rw [wrap_i64 (by omega) (by omega)]; omega),wrap_succ hi h3]
              unfold downAt
              by_cases h0:0 < i
              · rw [wrap_pred hi h0 h3,Int.toNat_natCast]
                cases isLink w (w.Down.getD i default) <;> simp only [h0,decide_true,Bool.true_and]
                all_goals by_cases hh:w.Down.getD i default≤w.Down.getD (i - 1) default <;> grind
              · cases isLink w (w.Down.getD i default) <;> simp [h0]
          · rw [if_pos (by simp; omega)];simp [hR]
        · rw [if_pos (by simp; omega)];simp [hB]
      · rw [if_pos (by simp; omega)];simp [hA]
theorem specLists_p {w:TreeWorld} (h2:w.Links.length≤9223372036854775807) (h3:w.Down.length≤9223372036854775807) (h4:w.Radio.length≤9223372036854775807) :
    spec_l82Lists_m w=some ((decide (w.AtA.length=w.Links.length) && decide (w.AtB.length=w.Links.length) && decide (w.Radio.length≤12)) && allR w.Down.length (downAt w) && radioOk w):=by
  unfold spec_l82Lists_m
  by_cases hA:w.AtA.length=w.Links.length
  · by_cases hB:w.AtB.length=w.Links.length
    · by_cases hR:w.Radio.length≤12
      · rw [if_neg (by simp [hA,hB]; omega)];rw [lp_all w.Down.length (downAt w) (.inl ()) (.inr ()) (fun i hi _=>?_) (fun _=>by rw [if_neg (by simp)]),bd_val]
        · cases allR w.Down.length (downAt w)
          · simp
          · simp only [if_true];rw [lp_all w.Radio.length (fun i=>wordOk w (w.Radio.getD i default)) (.inl ()) (.inr ()) (fun i hi _=>?_) (fun _=>by rw [if_neg (by simp)]),bd_val]
            · unfold radioOk
              cases allR w.Radio.length (fun i=>wordOk w (w.Radio.getD i default)) <;> simp [hA,hB,hR]
            · rw [if_pos (by simp; omega),gd_pos (by omega),Int.toNat_natCast,wrap_i64 (by omega) (by omega),wrap_succ hi h4];simp only [l81In_p,specVecOk_p,gcall_val,bd_val];unfold wordOk isLink
              cases hv:vecOk (w.Radio.getD i default).Vector
              · cases inR (w.Radio.getD i default).Link 0 ((w.Links.length:Int) - 1) <;> cases inR (w.Radio.getD i default).End 0 1 <;> simp
              · rw [vecOk_root hv]
                cases inR (w.Radio.getD i default).Link 0 ((w.Links.length:Int) - 1) <;> cases inR (w.Radio.getD i default).End 0 1 <;> by_cases h0:(w.Radio.getD i default).Vector.Root=0 <;> grind
        · rw [if_pos (by simp; omega),gd_pos (by omega),Int.toNat_natCast,l81In_p,bd_val,gd_pos (fun h _=>by
            simp at h;rw [wrap_i64 (by omega) (by omega)]; omega),gd_pos (fun _ _=>by omega),wrap_succ hi h3,wrap_i64 (n:=(w.Links.length:Int) - 1) (by omega) (by omega)]
          unfold downAt isLink
          by_cases h0:0 < i
          · rw [wrap_pred hi h0 h3,Int.toNat_natCast]
            cases inR (w.Down.getD i default) 0 ((w.Links.length:Int) - 1) <;> simp only [h0,decide_true,Bool.true_and]
            all_goals by_cases hh:w.Down.getD i default≤w.Down.getD (i - 1) default <;> grind
          · cases inR (w.Down.getD i default) 0 ((w.Links.length:Int) - 1) <;> simp [h0]
      · rw [if_pos (by simp; omega)];simp [hR]
    · rw [if_pos (by simp; omega)];simp [hB]
  · rw [if_pos (by simp; omega)];simp [hA]
theorem specSlot_p (s:TreeSlot):spec_l82SlotOk_m s=some (slotOk s):=by
  unfold spec_l82SlotOk_m slotOk;simp only [specVecOk_p,l81In_p,gcall_val,bd_val]
  cases hv:vecOk s.Vector
  · simp
  · rw [vecOk_root hv]
    cases inR s.Left 0 3 <;> simp
theorem end_eq (w:TreeWorld) (i:Nat) (s:TreeSlot) (b:Int):endOk w i s b=(slotOk s && !((hasI w.Down i || !(w.Bridges.getD b.toNat default).Up) && decide (s.Left > 0))):=by
  unfold endOk
  cases h:slotOk s
  · simp
  · unfold slotOk at h;simp [inR] at h;obtain ⟨⟨_,h1⟩,h2⟩:=h
    cases hn:nothing s.Vector
    · rw [hn] at h2;have:s.Left > 0:=by
        have:s.Left ≠ 0:=by simpa using h2
        omega
      simp [this]
    · rw [hn] at h2;have:s.Left=0:=by simpa using h2
      simp [this]
theorem specEnds_p {w:TreeWorld} (h2:w.Links.length≤9223372036854775807) (hd:w.Down.length≤9223372036854775807) (hlo:linksOk w.Bridges.length w.Links=true) (hA:w.AtA.length=w.Links.length) (hB:w.AtB.length=w.Links.length):spec_l82Ends_m w=some (allR w.Links.length (endsOk w)):=by
  unfold spec_l82Ends_m;rw [lp_all w.Links.length (endsOk w) (.inl ()) (.inr ()) (fun i hi _=>?_) (fun _=>by rw [if_neg (by simp)]),bd_val]
  · cases allR w.Links.length (endsOk w) <;> rfl
  · have hl:=linkAt hlo hi;rw [if_pos (by simp; omega),gd_pos (by omega),gd_pos (by omega),Int.toNat_natCast];simp only [specSlot_p,bd_val,gcall_val,l82Has_p hd];rw [gd_pos (fun _=>by omega)];unfold endsOk;rw [end_eq,end_eq,wrap_succ hi h2]
    cases slotOk (w.AtA.getD i default)
    · simp
    · cases slotOk (w.AtB.getD i default)
      · simp
      · simp only [Bool.not_true,Bool.false_eq_true,if_false,if_true,Bool.or_self];rw [gd_pos (fun _=>by omega),gd_pos (fun _=>by omega),gd_pos (fun _ _=>by omega),gd_pos (fun _ _=>by omega)]
        cases hasI w.Down i <;> cases (w.Bridges.getD (w.Links.getD i default).A.toNat default).Up <;> cases (w.Bridges.getD (w.Links.getD i default).B.toNat default).Up <;> simp
        all_goals (by_cases ha:0 < (w.AtA.getD i default).Left <;> by_cases hb:0 < (w.AtB.getD i default).Left <;> grind)
theorem specWorldOk_p {w:TreeWorld} (h1:w.Bridges.length≤9223372036854775807) (h2:w.Links.length≤9223372036854775807) (h3:w.Down.length≤9223372036854775807) (h4:w.Radio.length≤9223372036854775807):spec_TreeWorldOk_m w=some (worldOk w):=by
  unfold spec_TreeWorldOk_m worldOk;rw [specLinksOk_p _ h2,bd_val,specLists_p h2 h3 h4,gcall_nb,bd_val]
  cases hlo:linksOk w.Bridges.length w.Links
  · simp
  · by_cases hA:w.AtA.length=w.Links.length
    · by_cases hB:w.AtB.length=w.Links.length
      · rw [lp_all w.Bridges.length (bridgeOk w) (.inl ()) (.inr ()) (fun i hi _=>?_) (fun _=>by rw [if_neg (by simp)]),bd_val,specEnds_p h2 h3 hlo hA hB]
        · cases allR w.Bridges.length (bridgeOk w) <;> cases allR w.Down.length (downAt w) <;> cases radioOk w <;> by_cases hR:w.Radio.length≤12 <;> simp [hA,hB,hR]
        · rw [if_pos (by simp; omega),specBridge_p h1 h2 hi,bd_val,wrap_succ hi h1]
          cases bridgeOk w i <;> rfl
      · simp [hB]
    · simp [hA]
end Go.Proofs.YtejhbiefhpgjeaaGreat
