/-
  Plain Lean: bridges, links, whole steps: the program's do what the reference's do.
-/
import Derived.Test.YtejhbiefhpgjeaaGreatKz5
import Derived.Test.YtejhbiefhpgjeaaGreatTreeIz
set_option linter.all false
namespace Go.Proofs.YtejhbiefhpgjeaaGreat
open Go Go.Ab
set_option maxHeartbeats 400000
theorem bd_some {α β:Type} {m:Option α} {k:α→Option β} {y:β} (h:bd m k=some y):∃ x,m=some x∧k x=some y:=by
  cases m with
  | none=>exact absurd h (by simp [bd])
  | some x=>exact ⟨x,rfl,h⟩
theorem iBridge_p {w:TreeWorld} (h:Good w) (e:TreeEvent):impl_TreeWorld_onBridge_m w e.Kind e.At=some (bridgeEv w e):=by
  have h8:=h.n8;have h12:=h.l12;unfold impl_TreeWorld_onBridge_m bridgeEv;rw [wrap_i64 (by omega) (by omega),within_p,bd_val]
  cases hi:inR e.At 0 ((w.Bridges.length:Int) - 1)
  · rfl
  · have hi':=inR_iff.1 hi;have hba:e.At.toNat < w.Bridges.length:=by omega
    rw [if_neg (by decide),gd_pos (by omega),if_pos rfl]
    by_cases h7:e.Kind=7
    · rw [if_pos (by simp [h7]),if_pos h7]
      cases hu:(w.Bridges.getD e.At.toNat default).Up
      · rw [if_pos (show (!false)=true from rfl),if_neg (show ¬ (false=true) by decide),selfMind_p,bd_val,bd_val,List.set_set,getD_set hba]
        rfl
      · rfl
    · rw [if_neg (by simp [h7]),if_neg h7,bd_val,bd_val,List.set_set,getD_set hba];obtain ⟨i1,i2,i3⟩:=wiped_in h e.At _ (Nat.le_refl _);refine (bd_fold (fun (v:TreeWorld) i=>(v.AtA,v.AtB,(i:Int))) w.Links.length (wipeStep e.At) (fun v=>(v.AtA.length,v.AtB.length,v.AtA,v.AtB)) w (fun _ v=>Good v∧Slots w v) rfl ⟨h,rfl⟩ (fun i v hi hv=>⟨good_wipe hv.1 (by rw [hv.2]; exact hi),slots_wipe hv.2⟩) ?_ ?_).trans ?_
      · intro i v hi hv;have hl:v.Links=w.Links:=hv.2.links;have ha:=hv.1.a;have hb:=hv.1.b;rw [hl] at ha hb;rw [if_pos (by simp; omega)];refine (bd_of (m:=lp _ _) (x:=((wipeStep e.At v i).AtA.length,(wipeStep e.At v i).AtB.length,(wipeStep e.At v i).AtA,(wipeStep e.At v i).AtB)) ?_).trans ?_
        · have vA:(wipeStep e.At v i).AtA=if (w.Links.getD i default).A=e.At then v.AtA.set i noSlot else v.AtA:=by
            unfold wipeStep;rw [hl];dsimp only;split <;> split <;> rfl
          have vB:(wipeStep e.At v i).AtB=if (w.Links.getD i default).B=e.At then v.AtB.set i noSlot else v.AtB:=by
            unfold wipeStep;rw [hl];dsimp only;split <;> split <;> rfl
          refine (lp_more (s':=((wipeStep e.At v i).AtA,v.AtB,1)) ?_).trans ((lp_more (s':=((wipeStep e.At v i).AtA,(wipeStep e.At v i).AtB,2)) ?_).trans (lp_done ?_))
          · dsimp only;rw [if_pos (by simp)];refine (bd_of (bridgeAt_p (w:={ w with Bridges:=_,AtA:=v.AtA,AtB:=v.AtB }) hi 0)).trans ?_;rw [vA];show (if ((w.Links.getD i default).A == e.At)=true then _ else _)=_
            by_cases c:(w.Links.getD i default).A=e.At
            · rw [if_pos (c:=((w.Links.getD i default).A == e.At)=true) (by simpa using c),if_pos (c:=(w.Links.getD i default).A=e.At) c,if_pos (by simp)];unfold impl_TreeWorld_slot_r03_04_at_s1_m;dsimp only;rw [gd_pos (by omega),bd_val,Int.toNat_natCast]
              rfl
            · rw [if_neg (c:=((w.Links.getD i default).A == e.At)=true) (by simpa using c),if_neg (c:=(w.Links.getD i default).A=e.At) c]
              rfl
          · dsimp only;rw [if_pos (by simp)];refine (bd_of (bridgeAt_p (w:={ w with Bridges:=_,AtA:=(wipeStep e.At v i).AtA,AtB:=v.AtB }) hi 1)).trans ?_;rw [vB];show (if ((w.Links.getD i default).B == e.At)=true then _ else _)=_
            by_cases c:(w.Links.getD i default).B=e.At
            · rw [if_pos (c:=((w.Links.getD i default).B == e.At)=true) (by simpa using c),if_pos (c:=(w.Links.getD i default).B=e.At) c,if_neg (by simp)];unfold impl_TreeWorld_slot_r03_04_at_s0_m;dsimp only;rw [gd_pos (by omega),bd_val,Int.toNat_natCast]
              rfl
            · rw [if_neg (c:=((w.Links.getD i default).B == e.At)=true) (by simpa using c),if_neg (c:=(w.Links.getD i default).B=e.At) c]
              rfl
          · rw [if_neg (by simp)]
        · dsimp only;rw [wrap_succ hi (by omega)]
      · intro v hv;rw [if_neg (by simp)]
      · have hw:wiped w e.At={ w with AtA:=(wiped w e.At).AtA,AtB:=(wiped w e.At).AtB }:=i2;show some _=some (setBr (wiped w e.At) _ _);rw [hw]
        rfl
theorem less_p (a b:Int):cmp_Less_int_m a b=some (decide (a < b)):=by
  unfold cmp_Less_int_m cmp_isNaN_int_m;simp [gcall_val]
theorem half_p {a:Int} (h0:0≤a) (h1:a≤4611686018427387904):IntKind.i64.wrap ((IntKind.u64.wrap (IntKind.i64.wrap a):Int).fdiv (2 ^ min (1:Int).toNat IntKind.u64.bits))=a / 2:=by
  rw [wrap_i64 (n:=a) (by omega) (by omega)];have e:IntKind.u64.wrap a=a:=by
    show a % 18446744073709551616=a;omega
  rw [e,show (2:Int) ^ min (1:Int).toNat IntKind.u64.bits=2 from rfl,Int.fdiv_eq_ediv_of_nonneg _ (by decide),wrap_i64 (by omega) (by omega)]
theorem bsearch_p {xs:List Int} (hp:xs.Pairwise (· < ·)) (hl:xs.length≤1048576) (a:Int):slices_BinarySearch_int_int_m xs a=some (((downL xs a).length:Int),hasI xs a):=by
  have hLR:(downL xs a).length+(downR xs a).length=xs.length:=by
    have:=congrArg List.length (downLR xs a);rw [List.length_append] at this;exact this
  have lo:∀ k,k < (downL xs a).length→xs.getD k default < a:=fun k hk=>by
    rw [List.getD_eq_getElem?_getD,downs_left hk,List.getElem?_eq_getElem hk];exact downL_lt _ (List.getElem_mem hk)
  have hi:∀ k,(downL xs a).length≤k→k < xs.length→a≤xs.getD k default:=fun k h1 h2=>by
    have:=downs_right xs a (k - (downL xs a).length);rw [show (downL xs a).length+(k - (downL xs a).length)=k by omega] at this;rw [this];exact downR_ge hp _ (getD_mem (by omega))
  have key:Post (slices_BinarySearch_int_int_m xs a) fun x=>x=(((downL xs a).length:Int),hasI xs a):=by
    unfold slices_BinarySearch_int_int_m;refine .bd (Q:=fun x=>x=((downL xs a).length:Int)) (.lp (fun s=>0≤s.1∧s.1≤((downL xs a).length:Int)∧((downL xs a).length:Int)≤s.2∧s.2≤(xs.length:Int)) (fun s=>(s.2 - s.1).toNat) ⟨Int.le_refl _,by dsimp only; omega,by dsimp only; omega,Int.le_refl _⟩ fun s ⟨i1,i2,i3,i4⟩=>?_) fun x hx=>?_
    · refine .ite (fun c=>?_) fun c=>.ret ?_
      · simp only [decide_eq_true_eq] at c;rw [half_p (by omega) (by omega)];refine .gd (by decide) (.gd ⟨by omega,by omega⟩ ?_);rw [less_p,bd_val,wrap_i64 (n:=(s.1+s.2) / 2+1) (by omega) (by omega)];refine .ite (fun c2=>?_) fun c2=>?_
        · simp only [decide_eq_true_eq] at c2;refine .ret ⟨⟨by dsimp only; omega,?_,by dsimp only; omega,i4⟩,by dsimp only; omega⟩;dsimp only;refine Int.not_lt.1 fun hlt=>?_;have:=hi ((s.1+s.2) / 2).toNat (by omega) (by omega);omega
        · simp only [decide_eq_true_eq] at c2;refine .ret ⟨⟨i1,i2,?_,by dsimp only; omega⟩,by dsimp only; omega⟩;dsimp only;refine Int.not_lt.1 fun hlt=>c2 (lo _ (by omega))
      · simp only [decide_eq_true_eq] at c;show s.1=_;omega
    · subst hx;refine .gd (fun c=>?_) (.gd (fun _ c=>?_) ?_)
      · simp only [decide_eq_true_eq] at c; omega
      · simp only [decide_eq_true_eq] at c; omega
      · unfold slices_isNaN_int_m;rw [gcall_val,bd_val,gcall_val,bd_val];refine .ret ?_;refine Prod.ext rfl ?_;show _=hasI xs a;rw [Int.toNat_natCast]
        cases hh:hasI xs a
        · have hn:a ∉ xs:=fun hm=>by rw [mem_hasI.2 hm] at hh; exact absurd hh (by decide)
          rw [Bool.and_eq_false_iff]
          by_cases c:(downL xs a).length < xs.length
          · right
            have:xs.getD (downL xs a).length default ≠ a:=fun e=>hn (e ▸ getD_mem c);rw [show (xs.getD (downL xs a).length default == a)=false from beq_eq_false_iff_ne.2 this];simp
          · left
            simp; omega
        · have hm:=mem_hasI.1 hh;obtain ⟨k,hk,ek⟩:=List.getElem_of_mem hm;have eg:xs.getD k default=a:=by rw [List.getD_eq_getElem?_getD,List.getElem?_eq_getElem hk]; exact ek
          have hk1:(downL xs a).length≤k:=Nat.not_lt.1 fun hlt=>by have:=lo k hlt; omega
          have hk2:k=(downL xs a).length:=by
            refine Classical.byContradiction fun hne=>?_;have h1:=hi (downL xs a).length (Nat.le_refl _) (by omega);have h2:=List.pairwise_iff_getElem.1 hp (downL xs a).length k (by omega) hk (by omega);rw [List.getD_eq_getElem?_getD,List.getElem?_eq_getElem (by omega:(downL xs a).length < xs.length)] at h1;have h1':a≤xs[(downL xs a).length]:=h1;omega
          subst hk2;rw [eg];simp; omega
  obtain ⟨x,e,hx⟩:=key;rw [e,hx]
theorem downR_cons {xs:List Int} {a:Int} (hp:xs.Pairwise (· < ·)) (h:a ∈ xs):∃ t,downR xs a=a :: t∧∀ x ∈ t,a < x:=by
  have hx:=hp;rw [← downLR xs a,List.pairwise_append] at hx;have hm:a ∈ downR xs a:=by
    rw [← downLR xs a] at h;rcases List.mem_append.1 h with h | h
    · exact absurd (downL_lt a h) (Int.lt_irrefl _)
    · exact h
  rcases hd:downR xs a with _ | ⟨y,t⟩
  · rw [hd] at hm; exact absurd hm (by simp)
  · have p:=hx.2.1;rw [hd] at p hm;rw [List.pairwise_cons] at p;have hy:a≤y:=downR_ge hp y (by rw [hd]; exact List.mem_cons_self ..);rcases List.mem_cons.1 hm with e | hm
    · exact ⟨t,by rw [e],fun x hx=>by have:=p.1 x hx; omega⟩
    · have:=p.1 a hm; omega
theorem filt_id {xs:List Int} {a:Int} (h:a ∉ xs):xs.filter (fun x=>x != a)=xs:=List.filter_eq_self.2 fun x hx=>by simp; exact fun e=>h (e ▸ hx)
theorem downs_drop (xs:List Int) (a:Int):xs.drop (downL xs a).length=downR xs a :=
  calc xs.drop (downL xs a).length=(downL xs a ++ downR xs a).drop (downL xs a).length:=by rw [downLR]
    _=downR xs a:=List.drop_left
theorem notR {xs:List Int} {a:Int} (h:hasI xs a=false):a ∉ downR xs a:=fun hm=>by
  have:a ∈ xs:=by rw [← downLR xs a]; exact List.mem_append_right _ hm
  rw [mem_hasI.2 this] at h; exact absurd h (by decide)
theorem ins_p {xs:List Int} {a:Int} (h:hasI xs a=false):insL xs (downL xs a).length [a]=downN xs a 8:=by
  unfold insL downN;rw [downs_take,downs_drop,if_pos rfl,filt_id (notR h)]
theorem keep8_p {xs:List Int} {a:Int} (hp:xs.Pairwise (· < ·)) (h:hasI xs a=true):xs=downN xs a 8:=by
  obtain ⟨t,e,ht⟩:=downR_cons hp (mem_hasI.1 h);have hn:a ∉ t:=fun hm=>absurd (ht a hm) (Int.lt_irrefl _);unfold downN;rw [if_pos rfl,e,List.filter_cons,if_neg (by simp),filt_id hn,List.append_assoc];show xs=downL xs a ++ (a :: t);rw [← e,downLR]
theorem del_p {xs:List Int} {a k:Int} (hp:xs.Pairwise (· < ·)) (h:hasI xs a=true) (hk:k ≠ 8):delL xs (downL xs a).length ((downL xs a).length+1)=downN xs a k:=by
  obtain ⟨t,e,ht⟩:=downR_cons hp (mem_hasI.1 h);have hn:a ∉ t:=fun hm=>absurd (ht a hm) (Int.lt_irrefl _);unfold delL downN;rw [if_neg hk,e,List.filter_cons,if_neg (by simp),filt_id hn,List.append_nil,downs_take,← List.drop_drop,downs_drop,e]
  rfl
theorem keep9_p {xs:List Int} {a k:Int} (h:hasI xs a=false) (hk:k ≠ 8):xs=downN xs a k:=by
  unfold downN;rw [if_neg hk,filt_id (notR h),List.append_nil,downLR]
theorem told_p {w:TreeWorld} (h:Good w) {i:Nat} (hi:i < w.Links.length) {e:Int} (he:e=0 ∨ e=1):impl_TreeWorld_told_m w (i:Int) e=some (wordFor w i e).Vector:=by
  have hb:=brAt_in' h hi (1 - e);unfold impl_TreeWorld_told_m wordFor;rw [wrap_i64 (n:=1 - e) (by omega) (by omega),bridgeAt_p hi,bd_val,gd_pos hb]
theorem iForget_p {w:TreeWorld} (h:WOk w) {a:Nat} (ha:a < w.Links.length) {e:Int} (hw:WOk (setSlot w a e noSlot)):(bd (impl_TreeWorld_bridgeAt_m (setSlot w a e noSlot) (a:Int) e) fun x =>
    impl_TreeWorld_rethink_m (setSlot w a e noSlot) x)=some (forget w a e):=by
  have hl:=linkAt h.link ha;have hbr:0≤brAt w a e∧brAt w a e < w.Bridges.length:=by unfold brAt; split <;> omega
  have tp:=iThinks_p hw (b:=(brAt w a e).toNat) (by rw [same_setSlot.n]; omega);have eb:(((brAt w a e).toNat:Nat):Int)=brAt w a e:=by omega
  rw [eb] at tp;have el:(setSlot w a e noSlot).Links=w.Links:=same_setSlot.links;rw [bridgeAt_p (by rw [el]; exact ha),bd_val,show brAt (setSlot w a e noSlot) a e=brAt w a e by unfold brAt; rw [el],tp]
  rfl
theorem forget_sh (w:TreeWorld) (a:Nat) (e:Int):forget w a e={ w with Bridges:=(forget w a e).Bridges,AtA:=(forget w a e).AtA,AtB:=(forget w a e).AtB }:=by
  unfold forget;rw [thinks_sh];unfold setSlot;split <;> rfl
theorem iLink_p {w:TreeWorld} (h:Good w) (e:TreeEvent):impl_TreeWorld_onLink_m w e=some (if e.Kind=1 then sayEv w e else if e.Kind=8 ∨ e.Kind=9 then linkEv w e else w):=by
  have h12:=h.l12;have hd12:=h.d12;have hp:=(downs_pw h.down).1;unfold impl_TreeWorld_onLink_m linkEv sayEv;rw [isLink_p (by omega),bd_val];unfold isLink
  cases hi:inR e.At 0 ((w.Links.length:Int) - 1)
  · rw [if_pos (show (!false)=true from rfl)];simp
  · have hi':=inR_iff.1 hi;have ha:e.At.toNat < w.Links.length:=by omega
    have ea:((e.At.toNat:Nat):Int)=e.At:=by omega
    rw [if_neg (by decide),bsearch_p hp (by omega),bd_val]
    by_cases k1:e.Kind=1
    · rw [if_pos (c:=(e.Kind == 1)=true) (by simpa using k1),if_pos k1,within_p,bd_val]
      by_cases c2:inR e.End 0 1=true
      · have he:=inR_iff.1 c2;have he':e.End=0 ∨ e.End=1:=by omega
        have ho:=implOpenL_p h.wok (by omega) ha;rw [ea] at ho;rw [c2,ho,gcall_pos rfl,bd_val]
        by_cases c3:isOpen w e.At.toNat=true
        · have tp:=told_p h ha he';rw [ea] at tp;rw [c3,if_pos (by decide),if_pos ⟨⟨rfl,rfl⟩,rfl⟩,tp,bd_val,iPut34_p,iPut_p,bd_val];have e1:(⟨e.At,e.End,(wordFor w e.At.toNat e.End).Vector⟩:TreeWord)=wordFor w e.At.toNat e.End:=by unfold wordFor; rw [ea]
          rw [e1,put_sh]
        · rw [if_neg (by simpa using c3),if_neg (fun h=>c3 h.2)]
      · rw [gcall_neg c2,bd_val,if_neg (by simp [c2]),if_neg (fun h=>c2 h.1.2)]
    · rw [if_neg (c:=(e.Kind == 1)=true) (by simpa using k1),if_neg k1]
      by_cases k8:e.Kind=8
      · rw [if_pos (c:=(e.Kind == 8)=true) (by simpa using k8),if_pos (c:=e.Kind=8 ∨ e.Kind=9) (.inl k8),if_pos (c:=true=true) rfl,if_pos (c:=e.Kind=8) k8];dsimp only;have e8:((if (!hasI w.Down e.At)=true then bd (slices_Insert_int_int_m w.Down ((downL w.Down e.At).length:Int) ([e.At]:List Int)) fun x10=>some x10 else some w.Down):Option (List Int))=some (downN w.Down e.At e.Kind):=by
          have lL:(downL w.Down e.At).length≤w.Down.length:=by
            have:=congrArg List.length (downLR w.Down e.At);rw [List.length_append] at this;omega
          rw [k8]
          cases hh:hasI w.Down e.At
          · unfold slices_Insert_int_int_m;rw [if_pos (show (!false)=true from rfl),gd_pos (by simp; omega),bd_val,Int.toNat_natCast,ins_p hh]
          · rw [if_neg (by decide),← keep8_p hp hh]
        rw [e8,bd_val];obtain ⟨p1,p2⟩:=downs_pw h.down;have n1:=downN_pw (a:=e.At) (k:=e.Kind) p1;have n2:∀ x ∈ downN w.Down e.At e.Kind,0≤x∧x≤(w.Links.length:Int) - 1:=fun x hx=>by
          rcases downN_mem hx with ⟨_,rfl⟩ | ⟨hx,_⟩
          · exact hi'
          · exact p2 x hx
        obtain ⟨c1,c2⟩:=cut_good h ha n1 n2 (fun x hx=>by
          rcases downN_mem hx with ⟨_,rfl⟩ | ⟨hx,_⟩
          · exact .inl ea.symm
          · exact .inr hx)
        have hA:=h.a;have hB:=h.b;have f1:=iForget_p (w:=setDown w (downN w.Down e.At e.Kind)) ⟨h.wok.l,h.link,h.a,h.b,h.wok.slots,h.br⟩ ha c1;have s0:Same w (setDown w (downN w.Down e.At e.Kind)):=⟨rfl,rfl⟩;have s1:Same w (forget (setDown w (downN w.Down e.At e.Kind)) e.At.toNat 0):=(s0.trans same_setSlot).trans same_thinks;rw [ea] at f1;have wv:WOk (forget (setDown w (downN w.Down e.At e.Kind)) e.At.toNat 0):=by
          unfold forget;have gb:=c2.br;refine ⟨by rw [same_thinks.links]; exact c1.l,by rw [same_thinks.n,same_thinks.links]; exact c1.link,?_,?_,?_,fun i hi=>?_⟩
          · rw [same_thinks.links];unfold thinks; split <;> exact c1.a
          · rw [same_thinks.links];unfold thinks; split <;> exact c1.b
          · intro i hi;rw [same_thinks.links] at hi;unfold thinks; split <;> exact c1.slots i hi
          · have:=gb i (by rw [same_setSlot.n]; exact hi);exact this
        have f2:=iForget_p wv (a:=e.At.toNat) (by rw [s1.links]; exact ha) c2.wok;rw [ea] at f2;have sh1:=forget_sh (setDown w (downN w.Down e.At e.Kind)) e.At.toNat 0;have sh2:=forget_sh (forget (setDown w (downN w.Down e.At e.Kind)) e.At.toNat 0) e.At.toNat 1;generalize hd:downN w.Down e.At e.Kind=d at *;have aB:(forget (setDown w d) e.At.toNat 0).AtB=w.AtB:=by unfold forget; rw [thinks_sh]; rfl
        generalize hv:forget (setDown w d) e.At.toNat 0=v at *;refine (bd_of (m:=lp _ _) (x:=((forget v e.At.toNat 1).Bridges.length,(forget v e.At.toNat 1).AtA.length,(forget v e.At.toNat 1).AtB.length,(forget v e.At.toNat 1).Bridges,(forget v e.At.toNat 1).AtA,(forget v e.At.toNat 1).AtB)) ?_).trans ?_
        · refine (lp_more (s':=(v.Bridges,v.AtA,v.AtB,1)) ?_).trans ((lp_more (s':=((forget v e.At.toNat 1).Bridges,(forget v e.At.toNat 1).AtA,(forget v e.At.toNat 1).AtB,2)) ?_).trans (lp_done ?_))
          · unfold impl_TreeWorld_slot_r00_03_04_at_s1_m;dsimp only;rw [if_pos (by simp),if_pos (by simp),gd_pos (by omega),bd_val];obtain ⟨b,e1,e2⟩:=bd_some f1;refine (bd_of (x:=b) e1).trans ((bd_of (x:=v) ?_).trans rfl);exact e2
          · unfold impl_TreeWorld_slot_r00_03_04_at_s0_m;dsimp only;rw [if_pos (by simp),if_neg (by simp),gd_pos (by rw [aB]; omega),bd_val];rw [sh1] at f2;obtain ⟨b,e1,e2⟩:=bd_some f2;refine (bd_of (x:=b) e1).trans ((bd_of (x:=forget v e.At.toNat 1) ?_).trans rfl);rw [sh1];exact e2
          · rw [if_neg (by simp)]
        · dsimp only;rw [sh2,sh1]
          rfl
      · rw [if_neg (c:=(e.Kind == 8)=true) (by simpa using k8)]
        by_cases k9:e.Kind=9
        · rw [if_pos (c:=(e.Kind == 9)=true) (by simpa using k9),if_pos (c:=e.Kind=8 ∨ e.Kind=9) (.inr k9),if_pos (c:=true=true) rfl,if_neg (c:=e.Kind=8) k8];dsimp only;have lL:(downL w.Down e.At).length+(downR w.Down e.At).length=w.Down.length:=by
            have:=congrArg List.length (downLR w.Down e.At);rw [List.length_append] at this;omega
          cases hh:hasI w.Down e.At
          · rw [if_neg (by decide)];exact congrArg some (show w={ w with Down:=downN w.Down e.At e.Kind } by rw [← keep9_p hh k8])
          · obtain ⟨t,et,_⟩:=downR_cons hp (mem_hasI.1 hh);rw [et,List.length_cons] at lL;unfold slices_Delete_int_int_m;rw [if_pos rfl,wrap_i64 (by omega) (by omega),gd_pos (by omega),bd_val,Int.toNat_natCast,show (((downL w.Down e.At).length:Int)+1).toNat=(downL w.Down e.At).length+1 by omega,del_p hp hh k8]
            rfl
        · rw [if_neg (c:=(e.Kind == 9)=true) (by simpa using k9),if_neg (by omega)]
end Go.Proofs.YtejhbiefhpgjeaaGreat
