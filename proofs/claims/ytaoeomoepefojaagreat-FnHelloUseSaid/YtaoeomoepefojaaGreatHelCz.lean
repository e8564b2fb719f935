/-
  Plain Lean: an end of the reference's that speaks.
-/
import Derived.Test.YtaoeomoepefojaaGreatKz6
import Derived.Test.YtaoeomoepefojaaGreatHelBz
set_option linter.all false
namespace Go.Proofs.YtaoeomoepefojaaGreat
open Go Go.Ab
set_option maxHeartbeats 1000000
set_option maxRecDepth 100000
theorem len_le_sub {α:Type} [DecidableEq α]:∀ (a b:List α),a.Nodup→(∀ x ∈ a,x ∈ b)→a.length≤b.length
  | [],_,_,_=>Nat.zero_le _
  | x :: r,b,hn,hs=>by
    have hx:=hs x List.mem_cons_self;have h:=len_le_sub r (b.erase x) (List.nodup_cons.1 hn).2 fun y hy=>(List.mem_erase_of_ne (show y ≠ x from fun e=>(List.nodup_cons.1 hn).1 (by rw [← e]; exact hy))).2 (hs y (List.mem_cons_of_mem _ hy));rw [List.length_erase_of_mem hx] at h;have:=List.length_pos_of_mem hx;simp only [List.length_cons];omega
def pair (e:HelloEntry):Int × Int:=(e.Addr,e.Len)
theorem inc_nodup {t:List HelloEntry} (h:Inc idE t):(t.map pair).Nodup:=by
  refine List.pairwise_map.2 (h.imp fun {a b} q e=>?_);have e:(a.Addr,a.Len)=(b.Addr,b.Len):=e;rw [Prod.mk.injEq] at e;have:lessE a b=false:=lessE_irrefl e.1 e.2;have q:lessE a b=true:=q;rw [this] at q; cases q
theorem hasE_mem {t:List HelloEntry} (h:Ord idE t) {e:HelloEntry}:hasK idE t e=true ↔ pair e ∈ t.map pair:=by
  rw [List.mem_map]
  constructor
  · intro q;obtain ⟨q1,q2,q3⟩:=hasK_iff.1 q;refine ⟨_,getD_mem q1,?_⟩;rw [pair,pair,Prod.mk.injEq];exact ⟨q2,q3⟩
  · intro ⟨r,hr,q⟩;rw [pair,pair,Prod.mk.injEq] at q;obtain ⟨i,hi,rfl⟩:=mem_getD hr;exact (hasK_of h hi q).2
theorem sub_to {s t:List HelloEntry} (h:To t) (k:s.Sublist t):To s:=⟨Nat.le_trans k.length_le h.len,fun x hx=>h.ent x (k.subset hx),h.ord.sublist k⟩
theorem put_to {t:List HelloEntry} (h:To t) {e:HelloEntry} (he:entryOk e=true) (hl:hasK idE t e=false→t.length+1≤8):To (putT t e):=by
  have ho:=to_ord h;have w3:=posK_le (f:=idE) t e;unfold putT
  cases hh:hasK idE t e
  · have hl:=hl hh;simp only [Bool.false_eq_true,if_false];refine ⟨by simp; omega,fun x hx=>?_,ins_inc ho hh rfl⟩;rcases mem_ins hx with q | q
    · exact h.ent x q
    · rw [q]; exact he
  · obtain ⟨q1,q2,q3⟩:=hasK_iff.1 hh;simp only [if_true];refine ⟨by simpa using h.len,fun x hx=>?_,set_inc h.ord q1 ⟨q2.symm,q3.symm⟩⟩;rcases mem_set_or hx with q | q
    · exact h.ent x q
    · rw [q]; exact he
theorem drop_to {t:List HelloEntry} (h:To t) (e:HelloEntry):To (dropT t e):=by
  unfold dropT;split
  · refine sub_to h ?_;have:=List.take_append_drop (posK idE t e) t
    conv=>rhs; rw [← this]
    refine List.Sublist.append (List.Sublist.refl _) ?_;rw [← List.drop_drop];exact List.drop_sublist _ _
  · exact h
theorem sExtra_p {a b:List HelloEntry} (ha:a.length≤1048576) (hb:b.length≤1048576) (ho:Ord idE b):spec_l42Extra_m a b=some (match firstR (fun i=>!hasK idE b (a.getD i default)) a.length with | some i=>(a.getD i default,true) | none=>(⟨0,0,0,0⟩,false)):=by
  unfold spec_l42Extra_m;rw [lp_first a.length (fun i=>!hasK idE b (a.getD i default)) (fun i=>Sum.inl ((a.getD i default).Addr,(a.getD i default).Len,(a.getD i default).Cost,(a.getD i default).Label)) (.inr ()) (fun i hi=>?_) (by rw [if_neg (by simp)]),bd_val]
  · cases firstR (fun i=>!hasK idE b (a.getD i default)) a.length <;> rfl
  · rw [if_pos (by simp; omega),gd_pos (by omega),gd_pos (by omega),Int.toNat_natCast,wrap_succ hi (by omega),sAt_p hb ho,bd_val]
    cases hasK idE b (a.getD i default)
    · rfl
    · simp only [if_true,Bool.not_true,Bool.false_eq_true,if_false];rw [if_neg (by simp <;> omega)]
def lackP (b:List HelloEntry) (x:HelloEntry):Bool:=!hasK idE b x || !decide (b.getD (posK idE b x) default=x)
theorem sLacks_p {a b:List HelloEntry} (ha:a.length≤1048576) (hb:b.length≤1048576) (ho:Ord idE b):spec_l42Lacks_m a b=some (match firstR (fun i=>lackP b (a.getD i default)) a.length with | some i=>(a.getD i default,true) | none=>(⟨0,0,0,0⟩,false)):=by
  unfold spec_l42Lacks_m;rw [lp_first a.length (fun i=>lackP b (a.getD i default)) (fun i=>Sum.inl ((a.getD i default).Addr,(a.getD i default).Len,(a.getD i default).Cost,(a.getD i default).Label)) (.inr ()) (fun i hi=>?_) (by rw [if_neg (by simp)]),bd_val]
  · cases firstR (fun i=>lackP b (a.getD i default)) a.length <;> rfl
  · have w3:=posK_le (f:=idE) b (a.getD i default);rw [if_pos (by simp; omega),gd_pos (by omega),Int.toNat_natCast,wrap_succ hi (by omega),sAt_p hb ho,bd_val];unfold lackP
    cases hh:hasK idE b (a.getD i default)
    · simp only [Bool.false_eq_true,if_false,Bool.not_false,Bool.true_or,if_true];rw [gd_pos (fun c=>by simp at c),gd_pos (fun c=>by simp at c),if_pos (by simp),gd_pos (by omega)]
    · have q1:=(hasK_iff.1 hh).1;simp only [if_true,Bool.not_true,Bool.false_or];have hd:decide (((posK idE b (a.getD i default):Nat):Int) < 0)=false:=by simp <;> omega
      rw [hd,gd_pos (fun _=>by omega),gd_pos (fun _=>by omega),Int.toNat_natCast,Bool.false_or,gd_pos (by omega)];generalize b.getD (posK idE b (a.getD i default)) default=x;generalize a.getD i default=y;have:(x.Addr == y.Addr && (x.Len == y.Len && (x.Cost == y.Cost && (x.Label == y.Label && true))))=decide (x=y):=by
        cases x; cases y
        rw [Bool.eq_iff_iff];simp
      rw [this];split <;> rfl
theorem sNext_post {e:HelloEnd} (ht:To e.Told) (hw:To e.Want):Post (spec_l42Next_m e) fun c=>changeOk c=true∧To (applyT e.Told c):=by
  have l1:=ht.len;have l2:=hw.len;unfold spec_l42Next_m;rw [sExtra_p (by omega) (by omega) (to_ord hw),bd_val,sLacks_p (by omega) (by omega) (to_ord ht),bd_val]
  cases hf:firstR (fun i=>!hasK idE e.Want (e.Told.getD i default)) e.Told.length with
  | some i =>
    obtain ⟨q1,_,_⟩:=firstR_some hf;have he:=ht.ent _ (getD_mem q1);dsimp only;rw [if_pos rfl];refine .ret ⟨?_,drop_to ht _⟩;simp only [entryOk,Bool.and_eq_true] at he;show (prefOk _ _ && ((0:Int) == 0) && ((0:Int) == 0))=true;rw [he.1.1]; rfl
  | none =>
    have hn:=firstR_none hf;dsimp only;rw [if_neg (by decide)]
    cases hg:firstR (fun i=>lackP e.Told (e.Want.getD i default)) e.Want.length with
    | some i =>
      obtain ⟨q1,_,_⟩:=firstR_some hg;have he:=hw.ent _ (getD_mem q1);dsimp only;rw [if_pos rfl];refine .ret ⟨he,put_to ht he fun hh=>?_⟩;have sub:∀ x ∈ (e.Want.getD i default :: e.Told).map pair,x ∈ e.Want.map pair:=fun x hx=>by
        obtain ⟨y,hy,rfl⟩:=List.mem_map.1 hx;rcases List.mem_cons.1 hy with q | q
        · rw [q]; exact List.mem_map_of_mem (getD_mem q1)
        · obtain ⟨k,hk,rfl⟩:=mem_getD q;have:=hn k hk;exact (hasE_mem (to_ord hw)).1 (by simpa using this)
      have nd:((e.Want.getD i default :: e.Told).map pair).Nodup:=by
        rw [List.map_cons];refine List.nodup_cons.2 ⟨fun c=>?_,inc_nodup ht.ord⟩;rw [(hasE_mem (to_ord ht)).2 c] at hh; cases hh
      have:=len_le_sub _ _ nd sub;simp only [List.length_map,List.length_cons] at this;omega
    | none =>
      dsimp only;rw [if_neg (by decide)];exact .ite (fun _=>.ret ⟨rfl,ht⟩) fun _=>.ret ⟨rfl,ht⟩
theorem sumV_range (s:Int) (w:HelloWord):0≤sumV s w∧sumV s w < 2147483647:=fold_range _ (by decide)
theorem eo_lens {e:HelloEnd} (h:Eo e):Lens e 16:=by
  obtain ⟨l1,l2,l3,l4⟩:=endOk_lens (endOk_iff.2 h);exact ⟨by omega,by omega,by omega,by omega⟩
theorem sCopyL_p {e:HelloEnd} (h:Lens e 1048576):spec_l42Copy_m e=some e:=sCopy_p h.k h.w h.t h.h
theorem Lens.mono {e:HelloEnd} {n m:Nat} (h:Lens e n) (k:n≤m):Lens e m:=⟨Nat.le_trans h.k k,Nat.le_trans h.w k,Nat.le_trans h.t k,Nat.le_trans h.h k⟩
theorem sSay_post {e:HelloEnd} (h:Eo e):Post (spec_HelloSay_m e) fun x=>Eo x.1∧(x.1.Name=e.Name∧x.1.Peer=e.Peer)∧(x.2.2=true→wordOk x.2.1=true):=by
  have L:=(eo_lens h).mono (m:=1048576) (by decide);have hok:=endOk_iff.2 h;unfold spec_HelloSay_m;rw [sEnd_p L.k L.t,hok,bd_val,if_neg (by decide),sCopyL_p L,bd_val];have hb:=h.boot;have ht:=h.turn;refine .ite (fun _=>.ret ⟨h,⟨rfl,rfl⟩,fun q=>by cases q⟩) fun cb=>.ite (fun ct=>?_) fun ct=>?_
  · have hl:=life_eo (bare_eo h) h.heard;rw [sLife_p L.h hb,bd_val,sCopyL_p ((eo_lens hl).mono (by decide)),bd_val];exact .ret ⟨hl,⟨rfl,rfl⟩,fun q=>by cases q⟩
  · have cb:e.Boot ≠ 1000:=by simpa using cb
    have ct:e.Turn ≠ 1000000:=by simpa using ct
    rw [wrap_i64 (n:=e.Turn+1) (by omega) (by omega)];have hn:=h.num;refine .bd (Q:=fun x=>changeOk ⟨x.2.1,⟨x.2.2.1,x.2.2.2.1,x.2.2.2.2.1,x.2.2.2.2.2⟩⟩=true∧To (applyT e.Told ⟨x.2.1,⟨x.2.2.1,x.2.2.2.1,x.2.2.2.2.1,x.2.2.2.2.2⟩⟩)∧(0≤x.1∧x.1≤e.Turn+1)∧(x.1=0→x.2.1=0)) ?_ fun x ⟨x1,x2,x3,x4⟩=>?_
    · refine .ite (fun _=>.bd (sNext_post (e:={ e with Turn:=e.Turn+1 }) h.told h.want) fun c ⟨c1,c2⟩=>.ite (fun k=>.ret ⟨c1,c2,?_,?_⟩) fun k=>.ret ⟨c1,c2,?_,?_⟩) fun _=>.ret ⟨h.under,h.ap,?_,h.nu⟩
      · dsimp only; rw [wrap_i64 (by omega) (by omega)]; omega
      · dsimp only; rw [wrap_i64 (by omega) (by omega)]; intro q; omega
      · dsimp only; omega
      · intro _;dsimp only;rw [change_kind c1] at k;simpa using k
      · dsimp only; omega
    · have hk:=h.keys;have hkk:(1≤(e.Keys.length:Int)∧(e.Keys.length:Int)≤3)∧allR e.Keys.length (keyP e.Keys)=true:=by
        simp only [keysOk,Bool.and_eq_true,inR_iff] at hk;exact hk
      have e0:((e.Keys.length:Nat):Int) - 1=((e.Keys.length - 1:Nat):Int):=by omega
      rw [wrap_i64 (n:=((e.Keys.length:Nat):Int) - 1) (by omega) (by omega),e0,Int.toNat_natCast];refine .gd (by omega) ?_;rw [sSum_p,bd_val];have hid:=allR_get hkk.2 (i:=e.Keys.length - 1) (by omega);simp only [keyP,Bool.and_eq_true,inR_iff] at hid;have g:=h.got;have pb:=h.pboot;have hs:=fun s w=>sumV_range s w;refine .ret ⟨{ h with turn:=?_,num:=x3,under:=x1,nu:=x4,ap:=x2 },⟨rfl,rfl⟩,fun _=>?_⟩
      · dsimp only; omega
      · simp only [wordOk,Bool.and_eq_true,inR_iff,Bool.or_eq_true,beq_iff_eq,decide_eq_true_eq];refine ⟨⟨⟨⟨⟨⟨⟨⟨⟨⟨h.name,h.peer⟩,hid.1.1⟩,by omega⟩,by omega⟩,by omega⟩,x3⟩,by omega⟩,?_⟩,x1⟩,?_⟩
        · have:=hs (e.Keys.getD (e.Keys.length - 1) default).Secret ⟨e.Name,e.Peer,(e.Keys.getD (e.Keys.length - 1) default).Id,e.Boot,e.PeerBoot,e.Turn+1,x.1,e.Got,⟨x.2.1,⟨x.2.2.1,x.2.2.2.1,x.2.2.2.2.1,x.2.2.2.2.2⟩⟩,0⟩;omega
        · by_cases q:x.1=0
          · exact .inl (x4 q)
          · exact .inr (by omega)
end Go.Proofs.YtaoeomoepefojaaGreat
