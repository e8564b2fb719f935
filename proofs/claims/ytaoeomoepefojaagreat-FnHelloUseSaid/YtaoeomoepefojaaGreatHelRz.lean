/-
  Plain Lean: ends that are ok, the program's and the reference's alike.
-/
import Derived.Test.YtaoeomoepefojaaGreatKz6
import Derived.Test.YtaoeomoepefojaaGreatHelQz
set_option linter.all false
namespace Go.Proofs.YtaoeomoepefojaaGreat
open Go Go.Ab
set_option maxHeartbeats 1000000
set_option maxRecDepth 100000
abbrev rE (r:HelloRoute):HelloEntry:=r.Entry
def heardP (left:Int) (t:List HelloRoute) (i:Nat):Bool:=entryOk (t.getD i default).Entry && (decide (i=0) || lessE (t.getD (i - 1) default).Entry (t.getD i default).Entry) && ((t.getD i default).Stale || !(left == 0))
def staleAny (t:List HelloRoute):Bool:=t.any fun r=>r.Stale
def heardOk (e:HelloEnd):Bool:=decide (e.Heard.length≤16) && inR e.Keep 0 6 && allR e.Heard.length (heardP e.Left e.Heard) && (decide (e.Keep > 0) == staleAny e.Heard)
theorem iStale_p {t:List HelloRoute} (h:t.length≤1048576):impl_anyStale_m t=some (staleAny t):=by
  have e:slices_IndexFunc_HelloRoute_HelloRoute_impl_anyStale_1_m t=some (match firstR (fun i=>(t.getD i default).Stale) t.length with | some i=>(i:Int) | none=>-1):=by
    unfold slices_IndexFunc_HelloRoute_HelloRoute_impl_anyStale_1_m;rw [lp_first t.length (fun i=>(t.getD i default).Stale) (fun i=>Sum.inl (i:Int)) (.inr ()) (fun i hi=>?_) (by rw [if_neg (by simp)]),bd_val]
    · cases firstR (fun i=>(t.getD i default).Stale) t.length <;> rfl
    · rw [if_pos (by simp; omega),gd_pos (by omega),Int.toNat_natCast,wrap_succ hi (by omega)];unfold impl_anyStale_1_m;rw [bd_val];split <;> simp_all
  unfold impl_anyStale_m slices_ContainsFunc_HelloRoute_HelloRoute_impl_anyStale_1_m;rw [e,bd_val]
  cases hf:firstR (fun i=>(t.getD i default).Stale) t.length with
  | some i =>
    obtain ⟨q1,q2,_⟩:=firstR_some hf;have:staleAny t=true:=List.any_eq_true.2 ⟨_,getD_mem q1,q2⟩;rw [this];simp <;> omega
  | none =>
    have:staleAny t=false:=by
      cases hs:staleAny t
      · rfl
      · obtain ⟨r,hr,ht⟩:=List.any_eq_true.1 hs;obtain ⟨i,hi,rfl⟩:=mem_getD hr;have:=firstR_none hf i hi;rw [ht] at this; cases this
    rw [this]
    rfl
theorem iHeard_p {e:HelloEnd} (h:e.Heard.length≤1048576):impl_HelloEnd_heardOk_m e=some (heardOk e):=by
  unfold impl_HelloEnd_heardOk_m heardOk;rw [lp_all e.Heard.length (heardP e.Left e.Heard) (.inl ()) (.inr ()) (fun i hi hp=>?_) (fun _=>by rw [if_neg (by simp)]),bd_val]
  · cases allR e.Heard.length (heardP e.Left e.Heard)
    · rw [if_neg (by decide)];simp
    · rw [if_pos rfl];dsimp only;rw [within_p,gcall_b,bd_val,iStale_p h,gcall_b,bd_val];have hd:decide (((e.Heard.length:Nat):Int)≤16)=decide (e.Heard.length≤16):=decide_eq_decide.2 (by omega);rw [hd]
      cases decide (e.Heard.length≤16) <;> cases inR e.Keep 0 6 <;> simp
  · rw [if_pos (by simp; omega),gd_pos (by omega),Int.toNat_natCast,iEntry_p,bd_val]
    by_cases h0:0 < i
    · have hq:=hp (i - 1) (by omega);unfold heardP at hq ⊢;simp only [Bool.and_eq_true] at hq;rw [wrap_pred hi h0 (by omega),gd_pos (fun _ _=>by omega),Int.toNat_natCast,iPrefix_p,iPrefix_p,wrap_succ hi (by omega)];have e1:decide ((i:Int) > 0)=true:=by simp; omega
      have e2:decide (i=0)=false:=by simp; omega
      rw [e1,e2]
      cases he:entryOk (e.Heard.getD i default).Entry
      · simp [gcall]
      · cases hs:((e.Left == 0) && (!((e.Heard.getD i default).Stale)))
        · have ha:=entry_range hq.1.1;have hb:=entry_range he;have hl:=lessE_iff (a:=(e.Heard.getD (i - 1) default).Entry) (b:=(e.Heard.getD i default).Entry) (by omega) (by omega);have hc:=cmpV_neg (a:=(e.Heard.getD (i - 1) default).Entry) (b:=(e.Heard.getD i default).Entry) (by omega) (by omega);have hs':((e.Heard.getD i default).Stale || !(e.Left == 0))=true:=by
            cases q1:(e.Left == 0) <;> cases q2:(e.Heard.getD i default).Stale <;> simp_all
          rw [hs',gcall,if_pos ⟨rfl,rfl⟩,bd_val,gcall,if_pos ⟨rfl,rfl⟩,bd_val,gcall,if_pos ⟨rfl,rfl⟩,cmp_p ha hb,bd_val];generalize cmpV (e.Heard.getD (i - 1) default).Entry.Addr (e.Heard.getD (i - 1) default).Entry.Len (e.Heard.getD i default).Entry.Addr (e.Heard.getD i default).Entry.Len=z at *
          by_cases c:pk (e.Heard.getD (i - 1) default).Entry < pk (e.Heard.getD i default).Entry
          · rw [hl.2 c,if_neg (by have:=hc.2 c; simp; omega)]; rfl
          · rw [Bool.eq_false_iff.2 (fun q=>c (hl.1 q)),if_pos (by have:=fun q=>c (hc.1 q); simp; omega)]; rfl
        · have hs':((e.Heard.getD i default).Stale || !(e.Left == 0))=false:=by
            cases q1:(e.Left == 0) <;> cases q2:(e.Heard.getD i default).Stale <;> simp_all
          rw [hs'];simp [gcall]
    · have e0:i=0:=by omega
      subst e0;unfold heardP;rw [gd_pos (fun q=>absurd q (by decide)),gcall,if_neg (fun q=>absurd q.1 (by decide)),bd_val,gcall,if_neg (fun q=>absurd q.1 (by decide)),bd_val,gcall,if_neg (fun q=>absurd q.1 (by decide)),bd_val,wrap_succ hi (by omega)];generalize entryOk (e.Heard.getD 0 default).Entry=x;generalize (e.Heard.getD 0 default).Stale=y;generalize (e.Left == 0)=z
      cases x <;> cases y <;> cases z <;> rfl
theorem sHeard_p {e:HelloEnd}:spec_l42HeardOk_m e=some (heardOk e):=by
  unfold spec_l42HeardOk_m heardOk;rw [l41In_p,gcall_nb,bd_val]
  by_cases hn:e.Heard.length≤16
  · have hd:decide (((e.Heard.length:Nat):Int) > 16)=false:=by simp; omega
    rw [hd,decide_eq_true hn]
    cases hk:inR e.Keep 0 6
    · simp
    · rw [if_neg (by decide)];have key:∀ F:Bool × Int→Option ((Bool × Int) ⊕ (Unit ⊕ Bool)),F=(fun s2:Bool × Int =>
          (if (decide (s2.2 < ((e.Heard.length:Nat):Int)))=true then
          gd ((0:Int)≤s2.2∧s2.2 < ((e.Heard.length:Nat):Int)) <|
          bd (spec_l41EntryOk_m ((e.Heard.getD s2.2.toNat default).Entry)) fun x7 =>
          gd ((decide (s2.2 > 0))=true→((!x7)=false→((0:Int)≤IntKind.i64.wrap (s2.2 - 1)∧IntKind.i64.wrap (s2.2 - 1) < ((e.Heard.length:Nat):Int)))) <|
          bd (gcall ((decide (s2.2 > 0))=true∧(!x7)=false) (spec_l41Less_m ((e.Heard.getD ((IntKind.i64.wrap (s2.2 - 1)).toNat) default).Entry) ((e.Heard.getD s2.2.toNat default).Entry))) fun x9 =>
          (if (((!x7) || ((decide (s2.2 > 0)) && (!x9))) || ((!((e.Heard.getD s2.2.toNat default).Stale)) && (e.Left == 0)))=true then
          some (.inr (.inl ()))
          else
          some (.inl ((s2.1 || (e.Heard.getD s2.2.toNat default).Stale),IntKind.i64.wrap (s2.2+1))))
          else
          some (.inr (.inr s2.1))))→lp F (false,0)=some (if allR e.Heard.length (heardP e.Left e.Heard)=true then .inr (staleAny e.Heard) else .inl ()):=by
        intro F hF;have stop:∀ b,F (b,(e.Heard.length:Int))=some (.inr (.inr b)):=fun b=>by
          rw [hF];dsimp only;rw [if_neg (by simp)]
        have step:∀ (i:Nat) (b0 c:Bool),i < e.Heard.length→heardP e.Left e.Heard i=c→F (b0,(i:Int))=some (if c=true then .inl (b0 || (e.Heard.getD i default).Stale,((i+1:Nat):Int)) else .inr (.inl ())):=by
          intro i b0 c hil hb;rw [hF];dsimp only;rw [if_pos (by simp; omega),gd_pos (by omega),Int.toNat_natCast,sEntry_p,bd_val,wrap_succ hil (by omega),sLess_p];unfold heardP at hb
          by_cases h0:0 < i
          · have e1:decide ((i:Int) > 0)=true:=by simp; omega
            have e2:decide (i=0)=false:=by simp; omega
            rw [wrap_pred hil h0 (by omega),gd_pos (fun _ _=>by omega),Int.toNat_natCast,e1];rw [e2] at hb;subst hb;generalize (e.Heard.getD i default).Stale=y;generalize lessE (e.Heard.getD (i - 1) default).Entry (e.Heard.getD i default).Entry=w;generalize entryOk (e.Heard.getD i default).Entry=x;generalize (e.Left == 0)=z
            cases x <;> cases w <;> cases y <;> cases z <;> first | rfl | simp [gcall]
          · have e0:i=0:=by omega
            subst e0;rw [gd_pos (fun q=>absurd q (by simp)),gcall,if_neg (fun q=>absurd q.1 (by simp)),bd_val];subst hb;generalize (e.Heard.getD 0 default).Stale=y;generalize entryOk (e.Heard.getD 0 default).Entry=x;generalize (e.Left == 0)=z
            cases x <;> cases y <;> cases z <;> rfl
        have go:∀ k i:Nat,i+k=e.Heard.length→(∀ j,j < i→heardP e.Left e.Heard j=true)→lp F ((e.Heard.take i).any (fun r=>r.Stale),(i:Int))=some (if allR e.Heard.length (heardP e.Left e.Heard)=true then .inr (staleAny e.Heard) else .inl ()):=by
          intro k
          induction k with
          | zero =>
            intro i hi hp;have:i=e.Heard.length:=by omega
            subst this;rw [if_pos (allR_of hp),List.take_length];exact lp_done (stop _)
          | succ k ih =>
            intro i hi hp;have hil:i < e.Heard.length:=by omega
            have et:(e.Heard.take (i+1)).any (fun r=>r.Stale)=((e.Heard.take i).any (fun r=>r.Stale) || (e.Heard.getD i default).Stale):=by
              rw [List.take_succ,List.any_append,List.getD_eq_getElem?_getD,List.getElem?_eq_getElem hil];simp
            have st:=step i ((e.Heard.take i).any (fun r=>r.Stale)) _ hil rfl
            cases hb:heardP e.Left e.Heard i
            · rw [hb,if_neg (by decide)] at st;rw [allR_false hil hb,if_neg (by decide)];exact lp_done st
            · rw [hb,if_pos rfl,← et] at st;rw [lp_more st];exact ih (i+1) (by omega) fun j hj=>by
                rcases Nat.lt_or_ge j i with c | c
                · exact hp j c
                · have:j=i:=by omega
                  subst this; exact hb
        exact go e.Heard.length 0 (by omega) fun j hj=>by omega
      rw [key _ rfl,bd_val]
      cases allR e.Heard.length (heardP e.Left e.Heard)
      · simp
      · rw [if_pos rfl];dsimp only;rw [Bool.true_and,Bool.true_and,Bool.true_and]
        congr 1
        cases staleAny e.Heard <;> cases decide (e.Keep > 0) <;> rfl
  · have hd:decide (((e.Heard.length:Nat):Int) > 16)=true:=by simp; omega
    rw [hd,decide_eq_false hn,if_pos (by simp)];simp
def endOk (e:HelloEnd):Bool:=inR e.Name 0 65535 && inR e.Peer 0 65535 && !(e.Name == e.Peer) && keysOk e.Keys && inR e.Boot 1 1000 && inR e.Turn 0 1000000 && inR e.PeerTurn 0 1000000 && inR e.Got 0 1000000 && inR e.PeerBoot 0 999 && ((e.PeerBoot == 0) == (e.PeerTurn == 0)) &&
  inR e.Left 0 4 && !((e.PeerBoot == 0) && (e.Left != 0)) && !(e.Up && (e.Left == 0)) && inR e.Num 0 e.Turn && changeOk e.Under && !((e.Num == 0) && (e.Under.Kind != 0)) && tableOk e.Want && tableOk e.Told && tableOk (applyT e.Told e.Under) && heardOk e
theorem change_kind {c:HelloChange} (h:changeOk c=true):decide (c.Kind > 0)=(c.Kind != 0):=by
  unfold changeOk at h;have:c.Kind=0 ∨ c.Kind=3 ∨ c.Kind=1 ∨ c.Kind=2:=by
    split at h
    · omega
    · split at h
      · omega
      · split at h
        · omega
        · cases h
  rcases this with k | k | k | k <;> rw [k] <;> rfl
theorem iEnd_p {e:HelloEnd} (h1:e.Keys.length≤1048576) (h2:e.Want.length≤1048576) (h3:e.Told.length≤1048576) (h4:e.Heard.length≤1048576):impl_HelloEndOk_m e=some (endOk e):=by
  unfold impl_HelloEndOk_m endOk;rw [within_p,bd_val,within_p,gcall_nb,bd_val,iKeys_p h1,gcall_nb,bd_val];split
  · rename_i c; congr 1; grind
  · rename_i c1;rw [within_p,bd_val,within_p,gcall_nb,bd_val,within_p,gcall_nb,bd_val,within_p,gcall_nb,bd_val];split
    · rename_i c; congr 1; grind
    · rename_i c2;rw [within_p,bd_val];split
      · rename_i c; congr 1; grind
      · rename_i c3;rw [within_p,bd_val];split
        · rename_i c; congr 1; grind
        · rename_i c4;rw [within_p,bd_val,iChange_p,gcall_nb,bd_val];split
          · rename_i c; congr 1; grind
          · rename_i c5;rw [iTable_p h2,bd_val,iTable_p (t:=e.Told) (by omega),gcall_nb,bd_val];have hu:changeOk e.Under=true:=by grind
            cases hw:tableOk e.Want
            · rw [gcall_neg (by simp),bd_val,gcall_neg (by simp),bd_val,if_pos (by simp)]
              congr 1; grind
            · cases ht:tableOk e.Told
              · rw [gcall_neg (by simp),bd_val,gcall_neg (by simp),bd_val,if_pos (by simp)]
                congr 1; grind
              · have al:=applyT_len (t:=e.Told) e.Under;have tl:=(tableOk_ord ht).2;rw [gcall_pos (by simp),iChangedF_p (by omega) (tableOk_ord ht).1 hu,bd_val,gcall_pos (by simp),iTable_p (by omega),bd_val];split
                · rename_i c; congr 1; grind
                · rename_i c6;rw [iHeard_p h4,bd_val]
                  congr 1; grind
theorem sEnd_p {e:HelloEnd} (h1:e.Keys.length≤1048576) (h3:e.Told.length≤1048576):spec_HelloEndOk_m e=some (endOk e):=by
  have hk:=fun q=>change_kind (c:=e.Under) q;unfold spec_HelloEndOk_m endOk;rw [l41In_p,bd_val,l41In_p,gcall_nb,bd_val,sKeys_p h1,gcall_nb,bd_val,l41In_p,gcall_nb,bd_val,sTable_p,gcall_nb,bd_val];split
  · rename_i c; congr 1; grind
  · rename_i c1;rw [l41In_p,bd_val,l41In_p,gcall_nb,bd_val,l41In_p,gcall_nb,bd_val];split
    · rename_i c; congr 1; grind
    · rename_i c2;rw [l41In_p,bd_val];have hl:inR e.Left 0 4=true→decide (e.Left > 0)=(e.Left != 0):=fun q=>by
        have:=inR_iff.1 q;rw [Bool.eq_iff_iff]; simp; omega
      split
      · rename_i c; congr 1; grind
      · rename_i c3;have hpre:(inR e.Name 0 65535 && inR e.Peer 0 65535 && !(e.Name == e.Peer) && keysOk e.Keys && inR e.Boot 1 1000 && inR e.Turn 0 1000000 && inR e.PeerTurn 0 1000000)=true∧(inR e.PeerBoot 0 999 && ((e.PeerBoot == 0) == (e.PeerTurn == 0)) && inR e.Left 0 4 && !((e.PeerBoot == 0) && (e.Left != 0)) && !(e.Up && (e.Left == 0)))=true∧tableOk e.Want=true:=by
          refine ⟨?_,?_,?_⟩ <;> grind
        have hsp:(inR e.Name 0 65535 && inR e.Peer 0 65535 && !(e.Name == e.Peer) && keysOk e.Keys && inR e.Boot 1 1000 && inR e.Turn 0 1000000 && inR e.PeerTurn 0 1000000 && inR e.Got 0 1000000 && inR e.PeerBoot 0 999 && ((e.PeerBoot == 0) == (e.PeerTurn == 0)) &&
            inR e.Left 0 4 && !((e.PeerBoot == 0) && (e.Left != 0)) && !(e.Up && (e.Left == 0)) && inR e.Num 0 e.Turn && changeOk e.Under && !((e.Num == 0) && (e.Under.Kind != 0)) && tableOk e.Want && tableOk e.Told && tableOk (applyT e.Told e.Under) && heardOk e) =
            (inR e.Num 0 e.Turn && inR e.Got 0 1000000 && changeOk e.Under && !((e.Under.Kind != 0) && (e.Num == 0)) && tableOk e.Told && tableOk (applyT e.Told e.Under) && heardOk e):=by
          obtain ⟨p1,p2,p3⟩:=hpre;clear c1 c2 c3 hl hk
          grind
        rw [hsp];clear c1 c2 c3 hl hsp hpre;rw [l41In_p,bd_val,l41In_p,gcall_nb,bd_val,sChange_p,gcall_nb,bd_val]
        cases hn:inR e.Num 0 e.Turn
        · simp [gcall]
        · cases hg:inR e.Got 0 1000000
          · simp [gcall]
          · cases hu:changeOk e.Under
            · simp [gcall]
            · rw [hk hu]
              cases hz:((e.Under.Kind != 0) && (e.Num == 0))
              · rw [sTable_p,gcall_nb,bd_val]
                cases ht:tableOk e.Told
                · simp [gcall]
                · rw [sApplyF_p (by omega) (tableOk_ord ht).1,gcall_val,bd_val,sTable_p,gcall_val,bd_val,sHeard_p]
                  cases hT:tableOk (applyT e.Told e.Under) <;> simp [hT]
              · simp [gcall]
end Go.Proofs.YtaoeomoepefojaaGreat
