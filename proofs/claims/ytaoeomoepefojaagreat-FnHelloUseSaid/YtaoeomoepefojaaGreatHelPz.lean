/-
  Plain Lean: keys, entries, tables and changes: what is ok of them, impl's and the reference's alike.
-/
import Derived.Test.YtaoeomoepefojaaGreatKz6
import Derived.Test.YtaoeomoepefojaaGreatPoBz
set_option linter.all false
namespace Go.Proofs.YtaoeomoepefojaaGreat
open Go Go.Ab
set_option maxHeartbeats 400000
set_option maxRecDepth 100000
def netSize (len:Int):Int:=2 ^ (16 - len).toNat
theorem netSize_pos (len:Int):0 < netSize len:=by unfold netSize; exact Int.pow_pos (by omega)
theorem netSize_le {len:Int} (h:0≤len):netSize len≤65536:=by
  unfold netSize;have:=pow2_le (a:=(16 - len).toNat) (b:=16) (by omega);simpa using this
def inR (a lo hi:Int):Bool:=decide (lo≤a) && decide (a≤hi)
@[simp] theorem inR_iff {a lo hi:Int}:inR a lo hi=true ↔ lo≤a∧a≤hi:=by simp [inR]
@[simp] theorem within_p (a lo hi:Int):impl_within_m a lo hi=some (inR a lo hi):=rfl
@[simp] theorem l41In_p (a lo hi:Int):spec_l41In_m a lo hi=some (inR a lo hi):=by simp [spec_l41In_m,inR]
def prefOk (a l:Int):Bool:=inR l 0 16 && inR a 0 65535 && (a.tmod (netSize l) == 0)
theorem prefOk_range {a l:Int} (h:prefOk a l=true):0≤l∧l≤16∧0≤a∧a≤65535:=by
  simp only [prefOk,Bool.and_eq_true,inR_iff] at h;omega
theorem l41Size_p {n:Int} (h0:0≤n) (h1:n≤16):spec_l41Size_m n=some (netSize n):=by
  obtain ⟨k,rfl⟩:∃ k:Nat,n=k:=⟨n.toNat,by omega⟩;have:k=0 ∨ k=1 ∨ k=2 ∨ k=3 ∨ k=4 ∨ k=5 ∨ k=6 ∨ k=7 ∨ k=8 ∨ k=9 ∨ k=10 ∨ k=11 ∨ k=12 ∨ k=13 ∨ k=14 ∨ k=15 ∨ k=16:=by omega
  rcases this with rfl | rfl | rfl | rfl | rfl | rfl | rfl | rfl | rfl | rfl | rfl | rfl | rfl | rfl | rfl | rfl | rfl <;> exact (bd_of (lp_iff.2 ⟨18,rfl⟩)).trans rfl
theorem size_p {p:NetPrefix} (h0:0≤p.Len) (h1:p.Len≤16):impl_NetPrefix_size_m p=some (netSize p.Len):=by
  have e:IntKind.i64.wrap (16 - p.Len)=16 - p.Len:=wrap_i64 (by omega) (by omega);have hb:IntKind.bits .i64=64:=rfl;unfold impl_NetPrefix_size_m;rw [e,gd_pos (by omega),hb,Nat.min_eq_left (by omega),Int.one_mul];have h:=netSize_le h0;have hp:=netSize_pos p.Len;unfold netSize at *;rw [wrap_i64 (by omega) (by omega)]
theorem pref_aux {a l:Int} {m:Option Int} (hm:inR l 0 16=true→m=some (netSize l)) :
    (bd (gcall (inR l 0 16=true) (some (inR a 0 65535))) fun x2=>bd (gcall ((inR l 0 16 && x2)=true) m) fun x3=>gd ((inR l 0 16 && x2)=true→((x3:Int) ≠ 0)) <| some ((inR l 0 16 && x2) && ((a.tmod x3) == 0)))=some (prefOk a l):=by
  have hp:=netSize_pos l;unfold prefOk
  cases h1:inR l 0 16
  · simp [gcall,gd]
  · rw [hm h1]
    cases h2:inR a 0 65535
    · simp [gcall,gd]
    · simp only [gcall,Bool.true_and,if_true,bd_val];rw [gd_pos (fun _=>by omega)]
theorem sPref_p (e:HelloEntry):spec_l41Prefix_m e=some (prefOk e.Addr e.Len):=by
  unfold spec_l41Prefix_m;simp only [l41In_p,bd_val];exact pref_aux fun h=>l41Size_p (inR_iff.1 h).1 (inR_iff.1 h).2
theorem iPref_p (p:NetPrefix):impl_NetOk_m p=some (prefOk p.Addr p.Len):=by
  unfold impl_NetOk_m;simp only [within_p,bd_val];exact pref_aux fun h=>size_p (inR_iff.1 h).1 (inR_iff.1 h).2
def entryOk (e:HelloEntry):Bool:=prefOk e.Addr e.Len && inR e.Cost 1 255 && inR e.Label 0 1000
theorem entry_range {e:HelloEntry} (h:entryOk e=true):0≤e.Len∧e.Len≤16∧0≤e.Addr∧e.Addr≤65535:=by
  simp only [entryOk,Bool.and_eq_true] at h;exact prefOk_range h.1.1
@[simp] theorem iPrefix_p (e:HelloEntry):impl_HelloEntry_prefix_m e=some ⟨e.Addr,e.Len⟩:=rfl
theorem sEntry_p (e:HelloEntry):spec_l41EntryOk_m e=some (entryOk e):=by
  unfold spec_l41EntryOk_m entryOk;simp only [sPref_p,l41In_p,bd_val,gcall_b]
  cases prefOk e.Addr e.Len <;> simp
theorem iEntry_p (e:HelloEntry):impl_HelloEntry_ok_m e=some (entryOk e):=by
  unfold impl_HelloEntry_ok_m entryOk;simp only [iPrefix_p,iPref_p,within_p,bd_val,gcall_b]
  cases prefOk e.Addr e.Len <;> simp
def lessE (a b:HelloEntry):Bool:=decide (a.Addr < b.Addr) || (a.Addr == b.Addr && decide (a.Len < b.Len))
def pk (e:HelloEntry):Int:=e.Addr*32+e.Len
def cmpV (a l b k:Int):Int:=if a=b then l - k else a - b
@[simp] theorem sLess_p (a b:HelloEntry):spec_l41Less_m a b=some (lessE a b):=rfl
theorem lessE_iff {a b:HelloEntry} (ha:0≤a.Len∧a.Len≤16) (hb:0≤b.Len∧b.Len≤16):lessE a b=true ↔ pk a < pk b:=by
  simp only [lessE,pk,Bool.or_eq_true,Bool.and_eq_true,decide_eq_true_eq,beq_iff_eq];omega
theorem cmp_p {a l b k:Int} (h1:0≤l∧l≤16∧0≤a∧a≤65535) (h2:0≤k∧k≤16∧0≤b∧b≤65535):impl_comparePrefix_m ⟨a,l⟩ ⟨b,k⟩=some (cmpV a l b k):=by
  unfold impl_comparePrefix_m cmpV;dsimp only
  by_cases h:a=b
  · rw [if_neg (by simp [h]),if_pos h,wrap_i64 (by omega) (by omega)]
  · rw [if_pos (by simp [h]),if_neg h,wrap_i64 (by omega) (by omega)]
theorem cmpV_neg {a b:HelloEntry} (h1:0≤a.Len∧a.Len≤16) (h2:0≤b.Len∧b.Len≤16):cmpV a.Addr a.Len b.Addr b.Len < 0 ↔ pk a < pk b:=by
  unfold cmpV pk;split <;> omega
theorem cmpV_zero {a b:HelloEntry} (h1:0≤a.Len∧a.Len≤16) (h2:0≤b.Len∧b.Len≤16):cmpV a.Addr a.Len b.Addr b.Len=0 ↔ pk a=pk b:=by
  unfold cmpV pk;split <;> omega
theorem pk_eq {a b:HelloEntry} (h1:0≤a.Len∧a.Len≤16) (h2:0≤b.Len∧b.Len≤16):pk a=pk b ↔ a.Addr=b.Addr∧a.Len=b.Len:=by
  unfold pk;omega
def keyP (ks:List HelloKey) (i:Nat):Bool:=inR (ks.getD i default).Id 1 9 && inR (ks.getD i default).Secret 1 2147483646 && (decide (i=0) || decide ((ks.getD (i - 1) default).Id < (ks.getD i default).Id))
def keysOk (ks:List HelloKey):Bool:=inR ks.length 1 3 && allR ks.length (keyP ks)
theorem sKeys_p {ks:List HelloKey} (h:ks.length≤1048576):spec_HelloKeysOk_m ks=some (keysOk ks):=by
  unfold spec_HelloKeysOk_m keysOk;rw [l41In_p,bd_val]
  cases hc:inR ks.length 1 3
  · rfl
  · rw [if_neg (by decide),lp_all ks.length (keyP ks) (.inl ()) (.inr ()) (fun i hi _=>?_) (fun _=>by rw [if_neg (by simp)]),bd_val]
    · cases allR ks.length (keyP ks) <;> rfl
    · rw [if_pos (by simp; omega),gd_pos (by omega),Int.toNat_natCast,l41In_p,bd_val,gd_pos (fun _=>by omega),l41In_p,gcall_nb,bd_val];unfold keyP
      by_cases h0:0 < i
      · rw [wrap_pred hi h0 (by omega),gd_pos (fun _ _=>by omega),gd_pos (fun _ _=>by omega),Int.toNat_natCast,wrap_succ hi (by omega)];have e1:decide ((i:Int) > 0)=true:=by simp; omega
        have e2:decide (i=0)=false:=by simp; omega
        rw [e1,e2];generalize ks.getD (i - 1) default=u;generalize ks.getD i default=v
        cases inR v.Id 1 9
        · rfl
        · cases inR v.Secret 1 2147483646
          · rfl
          · by_cases c:u.Id < v.Id
            · rw [if_neg (by simp; omega),if_pos (by simp [c])]
            · rw [if_pos (by simp; omega),if_neg (by simp [c])]
      · have e0:i=0:=by omega
        subst e0;rw [gd_pos (fun q=>absurd q (by decide)),gd_pos (fun q=>absurd q (by decide)),wrap_succ hi (by omega)]
        cases inR (ks.getD 0 default).Id 1 9
        · rfl
        · cases inR (ks.getD 0 default).Secret 1 2147483646 <;> rfl
theorem iKeys_p {ks:List HelloKey} (h:ks.length≤1048576):impl_HelloKeysOk_m ks=some (keysOk ks):=by
  unfold impl_HelloKeysOk_m keysOk;rw [lp_all ks.length (keyP ks) (.inl ()) (.inr ()) (fun i hi _=>?_) (fun _=>by rw [if_neg (by simp)]),bd_val]
  · cases allR ks.length (keyP ks)
    · rw [if_neg (by decide),Bool.and_false]
    · rw [if_pos rfl,Bool.and_true]; rfl
  · rw [if_pos (by simp; omega),gd_pos (by omega),Int.toNat_natCast,within_p,bd_val,within_p,gcall_nb,bd_val];unfold keyP
    by_cases h0:0 < i
    · rw [wrap_pred hi h0 (by omega),gd_pos (fun _ _=>by omega),Int.toNat_natCast,wrap_succ hi (by omega)];have e1:decide ((i:Int) > 0)=true:=by simp; omega
      have e2:decide (i=0)=false:=by simp; omega
      rw [e1,e2];generalize ks.getD (i - 1) default=u;generalize ks.getD i default=v
      cases inR v.Id 1 9
      · rfl
      · cases inR v.Secret 1 2147483646
        · rfl
        · by_cases c:u.Id < v.Id
          · rw [if_neg (by simp; omega),if_pos (by simp [c])]
          · rw [if_pos (by simp; omega),if_neg (by simp [c])]
    · have e0:i=0:=by omega
      subst e0;rw [gd_pos (fun q=>absurd q (by decide)),wrap_succ hi (by omega)]
      cases inR (ks.getD 0 default).Id 1 9
      · rfl
      · cases inR (ks.getD 0 default).Secret 1 2147483646 <;> rfl
def tabP (t:List HelloEntry) (i:Nat):Bool:=entryOk (t.getD i default) && (decide (i=0) || lessE (t.getD (i - 1) default) (t.getD i default))
def tableOk (t:List HelloEntry):Bool:=decide (t.length≤8) && allR t.length (tabP t)
theorem sTable_p (t:List HelloEntry):spec_HelloTableOk_m t=some (tableOk t):=by
  unfold spec_HelloTableOk_m tableOk
  by_cases hc:t.length≤8
  · rw [if_neg (by simp; omega),decide_eq_true hc,lp_all t.length (tabP t) (.inl ()) (.inr ()) (fun i hi _=>?_) (fun _=>by rw [if_neg (by simp)]),bd_val]
    · cases allR t.length (tabP t) <;> rfl
    · rw [if_pos (by simp; omega),gd_pos (by omega),Int.toNat_natCast,sEntry_p,bd_val];unfold tabP
      by_cases h0:0 < i
      · rw [wrap_pred hi h0 (by omega),gd_pos (fun _ _=>by omega),gd_pos (fun _ _=>by omega),Int.toNat_natCast,sLess_p,gcall_val,bd_val,wrap_succ hi (by omega)];have e1:decide ((i:Int) > 0)=true:=by simp; omega
        have e2:decide (i=0)=false:=by simp; omega
        rw [e1,e2]
        cases entryOk (t.getD i default)
        · rfl
        · cases lessE (t.getD (i - 1) default) (t.getD i default) <;> rfl
      · have e0:i=0:=by omega
        subst e0;rw [gd_pos (fun q=>absurd q (by decide)),gd_pos (fun q=>absurd q (by decide)),gcall,if_neg (fun q=>absurd q.1 (by decide)),bd_val,wrap_succ hi (by omega)]
        cases entryOk (t.getD 0 default) <;> rfl
  · rw [if_pos (by simp; omega),decide_eq_false hc]; rfl
theorem iTable_p {t:List HelloEntry} (h:t.length≤1048576):impl_HelloTableOk_m t=some (tableOk t):=by
  unfold impl_HelloTableOk_m tableOk;rw [lp_all t.length (tabP t) (.inl ()) (.inr ()) (fun i hi hp=>?_) (fun _=>by rw [if_neg (by simp)]),bd_val]
  · cases allR t.length (tabP t)
    · rw [if_neg (by decide),Bool.and_false]
    · rw [if_pos rfl,Bool.and_true];show some _=some _
      congr 1
      exact decide_eq_decide.2 (by omega)
  · rw [if_pos (by simp; omega),gd_pos (by omega),Int.toNat_natCast,iEntry_p,bd_val]
    by_cases h0:0 < i
    · have hq:=hp (i - 1) (by omega);unfold tabP at hq ⊢;simp only [Bool.and_eq_true] at hq;rw [wrap_pred hi h0 (by omega),gd_pos (fun _ _=>by omega),Int.toNat_natCast,iPrefix_p,iPrefix_p,wrap_succ hi (by omega)];have e1:decide ((i:Int) > 0)=true:=by simp; omega
      have e2:decide (i=0)=false:=by simp; omega
      rw [e1,e2]
      cases he:entryOk (t.getD i default)
      · simp [gcall]
      · have ha:=entry_range hq.1;have hb:=entry_range he;have hl:=lessE_iff (a:=t.getD (i - 1) default) (b:=t.getD i default) (by omega) (by omega);have hc:=cmpV_neg (a:=t.getD (i - 1) default) (b:=t.getD i default) (by omega) (by omega);rw [gcall,if_pos ⟨rfl,rfl⟩,bd_val,gcall,if_pos ⟨rfl,rfl⟩,bd_val,gcall,if_pos ⟨rfl,rfl⟩,cmp_p ha hb,bd_val];generalize cmpV (t.getD (i - 1) default).Addr (t.getD (i - 1) default).Len (t.getD i default).Addr (t.getD i default).Len=z at *
        by_cases c:pk (t.getD (i - 1) default) < pk (t.getD i default)
        · rw [hl.2 c,if_neg (by have:=hc.2 c; simp; omega)]; rfl
        · rw [Bool.eq_false_iff.2 (fun q=>c (hl.1 q)),if_pos (by have:=fun q=>c (hc.1 q); simp; omega)]; rfl
    · have e0:i=0:=by omega
      subst e0;unfold tabP;rw [gd_pos (fun q=>absurd q (by decide)),gcall,if_neg (fun q=>absurd q.1 (by decide)),bd_val,gcall,if_neg (fun q=>absurd q.1 (by decide)),bd_val,gcall,if_neg (fun q=>absurd q.1 (by decide)),bd_val,wrap_succ hi (by omega)]
      cases entryOk (t.getD 0 default) <;> rfl
def noEntry (e:HelloEntry):Bool:=(e.Addr == 0) && ((e.Len == 0) && ((e.Cost == 0) && (e.Label == 0)))
def changeOk (c:HelloChange):Bool:=if c.Kind=0 ∨ c.Kind=3 then noEntry c.Entry else if c.Kind=1 then entryOk c.Entry else if c.Kind=2 then prefOk c.Entry.Addr c.Entry.Len && (c.Entry.Cost == 0) && (c.Entry.Label == 0) else false
theorem change_aux {c:HelloChange} {m1 m2:Option Bool} (h1:m1=some (entryOk c.Entry)) (h2:m2=some (prefOk c.Entry.Addr c.Entry.Len && (c.Entry.Cost == 0) && (c.Entry.Label == 0))) :
    (bd (α:=Bool) ((if (c.Kind == 0)=true then some (c.Kind == 0) else some (c.Kind == 3))) fun x1=>(if x1=true then some ((c.Entry.Addr == 0) && ((c.Entry.Len == 0) && ((c.Entry.Cost == 0) && ((c.Entry.Label == 0) && true)))) else (if (c.Kind == 1)=true then m1 else (if (c.Kind == 2)=true then m2 else some false))))=some (changeOk c):=by
  unfold changeOk noEntry;rw [h1,h2,Bool.and_true];generalize entryOk c.Entry=x;generalize (prefOk c.Entry.Addr c.Entry.Len && (c.Entry.Cost == 0) && (c.Entry.Label == 0))=y;generalize ((c.Entry.Addr == 0) && ((c.Entry.Len == 0) && ((c.Entry.Cost == 0) && (c.Entry.Label == 0))))=z;generalize c.Kind=k;simp only [beq_iff_eq]
  by_cases k0:k=0
  · subst k0; rfl
  · by_cases k3:k=3
    · subst k3; rfl
    · rw [if_neg k0,bd_val,if_neg (by simpa using k3),if_neg (c:=k=0 ∨ k=3) (by omega)];split
      · rfl
      · split <;> rfl
theorem sChange_p (c:HelloChange):spec_l41ChangeOk_m c=some (changeOk c):=by
  unfold spec_l41ChangeOk_m;exact change_aux (by rw [sEntry_p,bd_val]) (by rw [sPref_p,bd_val])
theorem iChange_p (c:HelloChange):impl_HelloChange_ok_m c=some (changeOk c):=by
  unfold impl_HelloChange_ok_m;exact change_aux (by rw [iEntry_p,bd_val]) (by rw [iPrefix_p,bd_val,iPref_p,bd_val])
end Go.Proofs.YtaoeomoepefojaaGreat
