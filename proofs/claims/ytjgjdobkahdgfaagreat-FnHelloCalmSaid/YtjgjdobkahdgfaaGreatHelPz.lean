/-
  Plain Lean: keys, entries, tables and changes: what is ok of them, impl's and the reference's alike.
-/
import Derived.Test.YtjgjdobkahdgfaaGreatKz5
import Derived.Test.YtjgjdobkahdgfaaGreatPoBz
set_option linter.all false
namespace Go.Proofs.YtjgjdobkahdgfaaGreat
open Go Go.Ab
set_option maxHeartbeats 400000
set_option maxRecDepth 100000
def QbF (len:Int):Int:=2 ^ (16 - len).toNat
theorem Qho (len:Int):0 < QbF len:=by unfold QbF; exact Int.pow_pos (by omega)
theorem Qq5 {len:Int} (h:0≤len):QbF len≤65536:=by
  unfold QbF;have:=Qu7 (a:=(16 - len).toNat) (b:=16) (by omega);simpa using this
def inR (a lo hi:Int):Bool:=decide (lo≤a) && decide (a≤hi)
@[simp] theorem Jz {a lo hi:Int}:inR a lo hi=true ↔ lo≤a∧a≤hi:=by simp [inR]
@[simp] theorem Jd (a lo hi:Int):Qu a lo hi=some (inR a lo hi):=rfl
@[simp] theorem JQ (a lo hi:Int):QA a lo hi=some (inR a lo hi):=by simp [QA,inR]
def QdT (a l:Int):Bool:=inR l 0 16 && inR a 0 65535 && (a.tmod (QbF l) == 0)
theorem QiU {a l:Int} (h:QdT a l=true):0≤l∧l≤16∧0≤a∧a≤65535:=by
  simp only [QdT,Bool.and_eq_true,Jz] at h;omega
theorem QnC {n:Int} (h0:0≤n) (h1:n≤16):Qco n=some (QbF n):=by
  obtain ⟨k,rfl⟩:∃ k:Nat,n=k:=⟨n.toNat,by omega⟩;have:k=0 ∨ k=1 ∨ k=2 ∨ k=3 ∨ k=4 ∨ k=5 ∨ k=6 ∨ k=7 ∨ k=8 ∨ k=9 ∨ k=10 ∨ k=11 ∨ k=12 ∨ k=13 ∨ k=14 ∨ k=15 ∨ k=16:=by omega
  rcases this with rfl | rfl | rfl | rfl | rfl | rfl | rfl | rfl | rfl | rfl | rfl | rfl | rfl | rfl | rfl | rfl | rfl <;> exact (Qka (Qkb.2 ⟨18,rfl⟩)).trans rfl
theorem Qwu {p:Qxu} (h0:0≤p.Len) (h1:p.Len≤16):JX p=some (QbF p.Len):=by
  have e:IntKind.i64.wrap (16 - p.Len)=16 - p.Len:=wrap_i64 (by omega) (by omega);have hb:IntKind.bits .i64=64:=rfl;unfold JX;rw [e,Qp (by omega),hb,Nat.min_eq_left (by omega),Int.one_mul];have h:=Qq5 h0;have hp:=Qho p.Len;unfold QbF at *;rw [wrap_i64 (by omega) (by omega)]
theorem QpG {a l:Int} {m:Option Int} (hm:inR l 0 16=true→m=some (QbF l)) :
    (bd (gcall (inR l 0 16=true) (some (inR a 0 65535))) fun x2=>bd (gcall ((inR l 0 16 && x2)=true) m) fun x3=>gd ((inR l 0 16 && x2)=true→((x3:Int) ≠ 0)) <| some ((inR l 0 16 && x2) && ((a.tmod x3) == 0)))=some (QdT a l):=by
  have hp:=Qho l;unfold QdT
  cases h1:inR l 0 16
  · simp [gcall,gd]
  · rw [hm h1]
    cases h2:inR a 0 65535
    · simp [gcall,gd]
    · simp only [gcall,Bool.true_and,if_true,Qb];rw [Qp (fun _=>by omega)]
theorem Qsa (e:Qxm):QaD e=some (QdT e.Addr e.Len):=by
  unfold QaD;simp only [JQ,Qb];exact QpG fun h=>QnC (Jz.1 h).1 (Jz.1 h).2
theorem Qsb (p:Qxu):QcK p=some (QdT p.Addr p.Len):=by
  unfold QcK;simp only [Jd,Qb];exact QpG fun h=>Qwu (Jz.1 h).1 (Jz.1 h).2
def entryOk (e:Qxm):Bool:=QdT e.Addr e.Len && inR e.Cost 1 255 && inR e.Label 0 1000
theorem QaA {e:Qxm} (h:entryOk e=true):0≤e.Len∧e.Len≤16∧0≤e.Addr∧e.Addr≤65535:=by
  simp only [entryOk,Bool.and_eq_true] at h;exact QiU h.1.1
@[simp] theorem Qbw (e:Qxm):Qr e=some ⟨e.Addr,e.Len⟩:=rfl
theorem Qmw (e:Qxm):Jh e=some (entryOk e):=by
  unfold Jh entryOk;simp only [Qsa,JQ,Qb,Qgk]
  cases QdT e.Addr e.Len <;> simp
theorem Qmx (e:Qxm):Z0 e=some (entryOk e):=by
  unfold Z0 entryOk;simp only [Qbw,Qsb,Jd,Qb,Qgk]
  cases QdT e.Addr e.Len <;> simp
def lessE (a b:Qxm):Bool:=decide (a.Addr < b.Addr) || (a.Addr == b.Addr && decide (a.Len < b.Len))
def pk (e:Qxm):Int:=e.Addr*32+e.Len
def cmpV (a l b k:Int):Int:=if a=b then l - k else a - b
@[simp] theorem Qix (a b:Qxm):ZP a b=some (lessE a b):=rfl
theorem QhZ {a b:Qxm} (ha:0≤a.Len∧a.Len≤16) (hb:0≤b.Len∧b.Len≤16):lessE a b=true ↔ pk a < pk b:=by
  simp only [lessE,pk,Bool.or_eq_true,Bool.and_eq_true,decide_eq_true_eq,beq_iff_eq];omega
theorem QtR {a l b k:Int} (h1:0≤l∧l≤16∧0≤a∧a≤65535) (h2:0≤k∧k≤16∧0≤b∧b≤65535):ZF ⟨a,l⟩ ⟨b,k⟩=some (cmpV a l b k):=by
  unfold ZF cmpV;dsimp only
  by_cases h:a=b
  · rw [if_neg (by simp [h]),if_pos h,wrap_i64 (by omega) (by omega)]
  · rw [if_pos (by simp [h]),if_neg h,wrap_i64 (by omega) (by omega)]
theorem Qjr {a b:Qxm} (h1:0≤a.Len∧a.Len≤16) (h2:0≤b.Len∧b.Len≤16):cmpV a.Addr a.Len b.Addr b.Len < 0 ↔ pk a < pk b:=by
  unfold cmpV pk;split <;> omega
theorem QnD {a b:Qxm} (h1:0≤a.Len∧a.Len≤16) (h2:0≤b.Len∧b.Len≤16):cmpV a.Addr a.Len b.Addr b.Len=0 ↔ pk a=pk b:=by
  unfold cmpV pk;split <;> omega
theorem Qwv {a b:Qxm} (h1:0≤a.Len∧a.Len≤16) (h2:0≤b.Len∧b.Len≤16):pk a=pk b ↔ a.Addr=b.Addr∧a.Len=b.Len:=by
  unfold pk;omega
def Qte (ks:List Qxl) (i:Nat):Bool:=inR (ks.getD i default).Id 1 9 && inR (ks.getD i default).Secret 1 2147483646 && (decide (i=0) || decide ((ks.getD (i - 1) default).Id < (ks.getD i default).Id))
def Qbb (ks:List Qxl):Bool:=inR ks.length 1 3 && QmW ks.length (Qte ks)
theorem Qmy {ks:List Qxl} (h:ks.length≤1048576):Z5 ks=some (Qbb ks):=by
  unfold Z5 Qbb;rw [JQ,Qb]
  cases hc:inR ks.length 1 3
  · rfl
  · rw [if_neg (by decide),QgW ks.length (Qte ks) (.inl ()) (.inr ()) (fun i hi _=>?_) (fun _=>by rw [if_neg (by simp)]),Qb]
    · cases QmW ks.length (Qte ks) <;> rfl
    · rw [if_pos (by simp; omega),Qp (by omega),Int.toNat_natCast,JQ,Qb,Qp (fun _=>by omega),JQ,Zi,Qb];unfold Qte
      by_cases h0:0 < i
      · rw [Qe4 hi h0 (by omega),Qp (fun _ _=>by omega),Qp (fun _ _=>by omega),Int.toNat_natCast,QM hi (by omega)];have e1:decide ((i:Int) > 0)=true:=by simp; omega
        have e2:decide (i=0)=false:=by simp; omega
        rw [e1,e2];generalize ks.getD (i - 1) default=u;generalize ks.getD i default=v
        cases inR v.Id 1 9
        · rfl
        · cases inR v.Secret 1 2147483646
          · rfl
          · by_cases c:u.Id < v.Id
            · rw [if_neg (by simp; omega),if_pos (by simp [c])]
            · rw [if_pos (by simp; omega),if_neg (by simp [c])]
      · have e0:i=0:=by omega
        subst e0;rw [Qp (fun q=>absurd q (by decide)),Qp (fun q=>absurd q (by decide)),QM hi (by omega)]
        cases inR (ks.getD 0 default).Id 1 9
        · rfl
        · cases inR (ks.getD 0 default).Secret 1 2147483646 <;> rfl
theorem Qmz {ks:List Qxl} (h:ks.length≤1048576):Z6 ks=some (Qbb ks):=by
  unfold Z6 Qbb;rw [QgW ks.length (Qte ks) (.inl ()) (.inr ()) (fun i hi _=>?_) (fun _=>by rw [if_neg (by simp)]),Qb]
  · cases QmW ks.length (Qte ks)
    · rw [if_neg (by decide),Bool.and_false]
    · rw [if_pos rfl,Bool.and_true]; rfl
  · rw [if_pos (by simp; omega),Qp (by omega),Int.toNat_natCast,Jd,Qb,Jd,Zi,Qb];unfold Qte
    by_cases h0:0 < i
    · rw [Qe4 hi h0 (by omega),Qp (fun _ _=>by omega),Int.toNat_natCast,QM hi (by omega)];have e1:decide ((i:Int) > 0)=true:=by simp; omega
      have e2:decide (i=0)=false:=by simp; omega
      rw [e1,e2];generalize ks.getD (i - 1) default=u;generalize ks.getD i default=v
      cases inR v.Id 1 9
      · rfl
      · cases inR v.Secret 1 2147483646
        · rfl
        · by_cases c:u.Id < v.Id
          · rw [if_neg (by simp; omega),if_pos (by simp [c])]
          · rw [if_pos (by simp; omega),if_neg (by simp [c])]
    · have e0:i=0:=by omega
      subst e0;rw [Qp (fun q=>absurd q (by decide)),QM hi (by omega)]
      cases inR (ks.getD 0 default).Id 1 9
      · rfl
      · cases inR (ks.getD 0 default).Secret 1 2147483646 <;> rfl
def Qsc (t:List Qxm) (i:Nat):Bool:=entryOk (t.getD i default) && (decide (i=0) || lessE (t.getD (i - 1) default) (t.getD i default))
def J1 (t:List Qxm):Bool:=decide (t.length≤8) && QmW t.length (Qsc t)
theorem Qh0 (t:List Qxm):Zv t=some (J1 t):=by
  unfold Zv J1
  by_cases hc:t.length≤8
  · rw [if_neg (by simp; omega),decide_eq_true hc,QgW t.length (Qsc t) (.inl ()) (.inr ()) (fun i hi _=>?_) (fun _=>by rw [if_neg (by simp)]),Qb]
    · cases QmW t.length (Qsc t) <;> rfl
    · rw [if_pos (by simp; omega),Qp (by omega),Int.toNat_natCast,Qmw,Qb];unfold Qsc
      by_cases h0:0 < i
      · rw [Qe4 hi h0 (by omega),Qp (fun _ _=>by omega),Qp (fun _ _=>by omega),Int.toNat_natCast,Qix,Qb5,Qb,QM hi (by omega)];have e1:decide ((i:Int) > 0)=true:=by simp; omega
        have e2:decide (i=0)=false:=by simp; omega
        rw [e1,e2]
        cases entryOk (t.getD i default)
        · rfl
        · cases lessE (t.getD (i - 1) default) (t.getD i default) <;> rfl
      · have e0:i=0:=by omega
        subst e0;rw [Qp (fun q=>absurd q (by decide)),Qp (fun q=>absurd q (by decide)),gcall,if_neg (fun q=>absurd q.1 (by decide)),Qb,QM hi (by omega)]
        cases entryOk (t.getD 0 default) <;> rfl
  · rw [if_pos (by simp; omega),decide_eq_false hc]; rfl
theorem Qh1 {t:List Qxm} (h:t.length≤1048576):Zw t=some (J1 t):=by
  unfold Zw J1;rw [QgW t.length (Qsc t) (.inl ()) (.inr ()) (fun i hi hp=>?_) (fun _=>by rw [if_neg (by simp)]),Qb]
  · cases QmW t.length (Qsc t)
    · rw [if_neg (by decide),Bool.and_false]
    · rw [if_pos rfl,Bool.and_true];show some _=some _
      congr 1
      exact decide_eq_decide.2 (by omega)
  · rw [if_pos (by simp; omega),Qp (by omega),Int.toNat_natCast,Qmx,Qb]
    by_cases h0:0 < i
    · have hq:=hp (i - 1) (by omega);unfold Qsc at hq ⊢;simp only [Bool.and_eq_true] at hq;rw [Qe4 hi h0 (by omega),Qp (fun _ _=>by omega),Int.toNat_natCast,Qbw,Qbw,QM hi (by omega)];have e1:decide ((i:Int) > 0)=true:=by simp; omega
      have e2:decide (i=0)=false:=by simp; omega
      rw [e1,e2]
      cases he:entryOk (t.getD i default)
      · simp [gcall]
      · have ha:=QaA hq.1;have hb:=QaA he;have hl:=QhZ (a:=t.getD (i - 1) default) (b:=t.getD i default) (by omega) (by omega);have hc:=Qjr (a:=t.getD (i - 1) default) (b:=t.getD i default) (by omega) (by omega);rw [gcall,if_pos ⟨rfl,rfl⟩,Qb,gcall,if_pos ⟨rfl,rfl⟩,Qb,gcall,if_pos ⟨rfl,rfl⟩,QtR ha hb,Qb];generalize cmpV (t.getD (i - 1) default).Addr (t.getD (i - 1) default).Len (t.getD i default).Addr (t.getD i default).Len=z at *
        by_cases c:pk (t.getD (i - 1) default) < pk (t.getD i default)
        · rw [hl.2 c,if_neg (by have:=hc.2 c; simp; omega)]; rfl
        · rw [Bool.eq_false_iff.2 (fun q=>c (hl.1 q)),if_pos (by have:=fun q=>c (hc.1 q); simp; omega)]; rfl
    · have e0:i=0:=by omega
      subst e0;unfold Qsc;rw [Qp (fun q=>absurd q (by decide)),gcall,if_neg (fun q=>absurd q.1 (by decide)),Qb,gcall,if_neg (fun q=>absurd q.1 (by decide)),Qb,gcall,if_neg (fun q=>absurd q.1 (by decide)),Qb,QM hi (by omega)]
      cases entryOk (t.getD 0 default) <;> rfl
def Qkr (e:Qxm):Bool:=(e.Addr == 0) && ((e.Len == 0) && ((e.Cost == 0) && (e.Label == 0)))
def QV (c:Qxn):Bool:=if c.Kind=0 ∨ c.Kind=3 then Qkr c.Entry else if c.Kind=1 then entryOk c.Entry else if c.Kind=2 then QdT c.Entry.Addr c.Entry.Len && (c.Entry.Cost == 0) && (c.Entry.Label == 0) else false
theorem QlF {c:Qxn} {m1 m2:Option Bool} (h1:m1=some (entryOk c.Entry)) (h2:m2=some (QdT c.Entry.Addr c.Entry.Len && (c.Entry.Cost == 0) && (c.Entry.Label == 0))) :
    (bd (α:=Bool) ((if (c.Kind == 0)=true then some (c.Kind == 0) else some (c.Kind == 3))) fun x1=>(if x1=true then some ((c.Entry.Addr == 0) && ((c.Entry.Len == 0) && ((c.Entry.Cost == 0) && ((c.Entry.Label == 0) && true)))) else (if (c.Kind == 1)=true then m1 else (if (c.Kind == 2)=true then m2 else some false))))=some (QV c):=by
  unfold QV Qkr;rw [h1,h2,Bool.and_true];generalize entryOk c.Entry=x;generalize (QdT c.Entry.Addr c.Entry.Len && (c.Entry.Cost == 0) && (c.Entry.Label == 0))=y;generalize ((c.Entry.Addr == 0) && ((c.Entry.Len == 0) && ((c.Entry.Cost == 0) && (c.Entry.Label == 0))))=z;generalize c.Kind=k;simp only [beq_iff_eq]
  by_cases k0:k=0
  · subst k0; rfl
  · by_cases k3:k=3
    · subst k3; rfl
    · rw [if_neg k0,Qb,if_neg (by simpa using k3),if_neg (c:=k=0 ∨ k=3) (by omega)];split
      · rfl
      · split <;> rfl
theorem QnE (c:Qxn):J3 c=some (QV c):=by
  unfold J3;exact QlF (by rw [Qmw,Qb]) (by rw [Qsa,Qb])
theorem QnF (c:Qxn):Jj c=some (QV c):=by
  unfold Jj;exact QlF (by rw [Qmx,Qb]) (by rw [Qbw,Qb,Qsb,Qb])
end Go.Proofs.YtjgjdobkahdgfaaGreat
