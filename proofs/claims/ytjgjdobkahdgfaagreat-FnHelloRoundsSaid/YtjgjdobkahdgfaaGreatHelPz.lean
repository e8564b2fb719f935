/-
  Plain Lean: keys, entries, tables and changes: what is ok of them, impl's and the reference's alike.
-/
import Derived.Test.YtjgjdobkahdgfaaGreatKz6
import Derived.Test.YtjgjdobkahdgfaaGreatPoBz
set_option linter.all false
namespace Go.Proofs.YtjgjdobkahdgfaaGreat
open Go Go.Ab
set_option maxHeartbeats 400000
set_option maxRecDepth 100000
def Qbq (len:Int):Int:=2 ^ (16 - len).toNat
theorem Qhf (len:Int):0 < Qbq len:=by unfold Qbq; exact Int.pow_pos (by omega)
theorem Qqc {len:Int} (h:0≤len):Qbq len≤65536:=by
  unfold Qbq;have:=QtX (a:=(16 - len).toNat) (b:=16) (by omega);simpa using this
def inR (a lo hi:Int):Bool:=decide (lo≤a) && decide (a≤hi)
@[simp] theorem JV {a lo hi:Int}:inR a lo hi=true ↔ lo≤a∧a≤hi:=by simp [inR]
@[simp] theorem Jj (a lo hi:Int):Qw a lo hi=some (inR a lo hi):=rfl
@[simp] theorem Jy (a lo hi:Int):QA a lo hi=some (inR a lo hi):=by simp [QA,inR]
def QdC (a l:Int):Bool:=inR l 0 16 && inR a 0 65535 && (a.tmod (Qbq l) == 0)
theorem QiL {a l:Int} (h:QdC a l=true):0≤l∧l≤16∧0≤a∧a≤65535:=by
  simp only [QdC,Bool.and_eq_true,JV] at h;omega
theorem Qne {n:Int} (h0:0≤n) (h1:n≤16):Qb9 n=some (Qbq n):=by
  obtain ⟨k,rfl⟩:∃ k:Nat,n=k:=⟨n.toNat,by omega⟩;have:k=0 ∨ k=1 ∨ k=2 ∨ k=3 ∨ k=4 ∨ k=5 ∨ k=6 ∨ k=7 ∨ k=8 ∨ k=9 ∨ k=10 ∨ k=11 ∨ k=12 ∨ k=13 ∨ k=14 ∨ k=15 ∨ k=16:=by omega
  rcases this with rfl | rfl | rfl | rfl | rfl | rfl | rfl | rfl | rfl | rfl | rfl | rfl | rfl | rfl | rfl | rfl | rfl <;> exact (QjU (QjV.2 ⟨18,rfl⟩)).trans rfl
theorem Qu8 {p:Qwa} (h0:0≤p.Len) (h1:p.Len≤16):JP p=some (Qbq p.Len):=by
  have e:IntKind.i64.wrap (16 - p.Len)=16 - p.Len:=wrap_i64 (by omega) (by omega);have hb:IntKind.bits .i64=64:=rfl;unfold JP;rw [e,Qn (by omega),hb,Nat.min_eq_left (by omega),Int.one_mul];have h:=Qqc h0;have hp:=Qhf p.Len;unfold Qbq at *;rw [wrap_i64 (by omega) (by omega)]
theorem Qo7 {a l:Int} {m:Option Int} (hm:inR l 0 16=true→m=some (Qbq l)) :
    (bd (gcall (inR l 0 16=true) (some (inR a 0 65535))) fun x2=>bd (gcall ((inR l 0 16 && x2)=true) m) fun x3=>gd ((inR l 0 16 && x2)=true→((x3:Int) ≠ 0)) <| some ((inR l 0 16 && x2) && ((a.tmod x3) == 0)))=some (QdC a l):=by
  have hp:=Qhf l;unfold QdC
  cases h1:inR l 0 16
  · simp [gcall,gd]
  · rw [hm h1]
    cases h2:inR a 0 65535
    · simp [gcall,gd]
    · simp only [gcall,Bool.true_and,if_true,Qb];rw [Qn (fun _=>by omega)]
theorem Qrm (e:Qv2):Qax e=some (QdC e.Addr e.Len):=by
  unfold Qax;simp only [Jy,Qb];exact Qo7 fun h=>Qne (JV.1 h).1 (JV.1 h).2
theorem Qrn (p:Qwa):Qcv p=some (QdC p.Addr p.Len):=by
  unfold Qcv;simp only [Jj,Qb];exact Qo7 fun h=>Qu8 (JV.1 h).1 (JV.1 h).2
def entryOk (e:Qv2):Bool:=QdC e.Addr e.Len && inR e.Cost 1 255 && inR e.Label 0 1000
theorem QaO {e:Qv2} (h:entryOk e=true):0≤e.Len∧e.Len≤16∧0≤e.Addr∧e.Addr≤65535:=by
  simp only [entryOk,Bool.and_eq_true] at h;exact QiL h.1.1
@[simp] theorem Qbi (e:Qv2):Qr e=some ⟨e.Addr,e.Len⟩:=rfl
theorem Qmh (e:Qv2):Ja e=some (entryOk e):=by
  unfold Ja entryOk;simp only [Qrm,Jy,Qb,Qf0]
  cases QdC e.Addr e.Len <;> simp
theorem Qmi (e:Qv2):ZX e=some (entryOk e):=by
  unfold ZX entryOk;simp only [Qbi,Qrn,Jj,Qb,Qf0]
  cases QdC e.Addr e.Len <;> simp
def lessE (a b:Qv2):Bool:=decide (a.Addr < b.Addr) || (a.Addr == b.Addr && decide (a.Len < b.Len))
def pk (e:Qv2):Int:=e.Addr*32+e.Len
def cmpV (a l b k:Int):Int:=if a=b then l - k else a - b
@[simp] theorem Qio (a b:Qv2):ZK a b=some (lessE a b):=rfl
theorem QhO {a b:Qv2} (ha:0≤a.Len∧a.Len≤16) (hb:0≤b.Len∧b.Len≤16):lessE a b=true ↔ pk a < pk b:=by
  simp only [lessE,pk,Bool.or_eq_true,Bool.and_eq_true,decide_eq_true_eq,beq_iff_eq];omega
theorem QsQ {a l b k:Int} (h1:0≤l∧l≤16∧0≤a∧a≤65535) (h2:0≤k∧k≤16∧0≤b∧b≤65535):Zz ⟨a,l⟩ ⟨b,k⟩=some (cmpV a l b k):=by
  unfold Zz cmpV;dsimp only
  by_cases h:a=b
  · rw [if_neg (by simp [h]),if_pos h,wrap_i64 (by omega) (by omega)]
  · rw [if_pos (by simp [h]),if_neg h,wrap_i64 (by omega) (by omega)]
theorem Qjc {a b:Qv2} (h1:0≤a.Len∧a.Len≤16) (h2:0≤b.Len∧b.Len≤16):cmpV a.Addr a.Len b.Addr b.Len < 0 ↔ pk a < pk b:=by
  unfold cmpV pk;split <;> omega
theorem Qnf {a b:Qv2} (h1:0≤a.Len∧a.Len≤16) (h2:0≤b.Len∧b.Len≤16):cmpV a.Addr a.Len b.Addr b.Len=0 ↔ pk a=pk b:=by
  unfold cmpV pk;split <;> omega
theorem Qu9 {a b:Qv2} (h1:0≤a.Len∧a.Len≤16) (h2:0≤b.Len∧b.Len≤16):pk a=pk b ↔ a.Addr=b.Addr∧a.Len=b.Len:=by
  unfold pk;omega
def Qsc (ks:List Qv1) (i:Nat):Bool:=inR (ks.getD i default).Id 1 9 && inR (ks.getD i default).Secret 1 2147483646 && (decide (i=0) || decide ((ks.getD (i - 1) default).Id < (ks.getD i default).Id))
def Qbx (ks:List Qv1):Bool:=inR ks.length 1 3 && QiW ks.length (Qsc ks)
theorem Qka {ks:List Qv1} (h:ks.length≤1048576):Z2 ks=some (Qbx ks):=by
  unfold Z2 Qbx;rw [Jy,Qb]
  cases hc:inR ks.length 1 3
  · rfl
  · rw [if_neg (by decide),QdB ks.length (Qsc ks) (.inl ()) (.inr ()) (fun i hi _=>?_) (fun _=>by rw [if_neg (by simp)]),Qb]
    · cases QiW ks.length (Qsc ks) <;> rfl
    · rw [if_pos (by simp; omega),Qn (by omega),Int.toNat_natCast,Jy,Qb,Qn (fun _=>by omega),Jy,Zg,Qb];unfold Qsc
      by_cases h0:0 < i
      · rw [QeP hi h0 (by omega),Qn (fun _ _=>by omega),Qn (fun _ _=>by omega),Int.toNat_natCast,QE hi (by omega)];have e1:decide ((i:Int) > 0)=true:=by simp; omega
        have e2:decide (i=0)=false:=by simp; omega
        rw [e1,e2];generalize ks.getD (i - 1) default=u;generalize ks.getD i default=v
        cases inR v.Id 1 9
        · rfl
        · cases inR v.Secret 1 2147483646
          · rfl
          · by_cases c:u.Id < v.Id
            · rw [if_neg (by simp; omega),if_pos (by simp [c])]
            · rw [if_pos (by simp; omega),if_neg (by simp [c])]
      · have e0:i=0:=by omega
        subst e0;rw [Qn (fun q=>absurd q (by decide)),Qn (fun q=>absurd q (by decide)),QE hi (by omega)]
        cases inR (ks.getD 0 default).Id 1 9
        · rfl
        · cases inR (ks.getD 0 default).Secret 1 2147483646 <;> rfl
theorem Qmj {ks:List Qv1} (h:ks.length≤1048576):Z3 ks=some (Qbx ks):=by
  unfold Z3 Qbx;rw [QdB ks.length (Qsc ks) (.inl ()) (.inr ()) (fun i hi _=>?_) (fun _=>by rw [if_neg (by simp)]),Qb]
  · cases QiW ks.length (Qsc ks)
    · rw [if_neg (by decide),Bool.and_false]
    · rw [if_pos rfl,Bool.and_true]; rfl
  · rw [if_pos (by simp; omega),Qn (by omega),Int.toNat_natCast,Jj,Qb,Jj,Zg,Qb];unfold Qsc
    by_cases h0:0 < i
    · rw [QeP hi h0 (by omega),Qn (fun _ _=>by omega),Int.toNat_natCast,QE hi (by omega)];have e1:decide ((i:Int) > 0)=true:=by simp; omega
      have e2:decide (i=0)=false:=by simp; omega
      rw [e1,e2];generalize ks.getD (i - 1) default=u;generalize ks.getD i default=v
      cases inR v.Id 1 9
      · rfl
      · cases inR v.Secret 1 2147483646
        · rfl
        · by_cases c:u.Id < v.Id
          · rw [if_neg (by simp; omega),if_pos (by simp [c])]
          · rw [if_pos (by simp; omega),if_neg (by simp [c])]
    · have e0:i=0:=by omega
      subst e0;rw [Qn (fun q=>absurd q (by decide)),QE hi (by omega)]
      cases inR (ks.getD 0 default).Id 1 9
      · rfl
      · cases inR (ks.getD 0 default).Secret 1 2147483646 <;> rfl
def Qro (t:List Qv2) (i:Nat):Bool:=entryOk (t.getD i default) && (decide (i=0) || lessE (t.getD (i - 1) default) (t.getD i default))
def JW (t:List Qv2):Bool:=decide (t.length≤8) && QiW t.length (Qro t)
theorem Qgm (t:List Qv2):Zr t=some (JW t):=by
  unfold Zr JW
  by_cases hc:t.length≤8
  · rw [if_neg (by simp; omega),decide_eq_true hc,QdB t.length (Qro t) (.inl ()) (.inr ()) (fun i hi _=>?_) (fun _=>by rw [if_neg (by simp)]),Qb]
    · cases QiW t.length (Qro t) <;> rfl
    · rw [if_pos (by simp; omega),Qn (by omega),Int.toNat_natCast,Qmh,Qb];unfold Qro
      by_cases h0:0 < i
      · rw [QeP hi h0 (by omega),Qn (fun _ _=>by omega),Qn (fun _ _=>by omega),Int.toNat_natCast,Qio,JU,Qb,QE hi (by omega)];have e1:decide ((i:Int) > 0)=true:=by simp; omega
        have e2:decide (i=0)=false:=by simp; omega
        rw [e1,e2]
        cases entryOk (t.getD i default)
        · rfl
        · cases lessE (t.getD (i - 1) default) (t.getD i default) <;> rfl
      · have e0:i=0:=by omega
        subst e0;rw [Qn (fun q=>absurd q (by decide)),Qn (fun q=>absurd q (by decide)),gcall,if_neg (fun q=>absurd q.1 (by decide)),Qb,QE hi (by omega)]
        cases entryOk (t.getD 0 default) <;> rfl
  · rw [if_pos (by simp; omega),decide_eq_false hc]; rfl
theorem QhP {t:List Qv2} (h:t.length≤1048576):Zs t=some (JW t):=by
  unfold Zs JW;rw [QdB t.length (Qro t) (.inl ()) (.inr ()) (fun i hi hp=>?_) (fun _=>by rw [if_neg (by simp)]),Qb]
  · cases QiW t.length (Qro t)
    · rw [if_neg (by decide),Bool.and_false]
    · rw [if_pos rfl,Bool.and_true];show some _=some _
      congr 1
      exact decide_eq_decide.2 (by omega)
  · rw [if_pos (by simp; omega),Qn (by omega),Int.toNat_natCast,Qmi,Qb]
    by_cases h0:0 < i
    · have hq:=hp (i - 1) (by omega);unfold Qro at hq ⊢;simp only [Bool.and_eq_true] at hq;rw [QeP hi h0 (by omega),Qn (fun _ _=>by omega),Int.toNat_natCast,Qbi,Qbi,QE hi (by omega)];have e1:decide ((i:Int) > 0)=true:=by simp; omega
      have e2:decide (i=0)=false:=by simp; omega
      rw [e1,e2]
      cases he:entryOk (t.getD i default)
      · simp [gcall]
      · have ha:=QaO hq.1;have hb:=QaO he;have hl:=QhO (a:=t.getD (i - 1) default) (b:=t.getD i default) (by omega) (by omega);have hc:=Qjc (a:=t.getD (i - 1) default) (b:=t.getD i default) (by omega) (by omega);rw [gcall,if_pos ⟨rfl,rfl⟩,Qb,gcall,if_pos ⟨rfl,rfl⟩,Qb,gcall,if_pos ⟨rfl,rfl⟩,QsQ ha hb,Qb];generalize cmpV (t.getD (i - 1) default).Addr (t.getD (i - 1) default).Len (t.getD i default).Addr (t.getD i default).Len=z at *
        by_cases c:pk (t.getD (i - 1) default) < pk (t.getD i default)
        · rw [hl.2 c,if_neg (by have:=hc.2 c; simp; omega)]; rfl
        · rw [Bool.eq_false_iff.2 (fun q=>c (hl.1 q)),if_pos (by have:=fun q=>c (hc.1 q); simp; omega)]; rfl
    · have e0:i=0:=by omega
      subst e0;unfold Qro;rw [Qn (fun q=>absurd q (by decide)),gcall,if_neg (fun q=>absurd q.1 (by decide)),Qb,gcall,if_neg (fun q=>absurd q.1 (by decide)),Qb,gcall,if_neg (fun q=>absurd q.1 (by decide)),Qb,QE hi (by omega)]
      cases entryOk (t.getD 0 default) <;> rfl
def Qkb (e:Qv2):Bool:=(e.Addr == 0) && ((e.Len == 0) && ((e.Cost == 0) && (e.Label == 0)))
def Zc (c:Qv3):Bool:=if c.Kind=0 ∨ c.Kind=3 then Qkb c.Entry else if c.Kind=1 then entryOk c.Entry else if c.Kind=2 then QdC c.Entry.Addr c.Entry.Len && (c.Entry.Cost == 0) && (c.Entry.Label == 0) else false
theorem Qlm {c:Qv3} {m1 m2:Option Bool} (h1:m1=some (entryOk c.Entry)) (h2:m2=some (QdC c.Entry.Addr c.Entry.Len && (c.Entry.Cost == 0) && (c.Entry.Label == 0))) :
    (bd (α:=Bool) ((if (c.Kind == 0)=true then some (c.Kind == 0) else some (c.Kind == 3))) fun x1=>(if x1=true then some ((c.Entry.Addr == 0) && ((c.Entry.Len == 0) && ((c.Entry.Cost == 0) && ((c.Entry.Label == 0) && true)))) else (if (c.Kind == 1)=true then m1 else (if (c.Kind == 2)=true then m2 else some false))))=some (Zc c):=by
  unfold Zc Qkb;rw [h1,h2,Bool.and_true];generalize entryOk c.Entry=x;generalize (QdC c.Entry.Addr c.Entry.Len && (c.Entry.Cost == 0) && (c.Entry.Label == 0))=y;generalize ((c.Entry.Addr == 0) && ((c.Entry.Len == 0) && ((c.Entry.Cost == 0) && (c.Entry.Label == 0))))=z;generalize c.Kind=k;simp only [beq_iff_eq]
  by_cases k0:k=0
  · subst k0; rfl
  · by_cases k3:k=3
    · subst k3; rfl
    · rw [if_neg k0,Qb,if_neg (by simpa using k3),if_neg (c:=k=0 ∨ k=3) (by omega)];split
      · rfl
      · split <;> rfl
theorem Qng (c:Qv3):JZ c=some (Zc c):=by
  unfold JZ;exact Qlm (by rw [Qmh,Qb]) (by rw [Qrm,Qb])
theorem Qnh (c:Qv3):Jc c=some (Zc c):=by
  unfold Jc;exact Qlm (by rw [Qmi,Qb]) (by rw [Qbi,Qb,Qrn,Qb])
end Go.Proofs.YtjgjdobkahdgfaaGreat
