/-
  Plain Lean: keys, entries, tables and changes: what is ok of them, impl's and the reference's alike.
-/
import Derived.Test.YtjgjdobkahdgfaaGreatKz5
import Derived.Test.YtjgjdobkahdgfaaGreatPoBz
set_option linter.all false
namespace Go.Proofs.YtjgjdobkahdgfaaGreat
open Go Go.Ab
set_option maxHeartbeats 400000
set_option maxRecDepth 100000
def Qby (len:Int):Int:=2 ^ (16 - len).toNat
theorem Qhc (len:Int):0 < Qby len:=by unfold Qby; exact Int.pow_pos (by omega)
theorem QqP {len:Int} (h:0≤len):Qby len≤65536:=by
  unfold Qby;have:=QuX (a:=(16 - len).toNat) (b:=16) (by omega);simpa using this
def inR (a lo hi:Int):Bool:=decide (lo≤a) && decide (a≤hi)
@[simp] theorem Jv {a lo hi:Int}:inR a lo hi=true ↔ lo≤a∧a≤hi:=by simp [inR]
@[simp] theorem Z6 (a lo hi:Int):Qu a lo hi=some (inR a lo hi):=rfl
@[simp] theorem JL (a lo hi:Int):Qy a lo hi=some (inR a lo hi):=by simp [Qy,inR]
def QdK (a l:Int):Bool:=inR l 0 16 && inR a 0 65535 && (a.tmod (Qby l) == 0)
theorem QiL {a l:Int} (h:QdK a l=true):0≤l∧l≤16∧0≤a∧a≤65535:=by
  simp only [QdK,Bool.and_eq_true,Jv] at h;omega
theorem Qnl {n:Int} (h0:0≤n) (h1:n≤16):Qch n=some (Qby n):=by
  obtain ⟨k,rfl⟩:∃ k:Nat,n=k:=⟨n.toNat,by omega⟩;have:k=0 ∨ k=1 ∨ k=2 ∨ k=3 ∨ k=4 ∨ k=5 ∨ k=6 ∨ k=7 ∨ k=8 ∨ k=9 ∨ k=10 ∨ k=11 ∨ k=12 ∨ k=13 ∨ k=14 ∨ k=15 ∨ k=16:=by omega
  rcases this with rfl | rfl | rfl | rfl | rfl | rfl | rfl | rfl | rfl | rfl | rfl | rfl | rfl | rfl | rfl | rfl | rfl <;> exact (QjY (QjZ.2 ⟨18,rfl⟩)).trans rfl
theorem Qwh {p:Qxg} (h0:0≤p.Len) (h1:p.Len≤16):JS p=some (Qby p.Len):=by
  have e:IntKind.i64.wrap (16 - p.Len)=16 - p.Len:=wrap_i64 (by omega) (by omega);have hb:IntKind.bits .i64=64:=rfl;unfold JS;rw [e,Qp (by omega),hb,Nat.min_eq_left (by omega),Int.one_mul];have h:=QqP h0;have hp:=Qhc p.Len;unfold Qby at *;rw [wrap_i64 (by omega) (by omega)]
theorem Qpr {a l:Int} {m:Option Int} (hm:inR l 0 16=true→m=some (Qby l)) :
    (bd (gcall (inR l 0 16=true) (some (inR a 0 65535))) fun x2=>bd (gcall ((inR l 0 16 && x2)=true) m) fun x3=>gd ((inR l 0 16 && x2)=true→((x3:Int) ≠ 0)) <| some ((inR l 0 16 && x2) && ((a.tmod x3) == 0)))=some (QdK a l):=by
  have hp:=Qhc l;unfold QdK
  cases h1:inR l 0 16
  · simp [gcall,gd]
  · rw [hm h1]
    cases h2:inR a 0 65535
    · simp [gcall,gd]
    · simp only [gcall,Bool.true_and,if_true,Qb];rw [Qp (fun _=>by omega)]
theorem QrV (e:Qw8):Qax e=some (QdK e.Addr e.Len):=by
  unfold Qax;simp only [JL,Qb];exact Qpr fun h=>Qnl (Jv.1 h).1 (Jv.1 h).2
theorem QrW (p:Qxg):QcC p=some (QdK p.Addr p.Len):=by
  unfold QcC;simp only [Z6,Qb];exact Qpr fun h=>Qwh (Jv.1 h).1 (Jv.1 h).2
def entryOk (e:Qw8):Bool:=QdK e.Addr e.Len && inR e.Cost 1 255 && inR e.Label 0 1000
theorem Qat {e:Qw8} (h:entryOk e=true):0≤e.Len∧e.Len≤16∧0≤e.Addr∧e.Addr≤65535:=by
  simp only [entryOk,Bool.and_eq_true] at h;exact QiL h.1.1
@[simp] theorem Qbo (e:Qw8):Qq e=some ⟨e.Addr,e.Len⟩:=rfl
theorem Qmh (e:Qw8):Ja e=some (entryOk e):=by
  unfold Ja entryOk;simp only [QrV,JL,Qb,Qf9]
  cases QdK e.Addr e.Len <;> simp
theorem Qmi (e:Qw8):ZW e=some (entryOk e):=by
  unfold ZW entryOk;simp only [Qbo,QrW,Z6,Qb,Qf9]
  cases QdK e.Addr e.Len <;> simp
def lessE (a b:Qw8):Bool:=decide (a.Addr < b.Addr) || (a.Addr == b.Addr && decide (a.Len < b.Len))
def pk (e:Qw8):Int:=e.Addr*32+e.Len
def cmpV (a l b k:Int):Int:=if a=b then l - k else a - b
@[simp] theorem Qip (a b:Qw8):ZL a b=some (lessE a b):=rfl
theorem QhQ {a b:Qw8} (ha:0≤a.Len∧a.Len≤16) (hb:0≤b.Len∧b.Len≤16):lessE a b=true ↔ pk a < pk b:=by
  simp only [lessE,pk,Bool.or_eq_true,Bool.and_eq_true,decide_eq_true_eq,beq_iff_eq];omega
theorem QtG {a l b k:Int} (h1:0≤l∧l≤16∧0≤a∧a≤65535) (h2:0≤k∧k≤16∧0≤b∧b≤65535):ZA ⟨a,l⟩ ⟨b,k⟩=some (cmpV a l b k):=by
  unfold ZA cmpV;dsimp only
  by_cases h:a=b
  · rw [if_neg (by simp [h]),if_pos h,wrap_i64 (by omega) (by omega)]
  · rw [if_pos (by simp [h]),if_neg h,wrap_i64 (by omega) (by omega)]
theorem Qjf {a b:Qw8} (h1:0≤a.Len∧a.Len≤16) (h2:0≤b.Len∧b.Len≤16):cmpV a.Addr a.Len b.Addr b.Len < 0 ↔ pk a < pk b:=by
  unfold cmpV pk;split <;> omega
theorem Qnm {a b:Qw8} (h1:0≤a.Len∧a.Len≤16) (h2:0≤b.Len∧b.Len≤16):cmpV a.Addr a.Len b.Addr b.Len=0 ↔ pk a=pk b:=by
  unfold cmpV pk;split <;> omega
theorem Qwi {a b:Qw8} (h1:0≤a.Len∧a.Len≤16) (h2:0≤b.Len∧b.Len≤16):pk a=pk b ↔ a.Addr=b.Addr∧a.Len=b.Len:=by
  unfold pk;omega
def Qs3 (ks:List Qw7) (i:Nat):Bool:=inR (ks.getD i default).Id 1 9 && inR (ks.getD i default).Secret 1 2147483646 && (decide (i=0) || decide ((ks.getD (i - 1) default).Id < (ks.getD i default).Id))
def Qa5 (ks:List Qw7):Bool:=inR ks.length 1 3 && QmG ks.length (Qs3 ks)
theorem Qmj {ks:List Qw7} (h:ks.length≤1048576):Z1 ks=some (Qa5 ks):=by
  unfold Z1 Qa5;rw [JL,Qb]
  cases hc:inR ks.length 1 3
  · rfl
  · rw [if_neg (by decide),QgL ks.length (Qs3 ks) (.inl ()) (.inr ()) (fun i hi _=>?_) (fun _=>by rw [if_neg (by simp)]),Qb]
    · cases QmG ks.length (Qs3 ks) <;> rfl
    · rw [if_pos (by simp; omega),Qp (by omega),Int.toNat_natCast,JL,Qb,Qp (fun _=>by omega),JL,Zf,Qb];unfold Qs3
      by_cases h0:0 < i
      · rw [QeS hi h0 (by omega),Qp (fun _ _=>by omega),Qp (fun _ _=>by omega),Int.toNat_natCast,QK hi (by omega)];have e1:decide ((i:Int) > 0)=true:=by simp; omega
        have e2:decide (i=0)=false:=by simp; omega
        rw [e1,e2];generalize ks.getD (i - 1) default=u;generalize ks.getD i default=v
        cases inR v.Id 1 9
        · rfl
        · cases inR v.Secret 1 2147483646
          · rfl
          · by_cases c:u.Id < v.Id
            · rw [if_neg (by simp; omega),if_pos (by simp [c])]
            · rw [if_pos (by simp; omega),if_neg (by simp [c])]
      · have e0:i=0:=by omega
        subst e0;rw [Qp (fun q=>absurd q (by decide)),Qp (fun q=>absurd q (by decide)),QK hi (by omega)]
        cases inR (ks.getD 0 default).Id 1 9
        · rfl
        · cases inR (ks.getD 0 default).Secret 1 2147483646 <;> rfl
theorem Qmk {ks:List Qw7} (h:ks.length≤1048576):Z2 ks=some (Qa5 ks):=by
  unfold Z2 Qa5;rw [QgL ks.length (Qs3 ks) (.inl ()) (.inr ()) (fun i hi _=>?_) (fun _=>by rw [if_neg (by simp)]),Qb]
  · cases QmG ks.length (Qs3 ks)
    · rw [if_neg (by decide),Bool.and_false]
    · rw [if_pos rfl,Bool.and_true]; rfl
  · rw [if_pos (by simp; omega),Qp (by omega),Int.toNat_natCast,Z6,Qb,Z6,Zf,Qb];unfold Qs3
    by_cases h0:0 < i
    · rw [QeS hi h0 (by omega),Qp (fun _ _=>by omega),Int.toNat_natCast,QK hi (by omega)];have e1:decide ((i:Int) > 0)=true:=by simp; omega
      have e2:decide (i=0)=false:=by simp; omega
      rw [e1,e2];generalize ks.getD (i - 1) default=u;generalize ks.getD i default=v
      cases inR v.Id 1 9
      · rfl
      · cases inR v.Secret 1 2147483646
        · rfl
        · by_cases c:u.Id < v.Id
          · rw [if_neg (by simp; omega),if_pos (by simp [c])]
          · rw [if_pos (by simp; omega),if_neg (by simp [c])]
    · have e0:i=0:=by omega
      subst e0;rw [Qp (fun q=>absurd q (by decide)),QK hi (by omega)]
      cases inR (ks.getD 0 default).Id 1 9
      · rfl
      · cases inR (ks.getD 0 default).Secret 1 2147483646 <;> rfl
def QrX (t:List Qw8) (i:Nat):Bool:=entryOk (t.getD i default) && (decide (i=0) || lessE (t.getD (i - 1) default) (t.getD i default))
def JY (t:List Qw8):Bool:=decide (t.length≤8) && QmG t.length (QrX t)
theorem QhR (t:List Qw8):Zq t=some (JY t):=by
  unfold Zq JY
  by_cases hc:t.length≤8
  · rw [if_neg (by simp; omega),decide_eq_true hc,QgL t.length (QrX t) (.inl ()) (.inr ()) (fun i hi _=>?_) (fun _=>by rw [if_neg (by simp)]),Qb]
    · cases QmG t.length (QrX t) <;> rfl
    · rw [if_pos (by simp; omega),Qp (by omega),Int.toNat_natCast,Qmh,Qb];unfold QrX
      by_cases h0:0 < i
      · rw [QeS hi h0 (by omega),Qp (fun _ _=>by omega),Qp (fun _ _=>by omega),Int.toNat_natCast,Qip,Qdu,Qb,QK hi (by omega)];have e1:decide ((i:Int) > 0)=true:=by simp; omega
        have e2:decide (i=0)=false:=by simp; omega
        rw [e1,e2]
        cases entryOk (t.getD i default)
        · rfl
        · cases lessE (t.getD (i - 1) default) (t.getD i default) <;> rfl
      · have e0:i=0:=by omega
        subst e0;rw [Qp (fun q=>absurd q (by decide)),Qp (fun q=>absurd q (by decide)),gcall,if_neg (fun q=>absurd q.1 (by decide)),Qb,QK hi (by omega)]
        cases entryOk (t.getD 0 default) <;> rfl
  · rw [if_pos (by simp; omega),decide_eq_false hc]; rfl
theorem QhS {t:List Qw8} (h:t.length≤1048576):Zr t=some (JY t):=by
  unfold Zr JY;rw [QgL t.length (QrX t) (.inl ()) (.inr ()) (fun i hi hp=>?_) (fun _=>by rw [if_neg (by simp)]),Qb]
  · cases QmG t.length (QrX t)
    · rw [if_neg (by decide),Bool.and_false]
    · rw [if_pos rfl,Bool.and_true];show some _=some _
      congr 1
      exact decide_eq_decide.2 (by omega)
  · rw [if_pos (by simp; omega),Qp (by omega),Int.toNat_natCast,Qmi,Qb]
    by_cases h0:0 < i
    · have hq:=hp (i - 1) (by omega);unfold QrX at hq ⊢;simp only [Bool.and_eq_true] at hq;rw [QeS hi h0 (by omega),Qp (fun _ _=>by omega),Int.toNat_natCast,Qbo,Qbo,QK hi (by omega)];have e1:decide ((i:Int) > 0)=true:=by simp; omega
      have e2:decide (i=0)=false:=by simp; omega
      rw [e1,e2]
      cases he:entryOk (t.getD i default)
      · simp [gcall]
      · have ha:=Qat hq.1;have hb:=Qat he;have hl:=QhQ (a:=t.getD (i - 1) default) (b:=t.getD i default) (by omega) (by omega);have hc:=Qjf (a:=t.getD (i - 1) default) (b:=t.getD i default) (by omega) (by omega);rw [gcall,if_pos ⟨rfl,rfl⟩,Qb,gcall,if_pos ⟨rfl,rfl⟩,Qb,gcall,if_pos ⟨rfl,rfl⟩,QtG ha hb,Qb];generalize cmpV (t.getD (i - 1) default).Addr (t.getD (i - 1) default).Len (t.getD i default).Addr (t.getD i default).Len=z at *
        by_cases c:pk (t.getD (i - 1) default) < pk (t.getD i default)
        · rw [hl.2 c,if_neg (by have:=hc.2 c; simp; omega)]; rfl
        · rw [Bool.eq_false_iff.2 (fun q=>c (hl.1 q)),if_pos (by have:=fun q=>c (hc.1 q); simp; omega)]; rfl
    · have e0:i=0:=by omega
      subst e0;unfold QrX;rw [Qp (fun q=>absurd q (by decide)),gcall,if_neg (fun q=>absurd q.1 (by decide)),Qb,gcall,if_neg (fun q=>absurd q.1 (by decide)),Qb,gcall,if_neg (fun q=>absurd q.1 (by decide)),Qb,QK hi (by omega)]
      cases entryOk (t.getD 0 default) <;> rfl
def Qkf (e:Qw8):Bool:=(e.Addr == 0) && ((e.Len == 0) && ((e.Cost == 0) && (e.Label == 0)))
def QT (c:Qw9):Bool:=if c.Kind=0 ∨ c.Kind=3 then Qkf c.Entry else if c.Kind=1 then entryOk c.Entry else if c.Kind=2 then QdK c.Entry.Addr c.Entry.Len && (c.Entry.Cost == 0) && (c.Entry.Label == 0) else false
theorem Qlr {c:Qw9} {m1 m2:Option Bool} (h1:m1=some (entryOk c.Entry)) (h2:m2=some (QdK c.Entry.Addr c.Entry.Len && (c.Entry.Cost == 0) && (c.Entry.Label == 0))) :
    (bd (α:=Bool) ((if (c.Kind == 0)=true then some (c.Kind == 0) else some (c.Kind == 3))) fun x1=>(if x1=true then some ((c.Entry.Addr == 0) && ((c.Entry.Len == 0) && ((c.Entry.Cost == 0) && ((c.Entry.Label == 0) && true)))) else (if (c.Kind == 1)=true then m1 else (if (c.Kind == 2)=true then m2 else some false))))=some (QT c):=by
  unfold QT Qkf;rw [h1,h2,Bool.and_true];generalize entryOk c.Entry=x;generalize (QdK c.Entry.Addr c.Entry.Len && (c.Entry.Cost == 0) && (c.Entry.Label == 0))=y;generalize ((c.Entry.Addr == 0) && ((c.Entry.Len == 0) && ((c.Entry.Cost == 0) && (c.Entry.Label == 0))))=z;generalize c.Kind=k;simp only [beq_iff_eq]
  by_cases k0:k=0
  · subst k0; rfl
  · by_cases k3:k=3
    · subst k3; rfl
    · rw [if_neg k0,Qb,if_neg (by simpa using k3),if_neg (c:=k=0 ∨ k=3) (by omega)];split
      · rfl
      · split <;> rfl
theorem Qnn (c:Qw9):J0 c=some (QT c):=by
  unfold J0;exact Qlr (by rw [Qmh,Qb]) (by rw [QrV,Qb])
theorem Qno (c:Qw9):Jc c=some (QT c):=by
  unfold Jc;exact Qlr (by rw [Qmi,Qb]) (by rw [Qbo,Qb,QrW,Qb])
end Go.Proofs.YtjgjdobkahdgfaaGreat
