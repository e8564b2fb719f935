/-
  Plain Lean: keys, entries, tables and changes: what is ok of them, impl's and the reference's alike.
-/
import Derived.Test.YtjgjdobkahdgfaaGreatKz5
import Derived.Test.YtjgjdobkahdgfaaGreatPoBz
set_option linter.all false
namespace Go.Proofs.YtjgjdobkahdgfaaGreat
open Go Go.Ab
set_option maxHeartbeats 400000
set_option maxRecDepth 100000
def Qbn (len:Int):Int:=2 ^ (16 - len).toNat
theorem QgS (len:Int):0 < Qbn len:=by unfold Qbn; exact Int.pow_pos (by omega)
theorem Qp0 {len:Int} (h:0≤len):Qbn len≤65536:=by
  unfold Qbn;have:=Qt4 (a:=(16 - len).toNat) (b:=16) (by omega);simpa using this
def inR (a lo hi:Int):Bool:=decide (lo≤a) && decide (a≤hi)
@[simp] theorem Jy {a lo hi:Int}:inR a lo hi=true ↔ lo≤a∧a≤hi:=by simp [inR]
@[simp] theorem Z1 (a lo hi:Int):Qu a lo hi=some (inR a lo hi):=rfl
@[simp] theorem JF (a lo hi:Int):QB a lo hi=some (inR a lo hi):=by simp [QB,inR]
def Qdu (a l:Int):Bool:=inR l 0 16 && inR a 0 65535 && (a.tmod (Qbn l) == 0)
theorem Qim {a l:Int} (h:Qdu a l=true):0≤l∧l≤16∧0≤a∧a≤65535:=by
  simp only [Qdu,Bool.and_eq_true,Jy] at h;omega
theorem QmM {n:Int} (h0:0≤n) (h1:n≤16):Qb1 n=some (Qbn n):=by
  obtain ⟨k,rfl⟩:∃ k:Nat,n=k:=⟨n.toNat,by omega⟩;have:k=0 ∨ k=1 ∨ k=2 ∨ k=3 ∨ k=4 ∨ k=5 ∨ k=6 ∨ k=7 ∨ k=8 ∨ k=9 ∨ k=10 ∨ k=11 ∨ k=12 ∨ k=13 ∨ k=14 ∨ k=15 ∨ k=16:=by omega
  rcases this with rfl | rfl | rfl | rfl | rfl | rfl | rfl | rfl | rfl | rfl | rfl | rfl | rfl | rfl | rfl | rfl | rfl <;> exact (Qt5 (Qjx.2 ⟨18,rfl⟩)).trans rfl
theorem Qvs {p:Qwo} (h0:0≤p.Len) (h1:p.Len≤16):JA p=some (Qbn p.Len):=by
  have e:IntKind.i64.wrap (16 - p.Len)=16 - p.Len:=wrap_i64 (by omega) (by omega);have hb:IntKind.bits .i64=64:=rfl;unfold JA;rw [e,Qn (by omega),hb,Nat.min_eq_left (by omega),Int.one_mul];have h:=Qp0 h0;have hp:=QgS p.Len;unfold Qbn at *;rw [wrap_i64 (by omega) (by omega)]
theorem QoI {a l:Int} {m:Option Int} (hm:inR l 0 16=true→m=some (Qbn l)) :
    (bd (gcall (inR l 0 16=true) (some (inR a 0 65535))) fun x2=>bd (gcall ((inR l 0 16 && x2)=true) m) fun x3=>gd ((inR l 0 16 && x2)=true→((x3:Int) ≠ 0)) <| some ((inR l 0 16 && x2) && ((a.tmod x3) == 0)))=some (Qdu a l):=by
  have hp:=QgS l;unfold Qdu
  cases h1:inR l 0 16
  · simp [gcall,gd]
  · rw [hm h1]
    cases h2:inR a 0 65535
    · simp [gcall,gd]
    · simp only [gcall,Bool.true_and,if_true,Qb];rw [Qn (fun _=>by omega)]
theorem Qq4 (e:Qwg):Qao e=some (Qdu e.Addr e.Len):=by
  unfold Qao;simp only [JF,Qb];exact QoI fun h=>QmM (Jy.1 h).1 (Jy.1 h).2
theorem Qq5 (p:Qwo):Qck p=some (Qdu p.Addr p.Len):=by
  unfold Qck;simp only [Z1,Qb];exact QoI fun h=>Qvs (Jy.1 h).1 (Jy.1 h).2
def entryOk (e:Qwg):Bool:=Qdu e.Addr e.Len && inR e.Cost 1 255 && inR e.Label 0 1000
theorem Qai {e:Qwg} (h:entryOk e=true):0≤e.Len∧e.Len≤16∧0≤e.Addr∧e.Addr≤65535:=by
  simp only [entryOk,Bool.and_eq_true] at h;exact Qim h.1.1
@[simp] theorem Qbb (e:Qwg):Qr e=some ⟨e.Addr,e.Len⟩:=rfl
theorem QlP (e:Qwg):Z5 e=some (entryOk e):=by
  unfold Z5 entryOk;simp only [Qq4,JF,Qb,QfN]
  cases Qdu e.Addr e.Len <;> simp
theorem QlQ (e:Qwg):ZT e=some (entryOk e):=by
  unfold ZT entryOk;simp only [Qbb,Qq5,Z1,Qb,QfN]
  cases Qdu e.Addr e.Len <;> simp
def lessE (a b:Qwg):Bool:=decide (a.Addr < b.Addr) || (a.Addr == b.Addr && decide (a.Len < b.Len))
def pk (e:Qwg):Int:=e.Addr*32+e.Len
def cmpV (a l b k:Int):Int:=if a=b then l - k else a - b
@[simp] theorem Qh0 (a b:Qwg):ZK a b=some (lessE a b):=rfl
theorem Qht {a b:Qwg} (ha:0≤a.Len∧a.Len≤16) (hb:0≤b.Len∧b.Len≤16):lessE a b=true ↔ pk a < pk b:=by
  simp only [lessE,pk,Bool.or_eq_true,Bool.and_eq_true,decide_eq_true_eq,beq_iff_eq];omega
theorem QsN {a l b k:Int} (h1:0≤l∧l≤16∧0≤a∧a≤65535) (h2:0≤k∧k≤16∧0≤b∧b≤65535):Zy ⟨a,l⟩ ⟨b,k⟩=some (cmpV a l b k):=by
  unfold Zy cmpV;dsimp only
  by_cases h:a=b
  · rw [if_neg (by simp [h]),if_pos h,wrap_i64 (by omega) (by omega)]
  · rw [if_pos (by simp [h]),if_neg h,wrap_i64 (by omega) (by omega)]
theorem QiO {a b:Qwg} (h1:0≤a.Len∧a.Len≤16) (h2:0≤b.Len∧b.Len≤16):cmpV a.Addr a.Len b.Addr b.Len < 0 ↔ pk a < pk b:=by
  unfold cmpV pk;split <;> omega
theorem QmN {a b:Qwg} (h1:0≤a.Len∧a.Len≤16) (h2:0≤b.Len∧b.Len≤16):cmpV a.Addr a.Len b.Addr b.Len=0 ↔ pk a=pk b:=by
  unfold cmpV pk;split <;> omega
theorem Qvt {a b:Qwg} (h1:0≤a.Len∧a.Len≤16) (h2:0≤b.Len∧b.Len≤16):pk a=pk b ↔ a.Addr=b.Addr∧a.Len=b.Len:=by
  unfold pk;omega
def Qr9 (ks:List Qwf) (i:Nat):Bool:=inR (ks.getD i default).Id 1 9 && inR (ks.getD i default).Secret 1 2147483646 && (decide (i=0) || decide ((ks.getD (i - 1) default).Id < (ks.getD i default).Id))
def Qbc (ks:List Qwf):Bool:=inR ks.length 1 3 && Ql5 ks.length (Qr9 ks)
theorem QnE {ks:List Qwf} (h:ks.length≤1048576):Jh ks=some (Qbc ks):=by
  unfold Jh Qbc;rw [JF,Qb]
  cases hc:inR ks.length 1 3
  · rfl
  · rw [if_neg (by decide),QdZ ks.length (Qr9 ks) (.inl ()) (.inr ()) (fun i hi _=>?_) (fun _=>by rw [if_neg (by simp)]),Qb]
    · cases Ql5 ks.length (Qr9 ks) <;> rfl
    · rw [if_pos (by simp; omega),Qn (by omega),Int.toNat_natCast,JF,Qb,Qn (fun _=>by omega),JF,Zf,Qb];unfold Qr9
      by_cases h0:0 < i
      · rw [QeC hi h0 (by omega),Qn (fun _ _=>by omega),Qn (fun _ _=>by omega),Int.toNat_natCast,QD hi (by omega)];have e1:decide ((i:Int) > 0)=true:=by simp; omega
        have e2:decide (i=0)=false:=by simp; omega
        rw [e1,e2];generalize ks.getD (i - 1) default=u;generalize ks.getD i default=v
        cases inR v.Id 1 9
        · rfl
        · cases inR v.Secret 1 2147483646
          · rfl
          · by_cases c:u.Id < v.Id
            · rw [if_neg (by simp; omega),if_pos (by simp [c])]
            · rw [if_pos (by simp; omega),if_neg (by simp [c])]
      · have e0:i=0:=by omega
        subst e0;rw [Qn (fun q=>absurd q (by decide)),Qn (fun q=>absurd q (by decide)),QD hi (by omega)]
        cases inR (ks.getD 0 default).Id 1 9
        · rfl
        · cases inR (ks.getD 0 default).Secret 1 2147483646 <;> rfl
theorem QlR {ks:List Qwf} (h:ks.length≤1048576):ZZ ks=some (Qbc ks):=by
  unfold ZZ Qbc;rw [QdZ ks.length (Qr9 ks) (.inl ()) (.inr ()) (fun i hi _=>?_) (fun _=>by rw [if_neg (by simp)]),Qb]
  · cases Ql5 ks.length (Qr9 ks)
    · rw [if_neg (by decide),Bool.and_false]
    · rw [if_pos rfl,Bool.and_true]; rfl
  · rw [if_pos (by simp; omega),Qn (by omega),Int.toNat_natCast,Z1,Qb,Z1,Zf,Qb];unfold Qr9
    by_cases h0:0 < i
    · rw [QeC hi h0 (by omega),Qn (fun _ _=>by omega),Int.toNat_natCast,QD hi (by omega)];have e1:decide ((i:Int) > 0)=true:=by simp; omega
      have e2:decide (i=0)=false:=by simp; omega
      rw [e1,e2];generalize ks.getD (i - 1) default=u;generalize ks.getD i default=v
      cases inR v.Id 1 9
      · rfl
      · cases inR v.Secret 1 2147483646
        · rfl
        · by_cases c:u.Id < v.Id
          · rw [if_neg (by simp; omega),if_pos (by simp [c])]
          · rw [if_pos (by simp; omega),if_neg (by simp [c])]
    · have e0:i=0:=by omega
      subst e0;rw [Qn (fun q=>absurd q (by decide)),QD hi (by omega)]
      cases inR (ks.getD 0 default).Id 1 9
      · rfl
      · cases inR (ks.getD 0 default).Secret 1 2147483646 <;> rfl
def Qq6 (t:List Qwg) (i:Nat):Bool:=entryOk (t.getD i default) && (decide (i=0) || lessE (t.getD (i - 1) default) (t.getD i default))
def JG (t:List Qwg):Bool:=decide (t.length≤8) && Ql5 t.length (Qq6 t)
theorem QiP (t:List Qwg):ZG t=some (JG t):=by
  unfold ZG JG
  by_cases hc:t.length≤8
  · rw [if_neg (by simp; omega),decide_eq_true hc,QdZ t.length (Qq6 t) (.inl ()) (.inr ()) (fun i hi _=>?_) (fun _=>by rw [if_neg (by simp)]),Qb]
    · cases Ql5 t.length (Qq6 t) <;> rfl
    · rw [if_pos (by simp; omega),Qn (by omega),Int.toNat_natCast,QlP,Qb];unfold Qq6
      by_cases h0:0 < i
      · rw [QeC hi h0 (by omega),Qn (fun _ _=>by omega),Qn (fun _ _=>by omega),Int.toNat_natCast,Qh0,JE,Qb,QD hi (by omega)];have e1:decide ((i:Int) > 0)=true:=by simp; omega
        have e2:decide (i=0)=false:=by simp; omega
        rw [e1,e2]
        cases entryOk (t.getD i default)
        · rfl
        · cases lessE (t.getD (i - 1) default) (t.getD i default) <;> rfl
      · have e0:i=0:=by omega
        subst e0;rw [Qn (fun q=>absurd q (by decide)),Qn (fun q=>absurd q (by decide)),gcall,if_neg (fun q=>absurd q.1 (by decide)),Qb,QD hi (by omega)]
        cases entryOk (t.getD 0 default) <;> rfl
  · rw [if_pos (by simp; omega),decide_eq_false hc]; rfl
theorem Qhu {t:List Qwg} (h:t.length≤1048576):Zr t=some (JG t):=by
  unfold Zr JG;rw [QdZ t.length (Qq6 t) (.inl ()) (.inr ()) (fun i hi hp=>?_) (fun _=>by rw [if_neg (by simp)]),Qb]
  · cases Ql5 t.length (Qq6 t)
    · rw [if_neg (by decide),Bool.and_false]
    · rw [if_pos rfl,Bool.and_true];show some _=some _
      congr 1
      exact decide_eq_decide.2 (by omega)
  · rw [if_pos (by simp; omega),Qn (by omega),Int.toNat_natCast,QlQ,Qb]
    by_cases h0:0 < i
    · have hq:=hp (i - 1) (by omega);unfold Qq6 at hq ⊢;simp only [Bool.and_eq_true] at hq;rw [QeC hi h0 (by omega),Qn (fun _ _=>by omega),Int.toNat_natCast,Qbb,Qbb,QD hi (by omega)];have e1:decide ((i:Int) > 0)=true:=by simp; omega
      have e2:decide (i=0)=false:=by simp; omega
      rw [e1,e2]
      cases he:entryOk (t.getD i default)
      · simp [gcall]
      · have ha:=Qai hq.1;have hb:=Qai he;have hl:=Qht (a:=t.getD (i - 1) default) (b:=t.getD i default) (by omega) (by omega);have hc:=QiO (a:=t.getD (i - 1) default) (b:=t.getD i default) (by omega) (by omega);rw [gcall,if_pos ⟨rfl,rfl⟩,Qb,gcall,if_pos ⟨rfl,rfl⟩,Qb,gcall,if_pos ⟨rfl,rfl⟩,QsN ha hb,Qb];generalize cmpV (t.getD (i - 1) default).Addr (t.getD (i - 1) default).Len (t.getD i default).Addr (t.getD i default).Len=z at *
        by_cases c:pk (t.getD (i - 1) default) < pk (t.getD i default)
        · rw [hl.2 c,if_neg (by have:=hc.2 c; simp; omega)]; rfl
        · rw [Bool.eq_false_iff.2 (fun q=>c (hl.1 q)),if_pos (by have:=fun q=>c (hc.1 q); simp; omega)]; rfl
    · have e0:i=0:=by omega
      subst e0;unfold Qq6;rw [Qn (fun q=>absurd q (by decide)),gcall,if_neg (fun q=>absurd q.1 (by decide)),Qb,gcall,if_neg (fun q=>absurd q.1 (by decide)),Qb,gcall,if_neg (fun q=>absurd q.1 (by decide)),Qb,QD hi (by omega)]
      cases entryOk (t.getD 0 default) <;> rfl
def QjO (e:Qwg):Bool:=(e.Addr == 0) && ((e.Len == 0) && ((e.Cost == 0) && (e.Label == 0)))
def QU (c:Qwh):Bool:=if c.Kind=0 ∨ c.Kind=3 then QjO c.Entry else if c.Kind=1 then entryOk c.Entry else if c.Kind=2 then Qdu c.Entry.Addr c.Entry.Len && (c.Entry.Cost == 0) && (c.Entry.Label == 0) else false
theorem Qk1 {c:Qwh} {m1 m2:Option Bool} (h1:m1=some (entryOk c.Entry)) (h2:m2=some (Qdu c.Entry.Addr c.Entry.Len && (c.Entry.Cost == 0) && (c.Entry.Label == 0))) :
    (bd (α:=Bool) ((if (c.Kind == 0)=true then some (c.Kind == 0) else some (c.Kind == 3))) fun x1=>(if x1=true then some ((c.Entry.Addr == 0) && ((c.Entry.Len == 0) && ((c.Entry.Cost == 0) && ((c.Entry.Label == 0) && true)))) else (if (c.Kind == 1)=true then m1 else (if (c.Kind == 2)=true then m2 else some false))))=some (QU c):=by
  unfold QU QjO;rw [h1,h2,Bool.and_true];generalize entryOk c.Entry=x;generalize (Qdu c.Entry.Addr c.Entry.Len && (c.Entry.Cost == 0) && (c.Entry.Label == 0))=y;generalize ((c.Entry.Addr == 0) && ((c.Entry.Len == 0) && ((c.Entry.Cost == 0) && (c.Entry.Label == 0))))=z;generalize c.Kind=k;simp only [beq_iff_eq]
  by_cases k0:k=0
  · subst k0; rfl
  · by_cases k3:k=3
    · subst k3; rfl
    · rw [if_neg k0,Qb,if_neg (by simpa using k3),if_neg (c:=k=0 ∨ k=3) (by omega)];split
      · rfl
      · split <;> rfl
theorem QmO (c:Qwh):JK c=some (QU c):=by
  unfold JK;exact Qk1 (by rw [QlP,Qb]) (by rw [Qq4,Qb])
theorem QmP (c:Qwh):Z6 c=some (QU c):=by
  unfold Z6;exact Qk1 (by rw [QlQ,Qb]) (by rw [Qbb,Qb,Qq5,Qb])
end Go.Proofs.YtjgjdobkahdgfaaGreat
