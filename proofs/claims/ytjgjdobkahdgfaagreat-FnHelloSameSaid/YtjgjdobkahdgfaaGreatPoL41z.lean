/-
  Plain Lean: the reader of the draws gives numbers below what is asked.
-/
import Derived.Test.YtjgjdobkahdgfaaGreatKz5
import Derived.Test.YtjgjdobkahdgfaaGreatHelEz
import Derived.Test.YtjgjdobkahdgfaaGreatPoBz
set_option linter.all false
namespace Go.Proofs.YtjgjdobkahdgfaaGreat
open Go Go.Ab
set_option maxHeartbeats 400000
structure RdOk (r:Qw6) (k:Int):Prop where
  bytes:∀ x ∈ r.b,Ql4 x
  len:r.b.length≤2000
  p0:0≤r.p
  p1:r.p≤k
theorem Qss {b:List Int} (hb:b.length≤9223372036854775807) (h:∀ x ∈ b,Ql4 x):Post (Qbp b) fun r=>RdOk r 0:=by
  unfold Qbp;refine .ite (fun h1=>.gd ?_ (.ret ⟨fun x hx=>h x (List.mem_of_mem_take hx),?_,Int.le_refl _,Int.le_refl _⟩)) fun h1=>.ret ⟨h,?_,Int.le_refl _,Int.le_refl _⟩
  · simp at h1; omega
  · simp; omega
  · show b.length≤2000;simp at h1; omega
theorem Qst {r:Qw6} {n k:Int} (h:RdOk r k) (hk:k≤1099511627776) (hn:1≤n):Post (Qd r n) fun x=>(0≤x.1∧x.1 < n)∧RdOk ⟨r.b,x.2.p⟩ (k+1):=by
  obtain ⟨h1,h2,h3,h4⟩:=h;unfold Qd;have e1:IntKind.i64.wrap (r.p+1)=r.p+1:=wrap_i64 (by omega) (by omega);have e2:IntKind.i64.wrap (r.p+1 - 1)=r.p:=(wrap_i64 (n:=r.p+1 - 1) (by omega) (by omega)).trans (by omega);have e3:IntKind.i64.wrap (r.p*7)=r.p*7:=wrap_i64 (by omega) (by omega);have e4:IntKind.i64.wrap (r.p*7+3)=r.p*7+3:=wrap_i64 (by omega) (by omega);have e5:IntKind.i64.wrap (r.p*29)=r.p*29:=wrap_i64 (by omega) (by omega);rw [e1,e2,e3,e4,e5];have ok:RdOk ⟨r.b,r.p+1⟩ (k+1):=⟨h1,h2,by dsimp only; omega,by dsimp only; omega⟩;have byte:∀ i:Nat,0≤r.b.getD i default∧r.b.getD i default≤255:=fun i=>QtF h1 ⟨Int.le_refl _,by decide⟩ i;have wb:∀ i:Nat,IntKind.i64.wrap (r.b.getD i default)=r.b.getD i default:=fun i=>by have:=byte i; exact wrap_i64 (by omega) (by omega)
  have md:∀ x:Int,0≤x→0≤x.tmod n∧x.tmod n < n:=fun x hx=>⟨Int.tmod_nonneg _ hx,Int.tmod_lt_of_pos _ (by omega)⟩;refine .ite (fun _=>.ret ⟨⟨Int.le_refl _,by dsimp only; omega⟩,ok⟩) fun c1=>.ite (fun c2=>.gd ⟨h3,by simpa using c2⟩ (.gd (by omega) (.ret ⟨?_,ok⟩))) fun c2=>?_
  · rw [wb]; exact md _ (byte _).1
  · have hl:(0:Int) < (r.b.length:Nat):=by
      have:r.b.length ≠ 0:=fun e=>c1 (by rw [e]; simp);omega
    have m1:0≤r.p.tmod (r.b.length:Nat)∧r.p.tmod (r.b.length:Nat) < (r.b.length:Nat):=⟨Int.tmod_nonneg _ h3,Int.tmod_lt_of_pos _ hl⟩;have m2:0≤(r.p*7+3).tmod (r.b.length:Nat)∧(r.p*7+3).tmod (r.b.length:Nat) < (r.b.length:Nat):=⟨Int.tmod_nonneg _ (by omega),Int.tmod_lt_of_pos _ hl⟩;refine .gd (by omega) (.gd m1 (.gd (by omega) (.gd m2 (.gd (by omega) (.gd (by decide) (.gd (by omega) (.ret ⟨?_,ok⟩)))))));have b1:=byte (r.p.tmod (r.b.length:Nat)).toNat
    have b2:=byte ((r.p*7+3).tmod (r.b.length:Nat)).toNat
    have d1:0≤r.p.tdiv (r.b.length:Nat)∧r.p.tdiv (r.b.length:Nat)≤r.p:=by
      refine ⟨Int.tdiv_nonneg h3 (by omega),?_⟩;rw [Int.tdiv_eq_ediv_of_nonneg h3];exact Int.ediv_le_self _ h3
    rw [wb,wb];generalize r.b.getD (r.p.tmod (r.b.length:Nat)).toNat default=B1 at *;generalize r.b.getD ((r.p*7+3).tmod (r.b.length:Nat)).toNat default=B2 at *;generalize r.p.tdiv (r.b.length:Nat)=D1 at *;simp (disch:=omega) only [wrap_i64];have hX:0≤B1*131+B2*1117+r.p*29+D1*53∧B1*131+B2*1117+r.p*29+D1*53≤4611686018427387904:=by omega
    generalize B1*131+B2*1117+r.p*29+D1*53=X at *;have d2:0≤X.tdiv 64∧X.tdiv 64≤4611686018427387904:=by
      rw [Int.tdiv_eq_ediv_of_nonneg hX.1];omega
    rw [wrap_i64 (n:=X.tdiv 64) (by omega) (by omega)];exact md _ (QqO hX d2)
end Go.Proofs.YtjgjdobkahdgfaaGreat
