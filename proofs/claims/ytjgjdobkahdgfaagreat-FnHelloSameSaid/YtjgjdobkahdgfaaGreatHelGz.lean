/-
  Plain Lean: draws of the reference's: tables, keys, words, events, worlds.
-/
import Derived.Test.YtjgjdobkahdgfaaGreatKz5
import Derived.Test.YtjgjdobkahdgfaaGreatPoL41z
import Derived.Test.YtjgjdobkahdgfaaGreatHelEz
set_option linter.all false
namespace Go.Proofs.YtjgjdobkahdgfaaGreat
open Go Go.Ab
set_option maxHeartbeats 1000000
set_option maxRecDepth 100000
def Rd (n:Nat) (r:Qw6):Prop:=RdOk r (1000000 - (n:Int))
theorem Rd.mono {n m:Nat} {r:Qw6} (h:Rd n r) (k:m≤n):Rd m r:=⟨h.bytes,h.len,h.p0,by have:=h.p1; omega⟩
theorem Qcg {b:List Int} {p m:Int} {n:Nat} (h:Rd (n+1) ⟨b,p⟩) (hm:1≤m):Post (Qd ⟨b,p⟩ m) fun x=>(0≤x.1∧x.1 < m)∧Rd n ⟨b,x.2.p⟩:=by
  refine (Qst h (by omega) hm).mono fun x ⟨h1,h2⟩=>⟨h1,h2.bytes,h2.len,h2.p0,?_⟩;have:=h2.p1;dsimp only at this ⊢;omega
theorem Qmu {xs:List Int} {P:Int→Prop} (h:∀ x ∈ xs,P x) {i:Int} (h0:0≤i) (h1:i < (xs.length:Int)):P (xs.getD i.toNat default):=h _ (Zj (by omega))
theorem QoE {b:List Int} {p:Int} {n:Nat} (h:Rd (n+3) ⟨b,p⟩):Post (Qbe ⟨b,p⟩) fun x=>QdK x.1.Addr x.1.Len=true∧Rd n ⟨b,x.2.p⟩:=by
  unfold Qbe;refine .bd (Qcg (n:=n+2) h (by decide)) fun x1 ⟨q1,r1⟩=>.gd (by simp; omega) (.bd (Qcg (n:=n+1) r1 (by decide)) fun x3 ⟨q3,r3⟩=>.bd (Qcg (n:=n) r3 (by decide)) fun x4 ⟨q4,r4⟩=>.gd (by simp; omega) ?_);rw [wrap_i64 (n:=x3.1*256) (by omega) (by omega)];have hn:0≤([0,1,8,8,15,16]:List Int).getD x1.1.toNat default∧([0,1,8,8,15,16]:List Int).getD x1.1.toNat default≤16:=Qmu (P:=fun x=>0≤x∧x≤16) (by simp) q1.1 (by simp; omega);have ha:0≤([0,32768,2560,65535,x3.1*256]:List Int).getD x4.1.toNat default∧([0,32768,2560,65535,x3.1*256]:List Int).getD x4.1.toNat default≤65535:=Qmu (P:=fun x=>0≤x∧x≤65535) (fun x hx=>by simp at hx; omega) q4.1 (by simp; omega);generalize ([0,1,8,8,15,16]:List Int).getD x1.1.toNat default=l at *;generalize ([0,32768,2560,65535,x3.1*256]:List Int).getD x4.1.toNat default=a at *;have hs:=Qhc l;rw [Qnl hn.1 hn.2,Qb,Int.tmod_eq_emod_of_nonneg ha.1];have m1:=Int.emod_nonneg a (Int.ne_of_gt hs);have m2:a % Qby l≤a:=by
    have h1:=Int.mul_ediv_add_emod a (Qby l);have h2:=Int.mul_nonneg (Int.le_of_lt hs) (Int.ediv_nonneg ha.1 (Int.le_of_lt hs));omega
  have m3:(a - a % Qby l).tmod (Qby l)=0:=by
    have:a - a % Qby l=Qby l*(a / Qby l):=by
      have:=Int.mul_ediv_add_emod a (Qby l);omega
    rw [this];exact Int.mul_tmod_right _ _
  refine .gd (by omega) (.ret ⟨?_,r4⟩);dsimp only;rw [wrap_i64 (by omega) (by omega)];simp only [QdK,Bool.and_eq_true,Jv,beq_iff_eq];exact ⟨⟨hn,by omega⟩,m3⟩
theorem QlA {b:List Int} {p:Int} {n:Nat} (h:Rd (n+6) ⟨b,p⟩):Post (Qam ⟨b,p⟩) fun x=>entryOk x.1=true∧Rd n ⟨b,x.2.p⟩:=by
  unfold Qam;refine .bd (QoE (n:=n+3) h) fun x1 ⟨q1,r1⟩=>.bd (Qcg (n:=n+2) r1 (by decide)) fun x2 ⟨q2,r2⟩=>.gd (by simp; omega) (.bd (Qcg (n:=n+1) r2 (by decide)) fun x4 ⟨q4,r4⟩=>.bd (Qcg (n:=n) r4 (by decide)) fun x5 ⟨q5,r5⟩=>.gd (by simp; omega) (.ret ⟨?_,r5⟩));have hc:1≤([1,2,3,255]:List Int).getD x2.1.toNat default∧([1,2,3,255]:List Int).getD x2.1.toNat default≤255:=Qmu (P:=fun x=>1≤x∧x≤255) (by simp) q2.1 (by simp; omega);have hl:0≤([1,17,1000]:List Int).getD x5.1.toNat default∧([1,17,1000]:List Int).getD x5.1.toNat default≤1000:=Qmu (P:=fun x=>0≤x∧x≤1000) (by simp) q5.1 (by simp; omega);generalize ([1,2,3,255]:List Int).getD x2.1.toNat default=c at *;generalize ([1,17,1000]:List Int).getD x5.1.toNat default=l at *;have:x4.1=0 ∨ x4.1=1:=by omega
  simp only [entryOk,Bool.and_eq_true,Jv];refine ⟨⟨q1,hc⟩,?_⟩;rcases this with e | e <;> rw [e,wrap_i64 (by omega) (by omega)] <;> omega
def Qiz {α:Type} (f:α→Qw8) (t:List α) (a:Int):Nat:=(t.filter fun x=>decide (a≤(f x).Addr)).length
theorem Qsu {α:Type} {f:α→Qw8} (t:List α) (a:Int):Qiz f t a≤t.length:=List.length_filter_le _ _
theorem Qko {α:Type} {f:α→Qw8} (t:List α) (a:Int):Qiz f t (a+1)≤Qiz f t a:=by
  induction t with
  | nil=>exact Nat.le_refl _
  | cons x r ih =>
    unfold Qiz at *;rw [List.filter_cons,List.filter_cons]
    by_cases c:a+1≤(f x).Addr
    · rw [if_pos (by simpa using c),if_pos (by simp; omega)];simpa using ih
    · rw [if_neg (by simpa using c)];split
      · simp only [List.length_cons]; omega
      · exact ih
theorem QcB {α:Type} {f:α→Qw8} (s t:List α) (a:Int):Qiz f (s ++ t) a=Qiz f s a+Qiz f t a:=by
  unfold Qiz;rw [List.filter_append,List.length_append]
section
variable {α:Type} [Inhabited α] {f:α→Qw8}
theorem Qsv {t:List α} {e:Qw8} {x:α} (hx:(f x).Addr=e.Addr) {N:Nat} (hN:t.length < N) :
    let t':=if Qbd f t e=true then t.set (posK f t e) x else t.take (posK f t e) ++ [x] ++ t.drop (posK f t e)
    (N - t'.length)+Qiz f t' (e.Addr+1) < (N - t.length)+Qiz f t e.Addr∧t'.length≤t.length+1:=by
  have w3:=Qbz (f:=f) t e;have one:Qiz f [x] (e.Addr+1)=0:=by
    unfold Qiz;rw [List.filter_cons,if_neg (by rw [hx]; simp; omega)]
    rfl
  dsimp only
  cases hh:Qbd f t e
  · simp only [Bool.false_eq_true,if_false];have m:=Qko (f:=f) t e.Addr;have e1:Qiz f t (e.Addr+1)=Qiz f (t.take (posK f t e)) (e.Addr+1)+Qiz f (t.drop (posK f t e)) (e.Addr+1):=by
      rw [← QcB,List.take_append_drop]
    have e2:(t.take (posK f t e) ++ [x] ++ t.drop (posK f t e)).length=t.length+1:=by simp; omega
    rw [QcB,QcB,one,e2];omega
  · obtain ⟨q1,q2,q3⟩:=J5.1 hh;simp only [if_true];have g:t.getD (posK f t e) default=t[posK f t e]:=by rw [List.getD_eq_getElem?_getD,List.getElem?_eq_getElem q1]; rfl
    have s1:t.set (posK f t e) x=t.take (posK f t e) ++ ([x] ++ t.drop (posK f t e+1)):=by
      rw [List.set_eq_take_append_cons_drop,if_pos q1]; rfl
    have s2:t=t.take (posK f t e) ++ ([t[posK f t e]] ++ t.drop (posK f t e+1)):=by
      have:=List.take_append_drop (posK f t e) t;rw [List.drop_eq_getElem_cons q1] at this;exact this.symm
    have c1:Qiz f [t[posK f t e]] e.Addr=1:=by
      unfold Qiz;rw [g] at q2;rw [List.filter_cons,if_pos (by simp; omega)]
      rfl
    have e1:Qiz f (t.set (posK f t e) x) (e.Addr+1)=Qiz f (t.take (posK f t e)) (e.Addr+1)+(0+Qiz f (t.drop (posK f t e+1)) (e.Addr+1)):=by
      rw [s1,QcB,QcB,one]
    have e2:Qiz f t e.Addr=Qiz f (t.take (posK f t e)) e.Addr+(1+Qiz f (t.drop (posK f t e+1)) e.Addr):=by
      conv=>lhs; rw [s2]
      rw [QcB,QcB,c1]
    have m1:=Qko (f:=f) (t.take (posK f t e)) e.Addr;have m2:=Qko (f:=f) (t.drop (posK f t e+1)) e.Addr;rw [e1,e2,List.length_set];omega
end
theorem Qvs {n:Nat} (d:¬ decide (((n:Nat):Int) < 8)=true):¬ n < 8:=by
  simp at d; omega
theorem QiA {b:List Int} {p:Int} {n:Nat} (h:Rd (n+60) ⟨b,p⟩):Post (Qan ⟨b,p⟩) fun x=>To x.1∧Rd n ⟨b,x.2.p⟩:=by
  unfold Qan;refine .bd (Qcg (n:=n+59) h (by decide)) fun x1 ⟨q1,r1⟩=>.bd (Q:=fun x=>To x.2.1∧Rd (n+20) ⟨b,x.2.2⟩) (.lp (fun s=>To s.1∧(0≤s.2.2∧(s.1.length:Int)+s.2.2≤4)∧Rd (n+20+6*s.2.2.toNat) ⟨b,s.2.1⟩) (fun s=>s.2.2.toNat) ⟨Qki,by simp; omega,r1.mono (by dsimp only; omega)⟩ fun s ⟨s1,s2,s3⟩=>.ite (fun c=>?_) fun c=>.ret ⟨s1,s3.mono (by omega)⟩) fun x5 ⟨t5,r5⟩=>?_
  · have c:s.2.2 > 0:=by simpa using c
    refine .bd (QlA (n:=n+20+6*(s.2.2 - 1).toNat) (s3.mono (by omega))) fun x6 ⟨q6,r6⟩=>?_;rw [Qok (by omega),Qb];have hl:(QnO s.1 x6.1).length≤s.1.length+1:=by
      have w3:=Qbz (f:=idE) s.1 x6.1;unfold QnO;split
      · simp
      · simp; omega
    rw [wrap_i64 (n:=s.2.2 - 1) (by omega) (by omega)];exact .ret ⟨⟨Qsn s1 q6 fun _=>by omega,⟨by dsimp only; omega,by dsimp only; omega⟩,r6⟩,by dsimp only; omega⟩
  · refine .bd (Q:=fun x=>To x.2.1∧Rd n ⟨b,x.2.2⟩) (.lp (fun s=>To s.1∧Rd (if s.1.length < 8 then n+20 else n+1) ⟨b,s.2⟩) (fun s=>if s.1.length < 8 then 1 else 0) ⟨t5,r5.mono (by dsimp only; split <;> omega)⟩ fun s ⟨s1,s2⟩=>?_) fun x hx=>.ret hx;have s2':Rd ((if s.1.length < 8 then n+19 else n)+1) ⟨b,s.2⟩:=by
      split at s2 <;> rename_i c
      · rw [if_pos c]; exact s2
      · rw [if_neg c]; exact s2
    refine .bd (Qcg s2' (by decide)) fun x13 ⟨q13,r13⟩=>.ite (fun c=>?_) fun c=>.ret ⟨s1,r13.mono (by split <;> omega)⟩;simp only [Bool.and_eq_true,decide_eq_true_eq] at c;have c:s.1.length < 8:=by omega
    rw [if_pos c] at r13;refine .bd (Q:=fun x=>To x.2.1∧¬ x.2.1.length < 8∧Rd (n+1) ⟨b,x.2.2⟩) (.lp (fun z=>To z.1∧(0≤z.2.2∧z.2.2+((8 - z.1.length+Qiz idE z.1 (16384+z.2.2):Nat):Int)≤16)∧Rd (n+1+(8 - z.1.length+Qiz idE z.1 (16384+z.2.2))) ⟨b,z.2.1⟩) (fun z=>8 - z.1.length+Qiz idE z.1 (16384+z.2.2)) ⟨s1,?_,?_⟩ fun z ⟨z1,z2,z3⟩=>.ite (fun d=>?_) fun d=>.ret ⟨z1,Qvs d,z3.mono (by omega)⟩) fun x17 ⟨u1,u2,u3⟩=>.ret ⟨⟨u1,by rw [if_neg u2]; exact u3⟩,?_⟩
    · have:=Qsu (f:=idE) s.1 (16384+0);dsimp only;omega
    · have:=Qsu (f:=idE) s.1 (16384+0);exact r13.mono (by dsimp only; omega)
    · have d:z.1.length < 8:=by
        have:((z.1.length:Nat):Int) < 8:=by simpa using d
        omega
      refine .bd (Qcg (n:=n+(8 - z.1.length+Qiz idE z.1 (16384+z.2.2))) (z3.mono (by omega)) (by decide)) fun x18 ⟨q18,r18⟩=>?_;rw [Qok (by omega),Qb,wrap_i64 (n:=16384+z.2.2) (by omega) (by omega),wrap_i64 (n:=1+x18.1) (by omega) (by omega),wrap_i64 (n:=z.2.2+1) (by omega) (by omega)];obtain ⟨f1,f2⟩:=Qsv (f:=idE) (t:=z.1) (e:=⟨16384+z.2.2,16,1+x18.1,0⟩) (x:=⟨16384+z.2.2,16,1+x18.1,0⟩) rfl d;have he:entryOk ⟨16384+z.2.2,16,1+x18.1,0⟩=true:=by
        simp only [entryOk,QdK,Bool.and_eq_true,Jv,beq_iff_eq];have:Qby 16=1:=rfl;rw [this,Int.tmod_one];omega
      have pe:(if Qbd idE z.1 ⟨16384+z.2.2,16,1+x18.1,0⟩=true then z.1.set (posK idE z.1 ⟨16384+z.2.2,16,1+x18.1,0⟩) ⟨16384+z.2.2,16,1+x18.1,0⟩ else z.1.take (posK idE z.1 ⟨16384+z.2.2,16,1+x18.1,0⟩) ++ [⟨16384+z.2.2,16,1+x18.1,0⟩] ++ z.1.drop (posK idE z.1 ⟨16384+z.2.2,16,1+x18.1,0⟩))=QnO z.1 ⟨16384+z.2.2,16,1+x18.1,0⟩:=rfl;rw [pe] at f1 f2;have ae:(16384+(z.2.2+1):Int)=(16384+z.2.2)+1:=by omega
      dsimp only at f1;refine .ret ⟨⟨Qsn z1 he fun _=>by omega,⟨by dsimp only; omega,?_⟩,?_⟩,?_⟩
      · dsimp only; rw [ae]; omega
      · dsimp only; rw [ae]; exact r18.mono (by omega)
      · dsimp only; rw [ae]; omega
    · rw [if_neg u2,if_pos c]; decide
theorem Qnv {b:List Int} {p:Int} {n:Nat} (h:Rd (n+1) ⟨b,p⟩):Post (Qbq ⟨b,p⟩) fun x=>(Qa5 x.1=true∧x.1.length≤3)∧Rd n ⟨b,x.2.p⟩:=by
  unfold Qbq;refine .bd (Qcg h (by decide)) fun x1 ⟨q1,r1⟩=>.ite (fun _=>.gd (by simp) (.ret ⟨⟨by rfl,by simp [QU]⟩,r1⟩)) fun _=>.ite (fun _=>.gd (by simp) (.ret ⟨⟨by rfl,by simp [QU]⟩,r1⟩)) fun _=>.ite (fun _=>.ret ⟨⟨by rfl,by simp [QU]⟩,r1⟩) fun _=>.gd (by simp) (.ret ⟨⟨by rfl,by simp [QU]⟩,r1⟩)
end Go.Proofs.YtjgjdobkahdgfaaGreat
