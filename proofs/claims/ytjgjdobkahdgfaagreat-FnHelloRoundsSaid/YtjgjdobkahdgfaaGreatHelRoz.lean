/-
  Plain Lean: drawn worlds; calm rounds add up; the row FnHelloRounds.
-/
import Derived.Test.YtjgjdobkahdgfaaGreatKz6
import Derived.Test.YtjgjdobkahdgfaaGreatHelRbz
import Derived.Test.YtjgjdobkahdgfaaGreatHelJz
set_option linter.all false
namespace Go.Proofs.YtjgjdobkahdgfaaGreat
open Go Go.Ab
set_option maxHeartbeats 400000
set_option maxRecDepth 100000
theorem Qqs {b:List Int} {p:Int} {n:Nat} (h:Rd (n+50) ⟨b,p⟩) {w:Qv8} (hw:Gw w):Post (QbG ⟨b,p⟩ w) fun x=>Wz x.1∧Rd n ⟨b,x.2.p⟩:=by
  have z:=Qvs hw;have zc:w.Radio.length≤12:=hw.len;have e:=Qiw hw;obtain ⟨⟨s,t,hs,tw⟩,_,_⟩:=hw;unfold QbG;rw [e,Qb];have hS:(w.Sides.length:Int)=2:=by rw [hs]; rfl
  have dL:∀ k:Int,Lens (w.Sides.getD k.toNat default).End 40:=fun k=>by
    by_cases c:k.toNat < w.Sides.length
    · exact z.ends _ (ZG c)
    · rw [List.getD_eq_getElem?_getD,List.getElem?_eq_none (by omega)];exact ⟨Nat.zero_le _,Nat.zero_le _,Nat.zero_le _,Nat.zero_le _⟩
  have put:∀ (k:Int) (x:Qv6),Lens x.End 40→Wz ⟨w.Sides.set k.toNat x,w.Radio⟩:=fun k x L=>⟨by simpa using z.sides,fun y hy=>by
    rcases Qgn hy with q | q
    · exact z.ends y q
    · rw [q]; exact L,z.len⟩
  refine .bd (ZO (n:=n+49) h (by decide)) fun x2 ⟨q2,r2⟩=>.bd (ZO (n:=n+48) r2 (by decide)) fun x3 ⟨q3,r3⟩=>.ite (fun _=>.gd (by omega) (.gd (by omega) ?_)) fun _=>.ite (fun _=>.ite (fun c=>?_) fun _=>.ret ⟨z,r3.mono (by omega)⟩) fun _=>.ite (fun _=>?_) fun _=>.ite (fun _=>.gd (by omega) (.gd (by simp; omega) (.ret ⟨⟨?_,?_,z.len⟩,r3.mono (by omega)⟩))) fun _=>.gd (by omega) (.bd (Qmu (n:=n) (r3.mono (by omega)) (by
    have:So (w.Sides.getD x2.1.toNat default):=by rw [hs]; exact Qkk tw q2
    exact ZE this.eo)) fun x20 ⟨L20,r20⟩=>.gd (by omega) (.ret ⟨put _ _ L20,r20⟩))
  · rw [Qb];exact .ret ⟨put _ _ (dL _),r3.mono (by omega)⟩
  · have c:=of_decide_eq_true c;refine .gd (by omega) (.bd (QkG (n:=n) (r3.mono (by omega)) _) fun x8 r8=>.gd (by omega) (.ret ⟨⟨z.sides,z.ends,by simpa using z.len⟩,r8⟩))
  · refine .bd (ZO (n:=n+47) r3 (by decide)) fun x10 ⟨q10,r10⟩=>?_;rw [wrap_i64 (n:=12+x10.1) (by omega) (by omega)];refine .bd (Q:=fun x=>x.1.length≤100) (.lp (fun s=>s.length≤100) (fun s=>(12+x10.1 - s.length).toNat) z.len fun s hs=>.ite (fun c=>?_) fun _=>.ret hs) fun x14 h14=>.ret ⟨⟨z.sides,z.ends,h14⟩,r10.mono (by omega)⟩;have c:=of_decide_eq_true c;exact .gd (by simp; omega) (.ret ⟨by simp; omega,by simp; omega⟩)
  · simp; omega
  · intro y hy;rcases List.mem_append.1 hy with q | q
    · exact z.ends y q
    · rw [List.mem_singleton.1 q];exact dL 0
theorem Qmy {b:List Int} (hb:b.length≤9223372036854775807) (h:∀ x ∈ b,Ql3 x):Post (J7 b) fun x=>Wz x.1:=by
  unfold J7;refine .bd (Quw hb h) fun r hr=>.bd (Q:=fun x=>Wz x.1∧Rd 10 ⟨r.b,x.2.p⟩) ?_ fun x2 ⟨z,r2⟩=>.bd (ZO (n:=9) r2 (by decide)) fun x3 ⟨q3,r3⟩=>.gd (by simp; omega) (.ret z);unfold QdD;refine .bd (ZO (n:=900000) (b:=r.b) (p:=r.p) (hr.mono (by decide)) (by decide)) fun x1 ⟨q1,r1⟩=>.bd (QrW (n:=100) (by omega) (r1.mono (by omega))) fun x2 ⟨g2,r2⟩=>.bd (ZO (n:=99) r2 (by decide)) fun x3 ⟨q3,r3⟩=>.ite (fun _=>.bd (Qqs (n:=49) r3 g2) fun x4 ⟨z4,r4⟩=>.ret ⟨z4,r4.mono (by decide)⟩) fun _=>.ret ⟨Qvs g2,r3.mono (by decide)⟩
theorem Qtc {w:Qv8} (h1:QI w=some false) (h2:QN w=some false) (n:Int):Z5 w n=some ⟨[],[]⟩∧ZM w n=some ⟨[],[]⟩:=by
  constructor
  · unfold Z5 Qci;rw [h1,Qb,if_pos (by decide)]
  · unfold ZM;rw [h2,Qb,if_pos (by decide)]
theorem Qkm {a0 a1:List Int} (h0:a0.length≤9223372036854775807∧∀ x ∈ a0,Ql3 x) (_:a1.length≤9223372036854775807∧∀ x ∈ a1,Ql3 x):QaQ a0 a1=some true:=by
  refine Qev ?_;unfold QaQ;refine .ite (fun _=>.ret rfl) fun _=>.bd (Qmy h0.1 h0.2) fun x hz=>.gd (by decide) (.gd (by decide) ?_);have A:0≤((a0.length:Nat):Int).tmod 4∧((a0.length:Nat):Int).tmod 4 < 4:=⟨Int.tmod_nonneg _ (by omega),Int.tmod_lt_of_pos _ (by decide)⟩;have B:0≤((a1.length:Nat):Int).tmod 4∧((a1.length:Nat):Int).tmod 4 < 4:=⟨Int.tmod_nonneg _ (by omega),Int.tmod_lt_of_pos _ (by decide)⟩;obtain ⟨w,n⟩:=x;dsimp only at hz ⊢;generalize ((a0.length:Nat):Int).tmod 4=m at *;generalize ((a1.length:Nat):Int).tmod 4=k at *;rw [wrap_i64 (n:=m+k) (by omega) (by omega)];obtain ⟨v,e1,e2,e3⟩:=QuG hz
  cases v with
  | false =>
    obtain ⟨c1,c2⟩:=Qtc e1 e2 (m+k);have w0:JL ⟨[],[]⟩ ⟨[],[]⟩=some true:=QnA (Nat.zero_le _) (fun s hs=>by cases hs) (Nat.zero_le _);rw [c1,Qb,c2,Qb,w0,Qb,e1,e2,JU,Qb,Qb];refine .ite (fun q=>by cases q) fun _=>?_;rw [Qb];exact .ite (fun _=>.ret rfl) fun q=>absurd rfl q
  | true =>
    obtain ⟨s,rfl,g⟩:=Qvi (e3 rfl);have gm:=Qhh g (roundsN m);have ad:Qgv (roundsN k) (Qgv (roundsN m) s)=Qgv (roundsN (m+k)) s:=by
      rw [← Qnw]
      congr 1
      unfold roundsN;rw [if_neg (by omega),if_neg (by omega),if_neg (by omega),if_neg (by omega),if_neg (by omega),if_neg (by omega)];omega
    rw [Qot g,Qb,Qvm g,Qb,QvT (Qhh g _),Qb,e1,e2,JU,Qb,Qb];refine .ite (fun q=>by cases q) fun _=>?_;rw [Qb];refine .ite (fun q=>by cases q) fun _=>?_;rw [Qvp (Qhh g _),Qb,Qot g,JU,Qb,if_pos rfl,Qot gm,JU,Qb,if_pos rfl,ad,QvT (Qhh g _),JU,Qb];exact .ret rfl
end Go.Proofs.YtjgjdobkahdgfaaGreat
