/-
  Plain Lean: fresh routes behind a change are the table behind it.
-/
import Derived.Test.YtjgjdobkahdgfaaGreatKz5
import Derived.Test.YtjgjdobkahdgfaaGreatHelNz
import Derived.Test.YtjgjdobkahdgfaaGreatHelMz
set_option linter.all false
namespace Go.Proofs.YtjgjdobkahdgfaaGreat
open Go Go.Ab
set_option maxHeartbeats 400000
set_option maxRecDepth 100000
def same (a b:Qw8):Prop:=a.Addr=b.Addr∧a.Len=b.Len
theorem QoK:∀ {s t:List Qw8},Inc idE s→Inc idE t→(∀ x,x ∈ s ↔ x ∈ t)→s=t
  | [],[],_,_,_=>rfl
  | [],b :: t,_,_,h=>absurd ((h b).2 List.mem_cons_self) (by simp)
  | a :: s,[],_,_,h=>absurd ((h a).1 List.mem_cons_self) (by simp)
  | a :: s,b :: t,hs,ht,h=>by
    obtain ⟨s1,s2⟩:=List.pairwise_cons.1 hs;obtain ⟨t1,t2⟩:=List.pairwise_cons.1 ht;have irr:∀ x:Qw8,lessE x x ≠ true:=fun x q=>by rw [QiM rfl rfl] at q; cases q
    have e:a=b:=by
      rcases List.mem_cons.1 ((h a).1 List.mem_cons_self) with q | q
      · exact q
      · rcases List.mem_cons.1 ((h b).2 List.mem_cons_self) with p | p
        · exact p.symm
        · exact absurd (Qc5 (s1 b p) (t1 a q)) (irr _)
    subst e
    congr 1
    refine QoK s2 t2 fun x=>⟨fun q=>?_,fun q=>?_⟩
    · rcases List.mem_cons.1 ((h x).1 (List.mem_cons_of_mem _ q)) with p | p
      · rw [p] at q; exact absurd (s1 a q) (irr _)
      · exact p
    · rcases List.mem_cons.1 ((h x).2 (List.mem_cons_of_mem _ q)) with p | p
      · rw [p] at q; exact absurd (t1 a q) (irr _)
      · exact p
section
variable {α:Type} [Inhabited α] {f:α→Qw8}
theorem QvF {t:List α} {x:α}:x ∈ t ↔ ∃ i,i < t.length∧t.getD i default=x:=⟨Z7,fun ⟨i,hi,e⟩=>e ▸ Zj hi⟩
theorem Qt2 {t:List α} {k:Nat} (hk:k < t.length) {x y:α}:y ∈ t.set k x ↔ y=x ∨ ∃ i,i < t.length∧i ≠ k∧t.getD i default=y:=by
  rw [QvF]
  constructor
  · intro ⟨i,hi,e⟩;rw [List.length_set] at hi;rw [List.getD_eq_getElem?_getD,List.getElem?_set] at e
    by_cases c:k=i
    · rw [if_pos c,if_pos (by omega)] at e;exact .inl e.symm
    · rw [if_neg c] at e;exact .inr ⟨i,hi,fun q=>c q.symm,by rw [List.getD_eq_getElem?_getD]; exact e⟩
  · rintro (e | ⟨i,hi,n,e⟩)
    · refine ⟨k,by simpa using hk,?_⟩;rw [List.getD_eq_getElem?_getD,List.getElem?_set,if_pos rfl,if_pos hk];exact e.symm
    · refine ⟨i,by simpa using hi,?_⟩;rw [List.getD_eq_getElem?_getD,List.getElem?_set,if_neg (fun q=>n q.symm),← List.getD_eq_getElem?_getD];exact e
theorem QpR {t:List α} {k:Nat} {y:α}:y ∈ t.take k ++ t.drop (k+1) ↔ ∃ i,i < t.length∧i ≠ k∧t.getD i default=y:=by
  rw [List.mem_append,List.mem_take_iff_getElem,List.mem_drop_iff_getElem]
  constructor
  · rintro (⟨i,hi,e⟩ | ⟨i,hi,e⟩)
    · exact ⟨i,by omega,by omega,by rw [List.getD_eq_getElem?_getD,List.getElem?_eq_getElem (by omega)]; exact e⟩
    · exact ⟨i+(k+1),by omega,by omega,by rw [List.getD_eq_getElem?_getD,List.getElem?_eq_getElem (by omega)]; simpa [Nat.add_comm,Nat.add_left_comm] using e⟩
  · intro ⟨i,hi,n,e⟩;rw [List.getD_eq_getElem?_getD,List.getElem?_eq_getElem hi] at e
    by_cases c:i < k
    · exact .inl ⟨i,by omega,e⟩
    · refine .inr ⟨i - (k+1),by omega,?_⟩;have e:t[i]=y:=e;rw [← e]
      congr 1
      omega
theorem QpS {t:List α} (ho:Ord f t) {e:Qw8} (hh:Qbd f t e=true) {i:Nat} (hi:i < t.length):i ≠ posK f t e ↔ ¬ same (f (t.getD i default)) e :=
  ⟨fun n q=>n (QdE ho hi q).1,fun n q=>n (by rw [q]; exact (J5.1 hh).2)⟩
theorem QsH {t:List α} (ho:Ord f t) {e:Qw8} (hh:Qbd f t e=false) {x:α} (hx:x ∈ t):¬ same (f x) e:=fun q=>by
  obtain ⟨i,hi,rfl⟩:=Z7 hx;rw [(QdE ho hi q).2] at hh; cases hh
theorem QsI {t:List α} (ho:Ord f t) {e:Qw8} (hh:Qbd f t e=true) {x y:α}:y ∈ t.set (posK f t e) x ↔ y=x ∨ (y ∈ t∧¬ same (f y) e):=by
  rw [Qt2 (J5.1 hh).1]
  constructor
  · rintro (q | ⟨i,hi,n,rfl⟩)
    · exact .inl q
    · exact .inr ⟨Zj hi,(QpS ho hh hi).1 n⟩
  · rintro (q | ⟨q,n⟩)
    · exact .inl q
    · obtain ⟨i,hi,rfl⟩:=Z7 q;exact .inr ⟨i,hi,(QpS ho hh hi).2 n,rfl⟩
theorem QoL {t:List α} (ho:Ord f t) {e:Qw8} (hh:Qbd f t e=false) {x y:α}:y ∈ t.take (posK f t e) ++ [x] ++ t.drop (posK f t e) ↔ y=x ∨ (y ∈ t∧¬ same (f y) e):=by
  constructor
  · intro q;rcases Qmr q with p | p
    · exact .inr ⟨p,QsH ho hh p⟩
    · exact .inl p
  · rintro (q | ⟨q,_⟩)
    · rw [q]; simp
    · have e2:=List.take_append_drop (posK f t e) t;rw [← e2] at q;rcases List.mem_append.1 q with p | p
      · exact List.mem_append.2 (.inl (List.mem_append.2 (.inl p)))
      · exact List.mem_append.2 (.inr p)
theorem QpT {t:List α} (ho:Ord f t) {e:Qw8} (hh:Qbd f t e=true) {y:α}:y ∈ t.take (posK f t e) ++ t.drop (posK f t e+1) ↔ y ∈ t∧¬ same (f y) e:=by
  rw [QpR]
  constructor
  · rintro ⟨i,hi,n,rfl⟩;exact ⟨Zj hi,(QpS ho hh hi).1 n⟩
  · intro ⟨q,n⟩;obtain ⟨i,hi,rfl⟩:=Z7 q;exact ⟨i,hi,(QpS ho hh hi).2 n,rfl⟩
end
theorem QmA {t:List Qw8} (ho:Ord idE t) {e x:Qw8}:x ∈ QnO t e ↔ x=e ∨ (x ∈ t∧¬ same x e):=by
  unfold QnO
  cases hh:Qbd idE t e
  · exact QoL ho hh
  · exact QsI ho hh
theorem QpU {t:List Qw8} (ho:Ord idE t) {e x:Qw8}:x ∈ Qhd t e ↔ x ∈ t∧¬ same x e:=by
  unfold Qhd
  cases hh:Qbd idE t e
  · exact ⟨fun q=>⟨q,QsH ho hh q⟩,fun q=>q.1⟩
  · exact QpT ho hh
def frE (t:List Qxa):List Qw8:=(fresh t).map fun r=>r.Entry
theorem QnC {t:List Qxa} {y:Qw8}:y ∈ frE t ↔ ∃ r ∈ t,r.Stale=false∧r.Entry=y:=by
  unfold frE fresh;rw [List.mem_map]
  constructor
  · rintro ⟨r,q,e⟩;obtain ⟨q1,q2⟩:=List.mem_filter.1 q;exact ⟨r,q1,by simpa using q2,e⟩
  · rintro ⟨r,q1,q2,e⟩;exact ⟨r,List.mem_filter.2 ⟨q1,by simpa using q2⟩,e⟩
theorem QuE {l:Int} {t:List Qxa} (h:Rt l t):Inc idE (frE t):=by
  unfold frE fresh;exact List.pairwise_map.2 (h.ord.sublist List.filter_sublist)
theorem QpV (t:List Qxa):frE (fresh t)=frE t:=by
  unfold frE fresh;rw [List.filter_filter]
  congr 2
  funext r
  cases r.Stale <;> rfl
theorem QwV {l:Int} {t:List Qxa} (h:Rt l t):Ord idE (frE t):=⟨QuE h,fun x hx=>by
  obtain ⟨r,q,_,e⟩:=QnC.1 hx;rw [← e]; exact Qat (h.ent r q)⟩
theorem QvG {l:Int} (hl:l ≠ 0) {t:List Qxa} (h:Rt l t) {c:Qw9} (hc:QT c=true) (ok:(Qcf t c).2=true) (ha:Inc idE (JD (frE t) c)):frE (Qcf t c).1=JD (frE t) c:=by
  have ho:=Qsh h;have hf:=QwV h;refine QoK (QuE (QoA hl h hc).1) ha fun y=>?_;have ins:∀ (u:List Qxa),(∀ r,r.Stale=false→(r ∈ u ↔ r=⟨c.Entry,false⟩ ∨ (r ∈ t∧¬ same r.Entry c.Entry)))→(y ∈ frE u ↔ y=c.Entry ∨ (y ∈ frE t∧¬ same y c.Entry)):=fun u hu=>by
    rw [QnC,QnC]
    constructor
    · rintro ⟨r,q1,q2,e⟩;rcases (hu r q2).1 q1 with p | ⟨p,n⟩
      · rw [p] at e; exact .inl e.symm
      · exact .inr ⟨⟨r,p,q2,e⟩,by rw [← e]; exact n⟩
    · rintro (p | ⟨⟨r,q1,q2,e⟩,n⟩)
      · exact ⟨⟨c.Entry,false⟩,(hu _ rfl).2 (.inl rfl),rfl,p.symm⟩
      · exact ⟨r,(hu r q2).2 (.inr ⟨q1,by rw [e]; exact n⟩),q2,e⟩
  unfold Qcf JD at *
  by_cases c1:c.Kind=1
  · rw [if_pos c1] at *;rw [if_pos c1,QmA hf];unfold Qpz at *
    cases hh:Qbd rE t c.Entry
    · rw [hh] at ok;simp only [Bool.false_eq_true,if_false] at ok ⊢
      by_cases c2:t.length=16
      · rw [if_pos c2] at *
        cases hs:JM t with
        | none=>rw [hs] at ok; cases ok
        | some s =>
          obtain ⟨s1,s2,_⟩:=ZF hs;dsimp only;refine ins _ fun r hr=>?_;unfold Qkg;rw [QoL (Qor ho (QdR t s)) (Qmo ho s hh)];refine or_congr Iff.rfl (and_congr_left fun _=>?_);unfold Qos;rw [QpR];exact ⟨fun ⟨i,hi,_,e⟩=>e ▸ Zj hi,fun q=>by
            obtain ⟨i,hi,rfl⟩:=Z7 q;exact ⟨i,hi,(fun n=>by rw [n,s2] at hr; cases hr),rfl⟩⟩
      · rw [if_neg c2] at *;exact ins _ fun r _=>QoL ho hh
    · simp only [if_true];exact ins _ fun r _=>QsI ho hh
  · rw [if_neg c1] at *;rw [if_neg c1]
    by_cases c2:c.Kind=2
    · rw [if_pos c2] at *;rw [if_pos c2,QpU hf,QnC,QnC];dsimp only;have e:∀ r:Qxa,r ∈ (if Qbd rE t c.Entry=true then Qos t (posK rE t c.Entry) else t) ↔ r ∈ t∧¬ same r.Entry c.Entry:=fun r=>by
        cases hh:Qbd rE t c.Entry
        · exact ⟨fun q=>⟨q,QsH ho hh q⟩,fun q=>q.1⟩
        · exact QpT ho hh
      constructor
      · rintro ⟨r,q1,q2,q3⟩;obtain ⟨p1,p2⟩:=(e r).1 q1;exact ⟨⟨r,p1,q2,q3⟩,by rw [← q3]; exact p2⟩
      · rintro ⟨⟨r,q1,q2,q3⟩,n⟩;exact ⟨r,(e r).2 ⟨q1,by rw [q3]; exact n⟩,q2,q3⟩
    · rw [if_neg c2] at *;rw [if_neg c2];dsimp only;rw [QpV]
theorem QqZ {l:Int} (hl:l ≠ 0) {t:List Qxa} (h:Rt l t) {c:Qw9} (hc:QT c=true) (hs:Jj t=false ∨ c.Kind=3):Jj (Qcf t c).1=false:=by
  rw [Bool.eq_false_iff];intro q;obtain ⟨r,r1,r2⟩:=QaJ.1 q;rcases hs with hs | hs
  · have:=(QoA hl h hc).2 r r1 r2;rw [QaJ.2 ⟨r,this,r2⟩] at hs; cases hs
  · unfold Qcf at r1;rw [if_neg (by omega),if_neg (by omega)] at r1;have:=(List.mem_filter.1 r1).2;rw [r2] at this; cases this
theorem QaR {t:List Qw8} {c:Qw9} (h:c.Kind=0):JD t c=t:=by
  unfold JD;rw [if_neg (by omega),if_neg (by omega)]
end Go.Proofs.YtjgjdobkahdgfaaGreat
