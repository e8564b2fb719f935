/-
  Plain Lean: fresh routes behind a change are the table behind it.
-/
import Derived.Test.YtjgjdobkahdgfaaGreatKz5
import Derived.Test.YtjgjdobkahdgfaaGreatHelNz
import Derived.Test.YtjgjdobkahdgfaaGreatHelMz
set_option linter.all false
namespace Go.Proofs.YtjgjdobkahdgfaaGreat
open Go Go.Ab
set_option maxHeartbeats 400000
set_option maxRecDepth 100000
def same (a b:Qxm):Prop:=a.Addr=b.Addr∧a.Len=b.Len
theorem QoZ:∀ {s t:List Qxm},Inc idE s→Inc idE t→(∀ x,x ∈ s ↔ x ∈ t)→s=t
  | [],[],_,_,_=>rfl
  | [],b :: t,_,_,h=>absurd ((h b).2 List.mem_cons_self) (by simp)
  | a :: s,[],_,_,h=>absurd ((h a).1 List.mem_cons_self) (by simp)
  | a :: s,b :: t,hs,ht,h=>by
    obtain ⟨s1,s2⟩:=List.pairwise_cons.1 hs;obtain ⟨t1,t2⟩:=List.pairwise_cons.1 ht;have irr:∀ x:Qxm,lessE x x ≠ true:=fun x q=>by rw [QiV rfl rfl] at q; cases q
    have e:a=b:=by
      rcases List.mem_cons.1 ((h a).1 List.mem_cons_self) with q | q
      · exact q
      · rcases List.mem_cons.1 ((h b).2 List.mem_cons_self) with p | p
        · exact p.symm
        · exact absurd (Qdi (s1 b p) (t1 a q)) (irr _)
    subst e
    congr 1
    refine QoZ s2 t2 fun x=>⟨fun q=>?_,fun q=>?_⟩
    · rcases List.mem_cons.1 ((h x).1 (List.mem_cons_of_mem _ q)) with p | p
      · rw [p] at q; exact absurd (s1 a q) (irr _)
      · exact p
    · rcases List.mem_cons.1 ((h x).2 (List.mem_cons_of_mem _ q)) with p | p
      · rw [p] at q; exact absurd (t1 a q) (irr _)
      · exact p
section
variable {α:Type} [Inhabited α] {f:α→Qxm}
theorem QvP {t:List α} {x:α}:x ∈ t ↔ ∃ i,i < t.length∧t.getD i default=x:=⟨Je,fun ⟨i,hi,e⟩=>e ▸ Zo hi⟩
theorem Qud {t:List α} {k:Nat} (hk:k < t.length) {x y:α}:y ∈ t.set k x ↔ y=x ∨ ∃ i,i < t.length∧i ≠ k∧t.getD i default=y:=by
  rw [QvP]
  constructor
  · intro ⟨i,hi,e⟩;rw [List.length_set] at hi;rw [List.getD_eq_getElem?_getD,List.getElem?_set] at e
    by_cases c:k=i
    · rw [if_pos c,if_pos (by omega)] at e;exact .inl e.symm
    · rw [if_neg c] at e;exact .inr ⟨i,hi,fun q=>c q.symm,by rw [List.getD_eq_getElem?_getD]; exact e⟩
  · rintro (e | ⟨i,hi,n,e⟩)
    · refine ⟨k,by simpa using hk,?_⟩;rw [List.getD_eq_getElem?_getD,List.getElem?_set,if_pos rfl,if_pos hk];exact e.symm
    · refine ⟨i,by simpa using hi,?_⟩;rw [List.getD_eq_getElem?_getD,List.getElem?_set,if_neg (fun q=>n q.symm),← List.getD_eq_getElem?_getD];exact e
theorem Qp7 {t:List α} {k:Nat} {y:α}:y ∈ t.take k ++ t.drop (k+1) ↔ ∃ i,i < t.length∧i ≠ k∧t.getD i default=y:=by
  rw [List.mem_append,List.mem_take_iff_getElem,List.mem_drop_iff_getElem]
  constructor
  · rintro (⟨i,hi,e⟩ | ⟨i,hi,e⟩)
    · exact ⟨i,by omega,by omega,by rw [List.getD_eq_getElem?_getD,List.getElem?_eq_getElem (by omega)]; exact e⟩
    · exact ⟨i+(k+1),by omega,by omega,by rw [List.getD_eq_getElem?_getD,List.getElem?_eq_getElem (by omega)]; simpa [Nat.add_comm,Nat.add_left_comm] using e⟩
  · intro ⟨i,hi,n,e⟩;rw [List.getD_eq_getElem?_getD,List.getElem?_eq_getElem hi] at e
    by_cases c:i < k
    · exact .inl ⟨i,by omega,e⟩
    · refine .inr ⟨i - (k+1),by omega,?_⟩;have e:t[i]=y:=e;rw [← e]
      congr 1
      omega
theorem Qp8 {t:List α} (ho:Ord f t) {e:Qxm} (hh:Qbk f t e=true) {i:Nat} (hi:i < t.length):i ≠ posK f t e ↔ ¬ same (f (t.getD i default)) e :=
  ⟨fun n q=>n (QdO ho hi q).1,fun n q=>n (by rw [q]; exact (J8.1 hh).2)⟩
theorem QsT {t:List α} (ho:Ord f t) {e:Qxm} (hh:Qbk f t e=false) {x:α} (hx:x ∈ t):¬ same (f x) e:=fun q=>by
  obtain ⟨i,hi,rfl⟩:=Je hx;rw [(QdO ho hi q).2] at hh; cases hh
theorem QsU {t:List α} (ho:Ord f t) {e:Qxm} (hh:Qbk f t e=true) {x y:α}:y ∈ t.set (posK f t e) x ↔ y=x ∨ (y ∈ t∧¬ same (f y) e):=by
  rw [Qud (J8.1 hh).1]
  constructor
  · rintro (q | ⟨i,hi,n,rfl⟩)
    · exact .inl q
    · exact .inr ⟨Zo hi,(Qp8 ho hh hi).1 n⟩
  · rintro (q | ⟨q,n⟩)
    · exact .inl q
    · obtain ⟨i,hi,rfl⟩:=Je q;exact .inr ⟨i,hi,(Qp8 ho hh hi).2 n,rfl⟩
theorem Qo0 {t:List α} (ho:Ord f t) {e:Qxm} (hh:Qbk f t e=false) {x y:α}:y ∈ t.take (posK f t e) ++ [x] ++ t.drop (posK f t e) ↔ y=x ∨ (y ∈ t∧¬ same (f y) e):=by
  constructor
  · intro q;rcases QmG q with p | p
    · exact .inr ⟨p,QsT ho hh p⟩
    · exact .inl p
  · rintro (q | ⟨q,_⟩)
    · rw [q]; simp
    · have e2:=List.take_append_drop (posK f t e) t;rw [← e2] at q;rcases List.mem_append.1 q with p | p
      · exact List.mem_append.2 (.inl (List.mem_append.2 (.inl p)))
      · exact List.mem_append.2 (.inr p)
theorem Qp9 {t:List α} (ho:Ord f t) {e:Qxm} (hh:Qbk f t e=true) {y:α}:y ∈ t.take (posK f t e) ++ t.drop (posK f t e+1) ↔ y ∈ t∧¬ same (f y) e:=by
  rw [Qp7]
  constructor
  · rintro ⟨i,hi,n,rfl⟩;exact ⟨Zo hi,(Qp8 ho hh hi).1 n⟩
  · intro ⟨q,n⟩;obtain ⟨i,hi,rfl⟩:=Je q;exact ⟨i,hi,(Qp8 ho hh hi).2 n,rfl⟩
end
theorem QmQ {t:List Qxm} (ho:Ord idE t) {e x:Qxm}:x ∈ Qn3 t e ↔ x=e ∨ (x ∈ t∧¬ same x e):=by
  unfold Qn3
  cases hh:Qbk idE t e
  · exact Qo0 ho hh
  · exact QsU ho hh
theorem Qqa {t:List Qxm} (ho:Ord idE t) {e x:Qxm}:x ∈ Qhp t e ↔ x ∈ t∧¬ same x e:=by
  unfold Qhp
  cases hh:Qbk idE t e
  · exact ⟨fun q=>⟨q,QsT ho hh q⟩,fun q=>q.1⟩
  · exact Qp9 ho hh
def frE (t:List Qxo):List Qxm:=(fresh t).map fun r=>r.Entry
theorem QnS {t:List Qxo} {y:Qxm}:y ∈ frE t ↔ ∃ r ∈ t,r.Stale=false∧r.Entry=y:=by
  unfold frE fresh;rw [List.mem_map]
  constructor
  · rintro ⟨r,q,e⟩;obtain ⟨q1,q2⟩:=List.mem_filter.1 q;exact ⟨r,q1,by simpa using q2,e⟩
  · rintro ⟨r,q1,q2,e⟩;exact ⟨r,List.mem_filter.2 ⟨q1,by simpa using q2⟩,e⟩
theorem QuO {l:Int} {t:List Qxo} (h:Rt l t):Inc idE (frE t):=by
  unfold frE fresh;exact List.pairwise_map.2 (h.ord.sublist List.filter_sublist)
theorem Qqb (t:List Qxo):frE (fresh t)=frE t:=by
  unfold frE fresh;rw [List.filter_filter]
  congr 2
  funext r
  cases r.Stale <;> rfl
theorem Qw9 {l:Int} {t:List Qxo} (h:Rt l t):Ord idE (frE t):=⟨QuO h,fun x hx=>by
  obtain ⟨r,q,_,e⟩:=QnS.1 hx;rw [← e]; exact QaA (h.ent r q)⟩
theorem QvQ {l:Int} (hl:l ≠ 0) {t:List Qxo} (h:Rt l t) {c:Qxn} (hc:QV c=true) (ok:(Qcm t c).2=true) (ha:Inc idE (JG (frE t) c)):frE (Qcm t c).1=JG (frE t) c:=by
  have ho:=Qsv h;have hf:=Qw9 h;refine QoZ (QuO (QoP hl h hc).1) ha fun y=>?_;have ins:∀ (u:List Qxo),(∀ r,r.Stale=false→(r ∈ u ↔ r=⟨c.Entry,false⟩ ∨ (r ∈ t∧¬ same r.Entry c.Entry)))→(y ∈ frE u ↔ y=c.Entry ∨ (y ∈ frE t∧¬ same y c.Entry)):=fun u hu=>by
    rw [QnS,QnS]
    constructor
    · rintro ⟨r,q1,q2,e⟩;rcases (hu r q2).1 q1 with p | ⟨p,n⟩
      · rw [p] at e; exact .inl e.symm
      · exact .inr ⟨⟨r,p,q2,e⟩,by rw [← e]; exact n⟩
    · rintro (p | ⟨⟨r,q1,q2,e⟩,n⟩)
      · exact ⟨⟨c.Entry,false⟩,(hu _ rfl).2 (.inl rfl),rfl,p.symm⟩
      · exact ⟨r,(hu r q2).2 (.inr ⟨q1,by rw [e]; exact n⟩),q2,e⟩
  unfold Qcm JG at *
  by_cases c1:c.Kind=1
  · rw [if_pos c1] at *;rw [if_pos c1,QmQ hf];unfold QpO at *
    cases hh:Qbk rE t c.Entry
    · rw [hh] at ok;simp only [Bool.false_eq_true,if_false] at ok ⊢
      by_cases c2:t.length=16
      · rw [if_pos c2] at *
        cases hs:JR t with
        | none=>rw [hs] at ok; cases ok
        | some s =>
          obtain ⟨s1,s2,_⟩:=ZK hs;dsimp only;refine ins _ fun r hr=>?_;unfold Qks;rw [Qo0 (QoG ho (Qd0 t s)) (QmD ho s hh)];refine or_congr Iff.rfl (and_congr_left fun _=>?_);unfold QoH;rw [Qp7];exact ⟨fun ⟨i,hi,_,e⟩=>e ▸ Zo hi,fun q=>by
            obtain ⟨i,hi,rfl⟩:=Je q;exact ⟨i,hi,(fun n=>by rw [n,s2] at hr; cases hr),rfl⟩⟩
      · rw [if_neg c2] at *;exact ins _ fun r _=>Qo0 ho hh
    · simp only [if_true];exact ins _ fun r _=>QsU ho hh
  · rw [if_neg c1] at *;rw [if_neg c1]
    by_cases c2:c.Kind=2
    · rw [if_pos c2] at *;rw [if_pos c2,Qqa hf,QnS,QnS];dsimp only;have e:∀ r:Qxo,r ∈ (if Qbk rE t c.Entry=true then QoH t (posK rE t c.Entry) else t) ↔ r ∈ t∧¬ same r.Entry c.Entry:=fun r=>by
        cases hh:Qbk rE t c.Entry
        · exact ⟨fun q=>⟨q,QsT ho hh q⟩,fun q=>q.1⟩
        · exact Qp9 ho hh
      constructor
      · rintro ⟨r,q1,q2,q3⟩;obtain ⟨p1,p2⟩:=(e r).1 q1;exact ⟨⟨r,p1,q2,q3⟩,by rw [← q3]; exact p2⟩
      · rintro ⟨⟨r,q1,q2,q3⟩,n⟩;exact ⟨r,(e r).2 ⟨q1,by rw [q3]; exact n⟩,q2,q3⟩
    · rw [if_neg c2] at *;rw [if_neg c2];dsimp only;rw [Qqb]
theorem Qrf {l:Int} (hl:l ≠ 0) {t:List Qxo} (h:Rt l t) {c:Qxn} (hc:QV c=true) (hs:Z8 t=false ∨ c.Kind=3):Z8 (Qcm t c).1=false:=by
  rw [Bool.eq_false_iff];intro q;obtain ⟨r,r1,r2⟩:=QaQ.1 q;rcases hs with hs | hs
  · have:=(QoP hl h hc).2 r r1 r2;rw [QaQ.2 ⟨r,this,r2⟩] at hs; cases hs
  · unfold Qcm at r1;rw [if_neg (by omega),if_neg (by omega)] at r1;have:=(List.mem_filter.1 r1).2;rw [r2] at this; cases this
theorem QaZ {t:List Qxm} {c:Qxn} (h:c.Kind=0):JG t c=t:=by
  unfold JG;rw [if_neg (by omega),if_neg (by omega)]
end Go.Proofs.YtjgjdobkahdgfaaGreat
