/-
  Plain Lean: an end that hears, or speaks, stays ok; what it says is ok.
-/
import Derived.Test.YtjgjdobkahdgfaaGreatKz6
import Derived.Test.YtjgjdobkahdgfaaGreatHelAz
import Derived.Test.YtjgjdobkahdgfaaGreatHelWz
set_option linter.all false
namespace Go.Proofs.YtjgjdobkahdgfaaGreat
open Go Go.Ab
set_option maxHeartbeats 1000000
set_option maxRecDepth 100000
theorem Qnm {a b:Qv2} (h:a.Addr=b.Addr) (k:a.Len=b.Len):lessE a b=false:=by
  simp [lessE,h,k]
theorem Qlu {a b c d:Qv2} (h:a.Addr=c.Addr∧a.Len=c.Len) (k:b.Addr=d.Addr∧b.Len=d.Len):lessE a b=lessE c d:=by
  simp only [lessE,h.1,h.2,k.1,k.2]
theorem Qok {a b:Qv2} (h:lessE a b=false) (n:¬ (a.Addr=b.Addr∧a.Len=b.Len)):lessE b a=true:=by
  simp only [lessE,Bool.or_eq_false_iff,Bool.and_eq_false_iff,decide_eq_false_iff_not,beq_eq_false_iff_ne] at h;simp only [lessE,Bool.or_eq_true,Bool.and_eq_true,decide_eq_true_eq,beq_iff_eq];omega
section
variable {α:Type} [Inhabited α] {f:α→Qv2}
theorem QrH {t:List α} (ho:Ord f t) {e:Qv2} (hh:Qdp f t e=false) {x:α} (hx:f x=e):Inc f (t.take (posK f t e) ++ [x] ++ t.drop (posK f t e)):=by
  have w3:=Qbr (f:=f) t e;have g:∀ k (h:k < t.length),t.getD k default=t[k]:=fun k h=>by rw [List.getD_eq_getElem?_getD,List.getElem?_eq_getElem h]; rfl
  have below:∀ y ∈ t.take (posK f t e),lessE (f y) e=true:=fun y hy=>by
    obtain ⟨i,hi,rfl⟩:=List.getElem_of_mem hy;rw [List.length_take] at hi;have:=Qip (f:=f) (t:=t) (e:=e) (k:=i) (by omega);rw [g i (by omega)] at this;rw [List.getElem_take]; exact this
  have above:∀ y ∈ t.drop (posK f t e),lessE e (f y)=true:=fun y hy=>by
    obtain ⟨i,hi,rfl⟩:=List.getElem_of_mem hy;rw [List.length_drop] at hi;have:=Qmk ho (e:=e) (k:=posK f t e+i) (by omega) (by omega);rw [List.getElem_drop];rw [g _ (by omega)] at this;refine Qok this fun c=>?_;have:=(Qkc ho (k:=posK f t e+i) (by omega) (by rw [g _ (by omega)]; exact c)).2;rw [hh] at this; cases this
  refine List.pairwise_append.2 ⟨List.pairwise_append.2 ⟨ho.ord.sublist (List.take_sublist _ _),List.pairwise_singleton _ _,fun y hy z hz=>?_⟩,ho.ord.sublist (List.drop_sublist _ _),fun y hy z hz=>?_⟩
  · rw [List.mem_singleton] at hz;subst hz;rw [hx]; exact below y hy
  · rcases List.mem_append.1 hy with q | q
    · exact Qd2 (below y q) (above z hz)
    · rw [List.mem_singleton] at q;subst q;rw [hx]; exact above z hz
theorem QrI {t:List α} (ho:Inc f t) {k:Nat} (hk:k < t.length) {x:α} (hx:(f x).Addr=(f (t.getD k default)).Addr∧(f x).Len=(f (t.getD k default)).Len):Inc f (t.set k x):=by
  have g:t.getD k default=t[k]:=by rw [List.getD_eq_getElem?_getD,List.getElem?_eq_getElem hk]; rfl
  rw [g] at hx;refine List.pairwise_iff_getElem.2 fun i j hi hj hij=>?_;rw [List.length_set] at hi hj;have h:=List.pairwise_iff_getElem.1 ho i j hi hj hij;rw [List.getElem_set,List.getElem_set]
  by_cases c:k=i
  · subst c;rw [if_pos rfl,if_neg (by omega)];rw [← h]; exact Qlu hx ⟨rfl,rfl⟩
  · rw [if_neg c]
    by_cases c2:k=j
    · subst c2;rw [if_pos rfl];rw [← h]; exact Qlu ⟨rfl,rfl⟩ hx
    · rw [if_neg c2]; exact h
theorem Qgn {t:List α} {k:Nat} {x y:α} (h:y ∈ t.set k x):y ∈ t ∨ y=x:=List.mem_or_eq_of_mem_set h
theorem Qol {t:List α} {k:Nat} {x y:α} (h:y ∈ t.take k ++ [x] ++ t.drop k):y ∈ t ∨ y=x:=by
  rcases List.mem_append.1 h with q | q
  · rcases List.mem_append.1 q with q | q
    · exact .inl (List.mem_of_mem_take q)
    · exact .inr (List.mem_singleton.1 q)
  · exact .inl (List.mem_of_mem_drop q)
end
theorem Qty {l:Int} {t:List Qv4} (h:Rt l t):Ord rE t:=⟨h.ord,fun x hx=>QaO (h.ent x hx)⟩
theorem QhS {t:List Qv2} (h:To t):Ord idE t:=⟨h.ord,fun x hx=>QaO (h.ent x hx)⟩
theorem Qnn {c:Qv3} (h:Zc c=true) (k:c.Kind=1):entryOk c.Entry=true:=by
  unfold Zc at h;rw [if_neg (by omega),if_pos k] at h;exact h
theorem Qup {l:Int} (hl:l ≠ 0) {t:List Qv4} (h:Rt l t) {c:Qv3} (hc:Zc c=true):Rt l (Qft t c).1∧∀ x ∈ (Qft t c).1,x.Stale=true→x ∈ t:=by
  have ho:=Qty h;have len:=Qjg h.len c;have into:∀ s:List Qv4,Rt l s→Qdp rE s c.Entry=false→entryOk c.Entry=true→(QkD s c.Entry).length≤16→Rt l (QkD s c.Entry)∧∀ x ∈ QkD s c.Entry,x.Stale=true→x ∈ s:=fun s hs hh he hn=>by
    refine ⟨⟨hn,fun x hx=>?_,QrH (Qty hs) hh rfl,fun x hx=>.inr hl⟩,fun x hx q=>?_⟩
    · rcases Qol hx with q | q
      · exact hs.ent x q
      · rw [q]; exact he
    · rcases Qol hx with p | p
      · exact p
      · rw [p] at q; cases q
  have sub:∀ s:List Qv4,s.Sublist t→Rt l s:=fun s hs=>⟨Nat.le_trans hs.length_le h.len,fun x hx=>h.ent x (hs.subset hx),h.ord.sublist hs,fun x hx=>h.live x (hs.subset hx)⟩;unfold Qft at *
  by_cases c1:c.Kind=1
  · rw [if_pos c1] at *;have he:=Qnn hc c1;unfold Qqw at *
    cases hh:Qdp rE t c.Entry
    · rw [hh] at len;simp only [Bool.false_eq_true,if_false] at len ⊢
      by_cases c2:t.length=16
      · rw [if_pos c2] at *
        cases hf:Qak t with
        | none=>exact ⟨h,fun x hx _=>hx⟩
        | some s =>
          rw [hf] at len;dsimp only at len ⊢;obtain ⟨r1,r2⟩:=into (Qqf t s) (sub _ (Qek t s)) (Qpe ho s hh) he len;exact ⟨r1,fun x hx q=>(Qek t s).subset (r2 x hx q)⟩
      · rw [if_neg c2] at *;exact into t h hh he len
    · obtain ⟨q1,q2,q3⟩:=QaR.1 hh;rw [hh] at len;simp only [if_true] at len ⊢;refine ⟨⟨len,fun x hx=>?_,QrI h.ord q1 ⟨q2.symm,q3.symm⟩,fun x hx=>.inr hl⟩,fun x hx q=>?_⟩
      · rcases Qgn hx with p | p
        · exact h.ent x p
        · rw [p]; exact he
      · rcases Qgn hx with p | p
        · exact p
        · rw [p] at q; cases q
  · rw [if_neg c1] at *
    by_cases c2:c.Kind=2
    · rw [if_pos c2] at *;dsimp only;split
      · exact ⟨sub _ (Qek _ _),fun x hx _=>(Qek _ _).subset hx⟩
      · exact ⟨h,fun x hx _=>hx⟩
    · rw [if_neg c2] at *;exact ⟨sub _ List.filter_sublist,fun x hx _=>(List.mem_filter.1 hx).1⟩
structure Ek (e:Qv5):Prop where
  eo:Eo { e with Heard:=[],Keep:=0 }
  rt:Rt e.Left e.Heard
  keep:0≤e.Keep∧e.Keep≤6
  any:Qav e.Heard=true→0 < e.Keep
theorem Qve {e:Qv5} (h:Eo e):Ek e:=⟨{ h with heard:=Qlt _ },h.heard.rt,h.heard.keep,fun q=>h.heard.any.2 q⟩
theorem Quq {e:Qv5} (h:Ek e):Eo (kept e):=by
  unfold kept;have hk:=h.keep
  by_cases c:Qav e.Heard=true
  · rw [if_pos c];exact { h.eo with heard:=⟨h.rt,h.keep,⟨fun _=>c,fun _=>h.any c⟩⟩ }
  · rw [if_neg c];exact { h.eo with heard:=⟨h.rt,(by show (0:Int)≤0∧(0:Int)≤6; decide),⟨fun q=>absurd q (by show ¬ ((0:Int) < 0); decide),fun q=>absurd q c⟩⟩ }
theorem Qlv {w:Qv7} (h:Zw w=true):(1≤w.Boot∧w.Boot≤999)∧(1≤w.Turn∧w.Turn≤1000000)∧(0≤w.Num∧w.Num≤w.Turn)∧Zc w.Change=true:=by
  simp only [Zw,Bool.and_eq_true,JV] at h;obtain ⟨⟨⟨⟨⟨⟨⟨⟨⟨⟨h1,h2⟩,h3⟩,h4⟩,h5⟩,h6⟩,h7⟩,h8⟩,h9⟩,h10⟩,h11⟩:=h;exact ⟨h4,h6,h7,h10⟩
theorem Qur {e:Qv5} {w:Qv7} (h:Eo e) (hw:Zw w=true) (hb:¬ w.Boot < e.PeerBoot):Eo (Qis (Qet e w) w):=by
  obtain ⟨w1,w2,w3,w4⟩:=Qlv hw;have hh:=h.heard;have key:∀ y:Qv5,Eo { y with PeerBoot:=0,PeerTurn:=0,Left:=0,Up:=false,Heard:=[],Keep:=0 }→(1≤y.PeerBoot∧y.PeerBoot≤999)→(∀ l,l ≠ 0→Ro l y.Keep y.Heard)→Eo (Qis y w):=fun y hy hpb hr=>by
    refine { hy with pturn:=?_,pboot:=?_,pp:=?_,left:=?_,lp:=?_,up:=?_,heard:=hr 4 (by decide) }
    · show 0≤w.Turn∧w.Turn≤1000000; omega
    · show 0≤y.PeerBoot∧y.PeerBoot≤999; omega
    · show y.PeerBoot=0 ↔ w.Turn=0; omega
    · show (0:Int)≤4∧(4:Int)≤4; decide
    · intro q;have q:y.PeerBoot=0:=q;omega
    · intro _; show (4:Int) ≠ 0; decide
  have zr:∀ y:Qv5,Eo y→Eo { y with PeerBoot:=0,PeerTurn:=0,Left:=0,Up:=false,Heard:=[],Keep:=0 }:=fun y hy =>
    { hy with pturn:=(by show (0:Int)≤0∧(0:Int)≤1000000; decide),pboot:=(by show (0:Int)≤0∧(0:Int)≤999; decide),pp:=⟨fun _=>rfl,fun _=>rfl⟩,left:=(by show (0:Int)≤0∧(0:Int)≤4; decide),lp:=fun _=>rfl,up:=fun q=>(by cases q),heard:=Qlt _ }
  unfold Qet;have hp:=h.pboot
  by_cases c:w.Boot > e.PeerBoot
  · rw [if_pos c];refine key _ ?_ ?_ fun l _=>Qnl hh l
    · exact zr (Qqv e) (QrG h.name h.peer h.ne h.keys h.boot h.turn h.pturn h.pboot h.pp h.left h.lp h.want hh)
    · show 1≤w.Boot∧w.Boot≤999; omega
  · rw [if_neg c];exact key e (zr e h) (by omega) fun l hl=>⟨{ hh.rt with live:=fun _ _=>.inr hl },hh.keep,hh.any⟩
theorem QrJ {e:Qv5} (h:Eo e):Eo (Qeu e):={ h with under:=rfl,nu:=fun _=>rfl,told:=h.ap,ap:=h.ap }
theorem QrK {e:Qv5} {w:Qv7} (h:Eo e) (hl:e.Left ≠ 0) (hw:Zw w=true):Ek (QcR e w):=by
  obtain ⟨w1,w2,w3,w4⟩:=Qlv hw;unfold QcR;split
  · split
    · obtain ⟨r1,r2⟩:=Qup hl h.heard.rt w4;refine ⟨{ h with got:=?_,heard:=Qlt _ },r1,h.heard.keep,fun q=>?_⟩
      · show 0≤w.Num∧w.Num≤1000000; omega
      · obtain ⟨x,hx,hs⟩:=Qdn.1 q;exact h.heard.any.2 (Qdn.2 ⟨x,r2 x hx hs,hs⟩)
    · exact Qve h
  · exact Qve h
theorem QrL {e:Qv5} {w:Qv7} (h:Eo e) (hw:Zw w=true) (hb:¬ w.Boot < e.PeerBoot):Eo (Qa9 (Qet e w) w):=by
  have hu:=Qur h hw hb;unfold Qa9;split
  · refine Quq (QrK ?_ ?_ hw)
    · unfold QcQ;split
      · exact QrJ hu
      · exact hu
    · unfold QcQ;split
      · show (4:Int) ≠ 0; decide
      · show (4:Int) ≠ 0; decide
  · exact hu
theorem Qom {e:Qv5} {w:Qv7} (h:Qel e w=true):Zw w=true∧¬ w.Boot < e.PeerBoot:=by
  simp only [Qel,Zk,Bool.and_eq_true,Bool.or_eq_true,decide_eq_true_eq,beq_iff_eq] at h;exact ⟨h.1.1.1.2.1.2,by omega⟩
theorem Qus {e:Qv5} {w:Qv7} (h:Eo e):Eo (ZJ e w):=by
  unfold ZJ;rw [if_pos (JX.2 h)];split
  · rename_i c;obtain ⟨q1,q2⟩:=Qom c;exact QrL h q1 q2
  · exact h
end Go.Proofs.YtjgjdobkahdgfaaGreat
