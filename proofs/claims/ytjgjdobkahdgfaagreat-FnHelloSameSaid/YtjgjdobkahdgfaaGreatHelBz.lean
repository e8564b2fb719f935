/-
  Plain Lean: an end that hears, or speaks, stays ok; what it says is ok.
-/
import Derived.Test.YtjgjdobkahdgfaaGreatKz5
import Derived.Test.YtjgjdobkahdgfaaGreatHelAz
import Derived.Test.YtjgjdobkahdgfaaGreatHelWz
set_option linter.all false
namespace Go.Proofs.YtjgjdobkahdgfaaGreat
open Go Go.Ab
set_option maxHeartbeats 1000000
set_option maxRecDepth 100000
theorem QiM {a b:Qw8} (h:a.Addr=b.Addr) (k:a.Len=b.Len):lessE a b=false:=by
  simp [lessE,h,k]
theorem Qiv {a b c d:Qw8} (h:a.Addr=c.Addr∧a.Len=c.Len) (k:b.Addr=d.Addr∧b.Len=d.Len):lessE a b=lessE c d:=by
  simp only [lessE,h.1,h.2,k.1,k.2]
theorem Qoz {a b:Qw8} (h:lessE a b=false) (n:¬ (a.Addr=b.Addr∧a.Len=b.Len)):lessE b a=true:=by
  simp only [lessE,Bool.or_eq_false_iff,Bool.and_eq_false_iff,decide_eq_false_iff_not,beq_eq_false_iff_ne] at h;simp only [lessE,Bool.or_eq_true,Bool.and_eq_true,decide_eq_true_eq,beq_iff_eq];omega
section
variable {α:Type} [Inhabited α] {f:α→Qw8}
theorem Qsf {t:List α} (ho:Ord f t) {e:Qw8} (hh:Qbd f t e=false) {x:α} (hx:f x=e):Inc f (t.take (posK f t e) ++ [x] ++ t.drop (posK f t e)):=by
  have w3:=Qbz (f:=f) t e;have g:∀ k (h:k < t.length),t.getD k default=t[k]:=fun k h=>by rw [List.getD_eq_getElem?_getD,List.getElem?_eq_getElem h]; rfl
  have below:∀ y ∈ t.take (posK f t e),lessE (f y) e=true:=fun y hy=>by
    obtain ⟨i,hi,rfl⟩:=List.getElem_of_mem hy;rw [List.length_take] at hi;have:=Qiq (f:=f) (t:=t) (e:=e) (k:=i) (by omega);rw [g i (by omega)] at this;rw [List.getElem_take]; exact this
  have above:∀ y ∈ t.drop (posK f t e),lessE e (f y)=true:=fun y hy=>by
    obtain ⟨i,hi,rfl⟩:=List.getElem_of_mem hy;rw [List.length_drop] at hi;have:=Qml ho (e:=e) (k:=posK f t e+i) (by omega) (by omega);rw [List.getElem_drop];rw [g _ (by omega)] at this;refine Qoz this fun c=>?_;have:=(QdE ho (k:=posK f t e+i) (by omega) (by rw [g _ (by omega)]; exact c)).2;rw [hh] at this; cases this
  refine List.pairwise_append.2 ⟨List.pairwise_append.2 ⟨ho.ord.sublist (List.take_sublist _ _),List.pairwise_singleton _ _,fun y hy z hz=>?_⟩,ho.ord.sublist (List.drop_sublist _ _),fun y hy z hz=>?_⟩
  · rw [List.mem_singleton] at hz;subst hz;rw [hx]; exact below y hy
  · rcases List.mem_append.1 hy with q | q
    · exact Qc5 (below y q) (above z hz)
    · rw [List.mem_singleton] at q;subst q;rw [hx]; exact above z hz
theorem Qsg {t:List α} (ho:Inc f t) {k:Nat} (hk:k < t.length) {x:α} (hx:(f x).Addr=(f (t.getD k default)).Addr∧(f x).Len=(f (t.getD k default)).Len):Inc f (t.set k x):=by
  have g:t.getD k default=t[k]:=by rw [List.getD_eq_getElem?_getD,List.getElem?_eq_getElem hk]; rfl
  rw [g] at hx;refine List.pairwise_iff_getElem.2 fun i j hi hj hij=>?_;rw [List.length_set] at hi hj;have h:=List.pairwise_iff_getElem.1 ho i j hi hj hij;rw [List.getElem_set,List.getElem_set]
  by_cases c:k=i
  · subst c;rw [if_pos rfl,if_neg (by omega)];rw [← h]; exact Qiv hx ⟨rfl,rfl⟩
  · rw [if_neg c]
    by_cases c2:k=j
    · subst c2;rw [if_pos rfl];rw [← h]; exact Qiv ⟨rfl,rfl⟩ hx
    · rw [if_neg c2]; exact h
theorem Qiw {t:List α} {k:Nat} {x y:α} (h:y ∈ t.set k x):y ∈ t ∨ y=x:=List.mem_or_eq_of_mem_set h
theorem Qmr {t:List α} {k:Nat} {x y:α} (h:y ∈ t.take k ++ [x] ++ t.drop k):y ∈ t ∨ y=x:=by
  rcases List.mem_append.1 h with q | q
  · rcases List.mem_append.1 q with q | q
    · exact .inl (List.mem_of_mem_take q)
    · exact .inr (List.mem_singleton.1 q)
  · exact .inl (List.mem_of_mem_drop q)
end
theorem Qsh {l:Int} {t:List Qxa} (h:Rt l t):Ord rE t:=⟨h.ord,fun x hx=>Qat (h.ent x hx)⟩
theorem QeV {t:List Qw8} (h:To t):Ord idE t:=⟨h.ord,fun x hx=>Qat (h.ent x hx)⟩
theorem Qns {c:Qw9} (h:QT c=true) (k:c.Kind=1):entryOk c.Entry=true:=by
  unfold QT at h;rw [if_neg (by omega),if_pos k] at h;exact h
theorem QoA {l:Int} (hl:l ≠ 0) {t:List Qxa} (h:Rt l t) {c:Qw9} (hc:QT c=true):Rt l (Qcf t c).1∧∀ x ∈ (Qcf t c).1,x.Stale=true→x ∈ t:=by
  have ho:=Qsh h;have len:=Qji h.len c;have into:∀ s:List Qxa,Rt l s→Qbd rE s c.Entry=false→entryOk c.Entry=true→(Qkg s c.Entry).length≤16→Rt l (Qkg s c.Entry)∧∀ x ∈ Qkg s c.Entry,x.Stale=true→x ∈ s:=fun s hs hh he hn=>by
    refine ⟨⟨hn,fun x hx=>?_,Qsf (Qsh hs) hh rfl,fun x hx=>.inr hl⟩,fun x hx q=>?_⟩
    · rcases Qmr hx with q | q
      · exact hs.ent x q
      · rw [q]; exact he
    · rcases Qmr hx with p | p
      · exact p
      · rw [p] at q; cases q
  have sub:∀ s:List Qxa,s.Sublist t→Rt l s:=fun s hs=>⟨Nat.le_trans hs.length_le h.len,fun x hx=>h.ent x (hs.subset hx),h.ord.sublist hs,fun x hx=>h.live x (hs.subset hx)⟩;unfold Qcf at *
  by_cases c1:c.Kind=1
  · rw [if_pos c1] at *;have he:=Qns hc c1;unfold Qpz at *
    cases hh:Qbd rE t c.Entry
    · rw [hh] at len;simp only [Bool.false_eq_true,if_false] at len ⊢
      by_cases c2:t.length=16
      · rw [if_pos c2] at *
        cases hf:JM t with
        | none=>exact ⟨h,fun x hx _=>hx⟩
        | some s =>
          rw [hf] at len;dsimp only at len ⊢;obtain ⟨r1,r2⟩:=into (Qos t s) (sub _ (QdR t s)) (Qmo ho s hh) he len;exact ⟨r1,fun x hx q=>(QdR t s).subset (r2 x hx q)⟩
      · rw [if_neg c2] at *;exact into t h hh he len
    · obtain ⟨q1,q2,q3⟩:=J5.1 hh;rw [hh] at len;simp only [if_true] at len ⊢;refine ⟨⟨len,fun x hx=>?_,Qsg h.ord q1 ⟨q2.symm,q3.symm⟩,fun x hx=>.inr hl⟩,fun x hx q=>?_⟩
      · rcases Qiw hx with p | p
        · exact h.ent x p
        · rw [p]; exact he
      · rcases Qiw hx with p | p
        · exact p
        · rw [p] at q; cases q
  · rw [if_neg c1] at *
    by_cases c2:c.Kind=2
    · rw [if_pos c2] at *;dsimp only;split
      · exact ⟨sub _ (QdR _ _),fun x hx _=>(QdR _ _).subset hx⟩
      · exact ⟨h,fun x hx _=>hx⟩
    · rw [if_neg c2] at *;exact ⟨sub _ List.filter_sublist,fun x hx _=>(List.mem_filter.1 hx).1⟩
structure Ek (e:Qxb):Prop where
  eo:Eo { e with Heard:=[],Keep:=0 }
  rt:Rt e.Left e.Heard
  keep:0≤e.Keep∧e.Keep≤6
  any:Jj e.Heard=true→0 < e.Keep
theorem Qwn {e:Qxb} (h:Eo e):Ek e:=⟨{ h with heard:=Qly _ },h.heard.rt,h.heard.keep,fun q=>h.heard.any.2 q⟩
theorem Qvo {e:Qxb} (h:Ek e):Eo (kept e):=by
  unfold kept;have hk:=h.keep
  by_cases c:Jj e.Heard=true
  · rw [if_pos c];exact { h.eo with heard:=⟨h.rt,h.keep,⟨fun _=>c,fun _=>h.any c⟩⟩ }
  · rw [if_neg c];exact { h.eo with heard:=⟨h.rt,(by show (0:Int)≤0∧(0:Int)≤6; decide),⟨fun q=>absurd q (by show ¬ ((0:Int) < 0); decide),fun q=>absurd q c⟩⟩ }
theorem Qix {w:Qxd} (h:Z4 w=true):(1≤w.Boot∧w.Boot≤999)∧(1≤w.Turn∧w.Turn≤1000000)∧(0≤w.Num∧w.Num≤w.Turn)∧QT w.Change=true:=by
  simp only [Z4,Bool.and_eq_true,Jv] at h;obtain ⟨⟨⟨⟨⟨⟨⟨⟨⟨⟨h1,h2⟩,h3⟩,h4⟩,h5⟩,h6⟩,h7⟩,h8⟩,h9⟩,h10⟩,h11⟩:=h;exact ⟨h4,h6,h7,h10⟩
theorem QoB {e:Qxb} {w:Qxd} (h:Eo e) (hw:Z4 w=true) (hb:¬ w.Boot < e.PeerBoot):Eo (QfB (Jy e w) w):=by
  obtain ⟨w1,w2,w3,w4⟩:=Qix hw;have hh:=h.heard;have key:∀ y:Qxb,Eo { y with PeerBoot:=0,PeerTurn:=0,Left:=0,Up:=false,Heard:=[],Keep:=0 }→(1≤y.PeerBoot∧y.PeerBoot≤999)→(∀ l,l ≠ 0→Ro l y.Keep y.Heard)→Eo (QfB y w):=fun y hy hpb hr=>by
    refine { hy with pturn:=?_,pboot:=?_,pp:=?_,left:=?_,lp:=?_,up:=?_,heard:=hr 4 (by decide) }
    · show 0≤w.Turn∧w.Turn≤1000000; omega
    · show 0≤y.PeerBoot∧y.PeerBoot≤999; omega
    · show y.PeerBoot=0 ↔ w.Turn=0; omega
    · show (0:Int)≤4∧(4:Int)≤4; decide
    · intro q;have q:y.PeerBoot=0:=q;omega
    · intro _; show (4:Int) ≠ 0; decide
  have zr:∀ y:Qxb,Eo y→Eo { y with PeerBoot:=0,PeerTurn:=0,Left:=0,Up:=false,Heard:=[],Keep:=0 }:=fun y hy =>
    { hy with pturn:=(by show (0:Int)≤0∧(0:Int)≤1000000; decide),pboot:=(by show (0:Int)≤0∧(0:Int)≤999; decide),pp:=⟨fun _=>rfl,fun _=>rfl⟩,left:=(by show (0:Int)≤0∧(0:Int)≤4; decide),lp:=fun _=>rfl,up:=fun q=>(by cases q),heard:=Qly _ }
  unfold Jy;have hp:=h.pboot
  by_cases c:w.Boot > e.PeerBoot
  · rw [if_pos c];refine key _ ?_ ?_ fun l _=>Qnr hh l
    · exact zr (QqQ e) (Qsd h.name h.peer h.ne h.keys h.boot h.turn h.pturn h.pboot h.pp h.left h.lp h.want hh)
    · show 1≤w.Boot∧w.Boot≤999; omega
  · rw [if_neg c];exact key e (zr e h) (by omega) fun l hl=>⟨{ hh.rt with live:=fun _ _=>.inr hl },hh.keep,hh.any⟩
theorem Qsi {e:Qxb} (h:Eo e):Eo (Qei e):={ h with under:=rfl,nu:=fun _=>rfl,told:=h.ap,ap:=h.ap }
theorem Qsj {e:Qxb} {w:Qxd} (h:Eo e) (hl:e.Left ≠ 0) (hw:Z4 w=true):Ek (JN e w):=by
  obtain ⟨w1,w2,w3,w4⟩:=Qix hw;unfold JN;split
  · split
    · obtain ⟨r1,r2⟩:=QoA hl h.heard.rt w4;refine ⟨{ h with got:=?_,heard:=Qly _ },r1,h.heard.keep,fun q=>?_⟩
      · show 0≤w.Num∧w.Num≤1000000; omega
      · obtain ⟨x,hx,hs⟩:=QaJ.1 q;exact h.heard.any.2 (QaJ.2 ⟨x,r2 x hx hs,hs⟩)
    · exact Qwn h
  · exact Qwn h
theorem Qsk {e:Qxb} {w:Qxd} (h:Eo e) (hw:Z4 w=true) (hb:¬ w.Boot < e.PeerBoot):Eo (listenY (Jy e w) w):=by
  have hu:=QoB h hw hb;unfold listenY;split
  · refine Qvo (Qsj ?_ ?_ hw)
    · unfold JE;split
      · exact Qsi hu
      · exact hu
    · unfold JE;split
      · show (4:Int) ≠ 0; decide
      · show (4:Int) ≠ 0; decide
  · exact hu
theorem Qkm {e:Qxb} {w:Qxd} (h:Qct e w=true):Z4 w=true∧¬ w.Boot < e.PeerBoot:=by
  simp only [Qct,QN,Bool.and_eq_true,Bool.or_eq_true,decide_eq_true_eq,beq_iff_eq] at h;exact ⟨h.1.1.1.2.1.2,by omega⟩
theorem Qsl {e:Qxb} {w:Qxd} (h:Eo e):Eo (helloHear e w):=by
  unfold helloHear;rw [if_pos (Jw.2 h)];split
  · rename_i c;obtain ⟨q1,q2⟩:=Qkm c;exact Qsk h q1 q2
  · exact h
end Go.Proofs.YtjgjdobkahdgfaaGreat
