/-
  Plain Lean: cheapest ways in a net, by rounds over its links; of no program.
-/
import Derived.Test.YtejhbiefhpgjeaaGreatKz5
import Derived.Test.YtejhbiefhpgjeaaGreatTreeD3z
import Derived.Test.YtejhbiefhpgjeaaGreatMkz
set_option linter.all false
namespace Go.Proofs.YtejhbiefhpgjeaaGreat
open Go Go.Ab
set_option maxHeartbeats 400000
structure Net where
  n:Nat
  m:Nat
  op:Nat→Bool
  a:Nat→Nat
  b:Nat→Nat
  c:Nat→Int
structure Net.Ok (N:Net):Prop where
  an:∀ i,i < N.m→N.a i < N.n
  bn:∀ i,i < N.m→N.b i < N.n
  ab:∀ i,i < N.m→N.a i ≠ N.b i
  c1:∀ i,i < N.m→1≤N.c i
  c2:∀ i,i < N.m→N.c i≤50
def far:Int:=1073741824
def relL (D:List Int) (a b:Nat) (c:Int):List Int:=(D.set a (min (D.getD a default) (D.getD b default+c))).set b (min (D.getD b default) (D.getD a default+c))
def Net.link (N:Net) (D:List Int) (i:Nat):List Int:=if N.op i=true then relL D (N.a i) (N.b i) (N.c i) else D
def Net.part (N:Net) (D:List Int) (j:Nat):List Int:=(List.range j).foldl N.link D
def Net.round (N:Net) (D:List Int):List Int:=N.part D N.m
def Net.init (N:Net) (r:Nat):List Int:=(List.replicate N.n far).set r 0
def Net.after (N:Net) (r k:Nat):List Int:=(List.range k).foldl (fun D _=>N.round D) (N.init r)
def Net.costs (N:Net) (r:Nat):List Int:=N.after r N.n
theorem getD_ne {α:Type} [Inhabited α] {xs:List α} {i j:Nat} {v:α} (h:i ≠ j):(xs.set i v).getD j default=xs.getD j default:=by
  simp [List.getD_eq_getElem?_getD,List.getElem?_set,h]
theorem list_ext {xs ys:List Int} (hl:xs.length=ys.length) (h:∀ i,i < xs.length→xs.getD i default=ys.getD i default):xs=ys:=by
  refine List.ext_getElem hl fun i h1 h2=>?_;have:=h i h1;rwa [List.getD_eq_getElem?_getD,List.getD_eq_getElem?_getD,List.getElem?_eq_getElem h1,List.getElem?_eq_getElem h2] at this
theorem relL_len {D:List Int} {a b:Nat} {c:Int}:(relL D a b c).length=D.length:=by simp [relL]
theorem relL_get {D:List Int} {a b:Nat} {c:Int} (ha:a < D.length) (hb:b < D.length) (hab:a ≠ b) (v:Nat):(relL D a b c).getD v default =
    if v=b then min (D.getD b default) (D.getD a default+c) else if v=a then min (D.getD a default) (D.getD b default+c) else D.getD v default:=by
  unfold relL
  by_cases h1:v=b
  · subst h1; rw [if_pos rfl,getD_set (by simpa using hb)]
  · rw [if_neg h1,getD_ne (Ne.symm h1)]
    by_cases h2:v=a
    · subst h2; rw [if_pos rfl,getD_set ha]
    · rw [if_neg h2,getD_ne (Ne.symm h2)]
theorem Net.link_len {N:Net} {D:List Int} {i:Nat}:(N.link D i).length=D.length:=by
  unfold Net.link;split
  · exact relL_len
  · rfl
theorem Net.part_zero {N:Net} {D:List Int}:N.part D 0=D:=rfl
theorem Net.part_succ {N:Net} {D:List Int} {j:Nat}:N.part D (j+1)=N.link (N.part D j) j:=by simp [Net.part,List.range_succ,List.foldl_append]
theorem Net.part_len {N:Net} {D:List Int}:∀ {j:Nat},(N.part D j).length=D.length
  | 0=>rfl
  | j+1=>by rw [Net.part_succ,Net.link_len,Net.part_len]
theorem Net.round_len {N:Net} {D:List Int}:(N.round D).length=D.length:=Net.part_len
theorem Net.init_len {N:Net} {r:Nat}:(N.init r).length=N.n:=by simp [Net.init]
theorem Net.after_zero {N:Net} {r:Nat}:N.after r 0=N.init r:=rfl
theorem Net.after_succ {N:Net} {r k:Nat}:N.after r (k+1)=N.round (N.after r k):=by simp [Net.after,List.range_succ,List.foldl_append]
theorem Net.after_len {N:Net} {r:Nat}:∀ {k:Nat},(N.after r k).length=N.n
  | 0=>Net.init_len
  | k+1=>by rw [Net.after_succ,Net.round_len,Net.after_len]
theorem Net.link_le {N:Net} (hN:N.Ok) {D:List Int} (hD:D.length=N.n) {i:Nat} (hi:i < N.m) (v:Nat):(N.link D i).getD v default≤D.getD v default:=by
  unfold Net.link;split
  · rw [relL_get (by rw [hD]; exact hN.an i hi) (by rw [hD]; exact hN.bn i hi) (hN.ab i hi)];split
    · rename_i h; subst h; omega
    · split
      · rename_i h; subst h; omega
      · exact Int.le_refl _
  · exact Int.le_refl _
theorem Net.part_le {N:Net} (hN:N.Ok) {D:List Int} (hD:D.length=N.n) {v i:Nat}:∀ {j:Nat},i≤j→j≤N.m→(N.part D j).getD v default≤(N.part D i).getD v default
  | 0,h,_=>by
    have:i=0:=by omega
    subst this; exact Int.le_refl _
  | j+1,h,hj=>by
    by_cases h1:i=j+1
    · subst h1; exact Int.le_refl _
    · rw [Net.part_succ];exact Int.le_trans (N.link_le hN (by rw [Net.part_len,hD]) (by omega) v) (N.part_le hN hD (by omega) (by omega))
theorem Net.round_le {N:Net} (hN:N.Ok) {D:List Int} (hD:D.length=N.n) (v:Nat):(N.round D).getD v default≤D.getD v default:=N.part_le hN hD (Nat.zero_le _) (Nat.le_refl _)
theorem Net.after_le {N:Net} (hN:N.Ok) {r v i:Nat}:∀ {j:Nat},i≤j→(N.after r j).getD v default≤(N.after r i).getD v default
  | 0,h=>by
    have:i=0:=by omega
    subst this; exact Int.le_refl _
  | j+1,h=>by
    by_cases h1:i=j+1
    · subst h1; exact Int.le_refl _
    · rw [Net.after_succ];exact Int.le_trans (N.round_le hN Net.after_len v) (N.after_le hN (by omega))
def Net.Stable (N:Net) (D:List Int):Prop:=∀ i,i < N.m→N.link D i=D
theorem Net.stable_of {N:Net} (hN:N.Ok) {D:List Int} (hD:D.length=N.n) (h:N.round D=D):N.Stable D:=by
  have key:∀ j,j≤N.m→N.part D j=D:=fun j hj=>list_ext Net.part_len fun v _=>by
    have h1:=N.part_le hN hD (v:=v) hj (Nat.le_refl _);have h2:=N.part_le hN hD (v:=v) (i:=0) (j:=j) (Nat.zero_le _) hj;have h3:N.part D N.m=D:=h;rw [h3] at h1;rw [Net.part_zero] at h2;exact Int.le_antisymm h2 h1
  intro i hi;have:=key (i+1) hi;rwa [Net.part_succ,key i (by omega)] at this
theorem Net.round_stable {N:Net} {D:List Int} (h:N.Stable D):N.round D=D:=by
  have key:∀ j,j≤N.m→N.part D j=D:=by
    intro j
    induction j with
    | zero=>exact fun _=>rfl
    | succ j ih=>exact fun hj=>by rw [Net.part_succ,ih (by omega),h j (by omega)]
  exact key _ (Nat.le_refl _)
theorem Net.after_stable {N:Net} {r k:Nat} (h:N.Stable (N.after r k)):∀ {j:Nat},k≤j→N.after r j=N.after r k
  | 0,hj=>by
    have:k=0:=by omega
    subst this; rfl
  | j+1,hj=>by
    by_cases h1:k=j+1
    · subst h1; rfl
    · rw [Net.after_succ,N.after_stable h (by omega),Net.round_stable h]
theorem Net.stable_ab {N:Net} (hN:N.Ok) {D:List Int} (hD:D.length=N.n) (h:N.Stable D) {i:Nat} (hi:i < N.m) (ho:N.op i=true):D.getD (N.a i) default≤D.getD (N.b i) default+N.c i∧D.getD (N.b i) default≤D.getD (N.a i) default+N.c i:=by
  have e:=h i hi;unfold Net.link at e;rw [if_pos ho] at e;have ha:=relL_get (c:=N.c i) (by rw [hD]; exact hN.an i hi) (by rw [hD]; exact hN.bn i hi) (hN.ab i hi) (N.a i);have hb:=relL_get (c:=N.c i) (by rw [hD]; exact hN.an i hi) (by rw [hD]; exact hN.bn i hi) (hN.ab i hi) (N.b i);rw [e,if_neg (hN.ab i hi),if_pos rfl] at ha;rw [e,if_pos rfl] at hb;omega
structure Net.Inv (N:Net) (r:Nat) (D:List Int):Prop where
  len:D.length=N.n
  lo:∀ v,v < N.n→0≤D.getD v default
  hi:∀ v,v < N.n→D.getD v default≤far
  root:D.getD r default=0
  up:∀ v,v < N.n→v ≠ r→D.getD v default < far→∃ i,i < N.m∧N.op i=true∧((v=N.a i∧D.getD (N.b i) default+N.c i≤D.getD v default) ∨ (v=N.b i∧D.getD (N.a i) default+N.c i≤D.getD v default))
theorem Net.inv_init {N:Net} {r:Nat} (hr:r < N.n):N.Inv r (N.init r):=by
  have g0:(N.init r).getD r default=0:=by unfold Net.init; exact getD_set (by simpa using hr)
  have g1:∀ v,v < N.n→v ≠ r→(N.init r).getD v default=far:=fun v hv h=>by
    unfold Net.init;rw [getD_ne (Ne.symm h)];simp [List.getD_eq_getElem?_getD,List.getElem?_replicate,hv]
  refine ⟨Net.init_len,fun v hv=>?_,fun v hv=>?_,g0,fun v hv h hl=>?_⟩
  · by_cases h:v=r
    · rw [h,g0]; decide
    · rw [g1 v hv h]; decide
  · by_cases h:v=r
    · rw [h,g0]; decide
    · rw [g1 v hv h]; decide
  · rw [g1 v hv h] at hl;exact absurd hl (by decide)
theorem Net.inv_link {N:Net} (hN:N.Ok) {r:Nat} {D:List Int} (h:N.Inv r D) {i:Nat} (hi:i < N.m):N.Inv r (N.link D i):=by
  have le:=N.link_le hN h.len hi;unfold Net.link at le ⊢
  by_cases ho:N.op i=true
  · rw [if_pos ho] at le ⊢;have get:=relL_get (c:=N.c i) (by rw [h.len]; exact hN.an i hi) (by rw [h.len]; exact hN.bn i hi) (hN.ab i hi);have c1:=hN.c1 i hi;have la:=h.lo _ (hN.an i hi);have lb:=h.lo _ (hN.bn i hi);have lo:∀ v,v < N.n→0≤(relL D (N.a i) (N.b i) (N.c i)).getD v default:=fun v hv=>by
      have:=h.lo v hv;rw [get];split
      · omega
      · split <;> omega
    refine ⟨relL_len.trans h.len,lo,fun v hv=>Int.le_trans (le v) (h.hi v hv),?_,fun v hv hr hf=>?_⟩
    · have:=le r;rw [h.root] at this;rw [get];have hr:=h.root;split
      · rename_i e; rw [e] at hr; omega
      · split
        · rename_i e; rw [e] at hr; omega
        · exact hr
    · have old:D.getD v default < far→(relL D (N.a i) (N.b i) (N.c i)).getD v default=D.getD v default→∃ k,k < N.m∧N.op k=true∧((v=N.a k∧(relL D (N.a i) (N.b i) (N.c i)).getD (N.b k) default+N.c k≤(relL D (N.a i) (N.b i) (N.c i)).getD v default) ∨ (v=N.b k∧(relL D (N.a i) (N.b i) (N.c i)).getD (N.a k) default+N.c k≤(relL D (N.a i) (N.b i) (N.c i)).getD v default)):=fun hf e=>by
        obtain ⟨k,hk,ok,hx⟩:=h.up v hv hr hf;have l1:=le (N.b k);have l2:=le (N.a k);refine ⟨k,hk,ok,?_⟩;rw [e];rcases hx with ⟨e,hx⟩ | ⟨e,hx⟩
        · exact .inl ⟨e,by omega⟩
        · exact .inr ⟨e,by omega⟩
      have gv:=get v
      by_cases h1:v=N.b i
      · rw [if_pos h1] at gv
        by_cases h2:D.getD (N.a i) default+N.c i < D.getD (N.b i) default
        · refine ⟨i,hi,ho,.inr ⟨h1,?_⟩⟩;have:=le (N.a i);omega
        · have e:(relL D (N.a i) (N.b i) (N.c i)).getD v default=D.getD v default:=by rw [gv,h1]; omega
          exact old (by rw [← e]; exact hf) e
      · rw [if_neg h1] at gv
        by_cases h3:v=N.a i
        · rw [if_pos h3] at gv
          by_cases h2:D.getD (N.b i) default+N.c i < D.getD (N.a i) default
          · refine ⟨i,hi,ho,.inl ⟨h3,?_⟩⟩;have:=le (N.b i);omega
          · have e:(relL D (N.a i) (N.b i) (N.c i)).getD v default=D.getD v default:=by rw [gv,h3]; omega
            exact old (by rw [← e]; exact hf) e
        · rw [if_neg h3] at gv;exact old (by rw [← gv]; exact hf) gv
  · rw [if_neg ho] at le ⊢;exact h
theorem Net.inv_part {N:Net} (hN:N.Ok) {r:Nat} {D:List Int} (h:N.Inv r D):∀ {j:Nat},j≤N.m→N.Inv r (N.part D j)
  | 0,_=>h
  | j+1,hj=>by rw [Net.part_succ]; exact N.inv_link hN (N.inv_part hN h (by omega)) (by omega)
theorem Net.inv_after {N:Net} (hN:N.Ok) {r:Nat} (hr:r < N.n):∀ {k:Nat},N.Inv r (N.after r k)
  | 0=>N.inv_init hr
  | k+1=>by rw [Net.after_succ]; exact N.inv_part hN (N.inv_after hN hr) (Nat.le_refl _)
def sumN (D:List Int) (n:Nat):Nat:=((List.range n).map fun v=>(D.getD v default).toNat).sum
theorem sumN_succ {D:List Int} {n:Nat}:sumN D (n+1)=sumN D n+(D.getD n default).toNat:=by simp [sumN,List.range_succ]
theorem sumN_le {D E:List Int} (h:∀ v,E.getD v default≤D.getD v default):∀ n,sumN E n≤sumN D n
  | 0=>Nat.le_refl _
  | n+1=>by
    have:=sumN_le h n;have:=h n;rw [sumN_succ,sumN_succ]; omega
theorem sumN_lt {D E:List Int} (h:∀ v,E.getD v default≤D.getD v default):∀ {n v},v < n→0≤E.getD v default→E.getD v default < D.getD v default→sumN E n < sumN D n
  | 0,v,hv,_,_=>absurd hv (Nat.not_lt_zero _)
  | n+1,v,hv,h0,h1=>by
    rw [sumN_succ,sumN_succ]
    by_cases e:v=n
    · subst e;have:=sumN_le h v;omega
    · have:=sumN_lt h (n:=n) (by omega) h0 h1;have:=h n;omega
theorem Net.settles {N:Net} (hN:N.Ok) {r:Nat} (hr:r < N.n):∀ s k,sumN (N.after r k) N.n≤s→∃ K,N.Stable (N.after r K):=by
  intro s
  induction s with
  | zero =>
    intro k hk;refine ⟨k,N.stable_of hN Net.after_len (list_ext Net.round_len fun v hv=>?_)⟩;rw [Net.round_len,Net.after_len] at hv;have h1:=N.round_le hN (Net.after_len (r:=r) (k:=k)) v;have h2:=(N.inv_after hN hr (k:=k+1)).lo v hv;rw [Net.after_succ] at h2;refine Int.le_antisymm h1 (Int.not_lt.1 fun hl=>?_);have:=sumN_lt (N.round_le hN Net.after_len) hv h2 hl;omega
  | succ s ih =>
    intro k hk
    by_cases e:N.round (N.after r k)=N.after r k
    · exact ⟨k,N.stable_of hN Net.after_len e⟩
    · refine ih (k+1) ?_;rw [Net.after_succ];have:∃ v,v < N.n∧(N.round (N.after r k)).getD v default < (N.after r k).getD v default:=by
        refine Classical.byContradiction fun hn=>e (list_ext Net.round_len fun v hv=>?_);rw [Net.round_len,Net.after_len] at hv;refine Int.le_antisymm (N.round_le hN Net.after_len v) (Int.not_lt.1 fun hl=>hn ⟨v,hv,hl⟩)
      obtain ⟨v,hv,hl⟩:=this;have h2:=(N.inv_after hN hr (k:=k+1)).lo v hv;rw [Net.after_succ] at h2;have:=sumN_lt (N.round_le hN Net.after_len) hv h2 hl;omega
def cntN (p:Nat→Bool) (n:Nat):Nat:=((List.range n).filter p).length
theorem cntN_succ {p:Nat→Bool} {n:Nat}:cntN p (n+1)=cntN p n+if p n=true then 1 else 0:=by
  unfold cntN;rw [List.range_succ,List.filter_append]
  cases h:p n <;> simp [h]
theorem cntN_le {p q:Nat→Bool}:∀ {n},(∀ v,v < n→q v=true→p v=true)→cntN q n≤cntN p n
  | 0,_=>Nat.le_refl _
  | n+1,h=>by
    have:=cntN_le (p:=p) (q:=q) (n:=n) fun v hv=>h v (by omega);have hn:=h n (by omega);rw [cntN_succ,cntN_succ];split
    · rename_i hq; rw [if_pos (hn hq)]; omega
    · omega
theorem cntN_lt {p q:Nat→Bool}:∀ {n},(∀ v,v < n→q v=true→p v=true)→∀ {v},v < n→p v=true→q v=false→cntN q n < cntN p n
  | 0,_,v,hv,_,_=>absurd hv (Nat.not_lt_zero _)
  | n+1,h,v,hv,hp,hq=>by
    have h':∀ v,v < n→q v=true→p v=true:=fun v hv=>h v (by omega);rw [cntN_succ,cntN_succ]
    by_cases e:v=n
    · subst e;rw [if_pos hp,if_neg (by rw [hq]; decide)];have:=cntN_le h';omega
    · have:=cntN_lt h' (v:=v) (by omega) hp hq;have hn:=h n (by omega);split
      · rename_i hq; rw [if_pos (hn hq)]; omega
      · omega
theorem cntN_max {p:Nat→Bool}:∀ {n},cntN p n≤n
  | 0=>Nat.le_refl _
  | n+1=>by
    have:=cntN_max (p:=p) (n:=n);rw [cntN_succ];split <;> omega
theorem cntN_all {p:Nat→Bool} {n:Nat} (h:n≤cntN p n) {v:Nat} (hv:v < n):p v=true:=by
  refine Classical.byContradiction fun hp=>?_;have:=cntN_lt (p:=fun _=>true) (q:=p) (n:=n) (fun _ _ _=>rfl) hv rfl (by simpa using hp);have:=cntN_max (p:=fun _=>true) (n:=n);omega
theorem cntN_pos {p:Nat→Bool} {n v:Nat} (hv:v < n) (h:p v=true):1≤cntN p n:=by
  have:=cntN_lt (p:=p) (q:=fun _=>false) (n:=n) (fun _ _ h=>by cases h) hv h rfl;omega
theorem least {p:Nat→Prop} (f:Nat→Int) (h0:∀ v,p v→0≤f v):∀ {v},p v→∃ u,p u∧∀ x,p x→f u≤f x:=by
  have key:∀ k v,p v→(f v).toNat≤k→∃ u,p u∧∀ x,p x→f u≤f x:=by
    intro k
    induction k with
    | zero=>exact fun v hv hk=>⟨v,hv,fun x hx=>by have:=h0 x hx; have:=h0 v hv; omega⟩
    | succ k ih =>
      intro v hv hk
      by_cases h:∃ x,p x∧f x < f v
      · obtain ⟨x,hx,hl⟩:=h;exact ih x hx (by have:=h0 x hx; omega)
      · exact ⟨v,hv,fun x hx=>Int.not_lt.1 fun hl=>h ⟨x,hx,hl⟩⟩
  intro v hv;exact key _ v hv (Nat.le_refl _)
theorem Net.grows {N:Net} (hN:N.Ok) {r:Nat} (hr:r < N.n) {K:Nat} (hK:N.Stable (N.after r K)) (k:Nat) :
    (∀ v,v < N.n→(N.after r k).getD v default=(N.after r K).getD v default) ∨ ∃ v,v < N.n∧(N.after r k).getD v default ≠ (N.after r K).getD v default∧(N.after r (k+1)).getD v default=(N.after r K).getD v default:=by
  by_cases h:∀ v,v < N.n→(N.after r k).getD v default=(N.after r K).getD v default
  · exact .inl h
  · right
    have below:∀ j v,(N.after r K).getD v default≤(N.after r j).getD v default:=fun j v=>by
      by_cases hj:j≤K
      · exact N.after_le hN hj
      · rw [N.after_stable hK (j:=j) (by omega)]; exact Int.le_refl _
    have ex:∃ v,v < N.n∧(N.after r k).getD v default ≠ (N.after r K).getD v default:=Classical.byContradiction fun hn=>h fun v hv=>Classical.byContradiction fun e=>hn ⟨v,hv,e⟩;obtain ⟨v0,hv0⟩:=ex;have iK:=N.inv_after hN hr (k:=K);have ik:=N.inv_after hN hr (k:=k);obtain ⟨v,⟨hv,hne⟩,hmin⟩:=least (p:=fun v=>v < N.n∧(N.after r k).getD v default ≠ (N.after r K).getD v default) (fun v=>(N.after r K).getD v default) (fun v h=>iK.lo v h.1) hv0;refine ⟨v,hv,hne,?_⟩;have hvr:v ≠ r:=fun e=>hne (by rw [e,ik.root,iK.root]);have hfar:(N.after r K).getD v default < far:=by
      have h1:=below k v;have h2:=ik.hi v hv;omega
    obtain ⟨i,hi,ho,hx⟩:=iK.up v hv hvr hfar;have c1:=hN.c1 i hi;have close:∀ u,u < N.n→(N.after r K).getD u default < (N.after r K).getD v default→(N.after r k).getD u default=(N.after r K).getD u default:=fun u hu hl=>Classical.byContradiction fun e=>by
      have:=hmin u ⟨hu,e⟩;omega
    have mid:∀ u,u < N.n→(N.after r k).getD u default=(N.after r K).getD u default→(N.part (N.after r k) i).getD u default≤(N.after r K).getD u default:=fun u hu e=>by
      have:=N.part_le hN (Net.after_len (r:=r) (k:=k)) (v:=u) (i:=0) (j:=i) (Nat.zero_le _) (by omega);rw [Net.part_zero] at this;omega
    have get:=relL_get (c:=N.c i) (D:=N.part (N.after r k) i) (by rw [Net.part_len,Net.after_len]; exact hN.an i hi) (by rw [Net.part_len,Net.after_len]; exact hN.bn i hi) (hN.ab i hi);have last:(N.after r (k+1)).getD v default≤(relL (N.part (N.after r k) i) (N.a i) (N.b i) (N.c i)).getD v default:=by
      have:=N.part_le hN (Net.after_len (r:=r) (k:=k)) (v:=v) (i:=i+1) (j:=N.m) hi (Nat.le_refl _);rw [Net.part_succ,Net.link,if_pos ho] at this;rw [Net.after_succ];exact this
    rw [get] at last;refine Int.le_antisymm ?_ (below _ _);rcases hx with ⟨e,hx⟩ | ⟨e,hx⟩
    · have:=mid (N.b i) (hN.bn i hi) (close _ (hN.bn i hi) (by omega));rw [if_neg (by rw [e]; exact hN.ab i hi),if_pos e] at last;omega
    · have:=mid (N.a i) (hN.an i hi) (close _ (hN.an i hi) (by omega));rw [if_pos e] at last;omega
theorem Net.final {N:Net} (hN:N.Ok) {r:Nat} (hr:r < N.n):N.Stable (N.costs r):=by
  obtain ⟨K,hK⟩:=N.settles hN hr _ 0 (Nat.le_refl _);have below:∀ j v,(N.after r K).getD v default≤(N.after r j).getD v default:=fun j v=>by
    by_cases hj:j≤K
    · exact N.after_le hN hj
    · rw [N.after_stable hK (j:=j) (by omega)]; exact Int.le_refl _
  have stay:∀ {i j v},i≤j→(N.after r i).getD v default=(N.after r K).getD v default→(N.after r j).getD v default=(N.after r K).getD v default:=fun {i j v} hij e=>by
    have h1:=N.after_le hN (r:=r) (v:=v) hij;have h2:=below j v;omega
  have cnt:∀ k,k+1≤cntN (fun v=>decide ((N.after r k).getD v default=(N.after r K).getD v default)) N.n ∨ N.n≤cntN (fun v=>decide ((N.after r k).getD v default=(N.after r K).getD v default)) N.n:=by
    intro k
    induction k with
    | zero =>
      left
      refine cntN_pos hr ?_;rw [decide_eq_true_eq,(N.inv_after hN hr (k:=0)).root,(N.inv_after hN hr (k:=K)).root]
    | succ k ih =>
      have mono:=cntN_le (p:=fun v=>decide ((N.after r (k+1)).getD v default=(N.after r K).getD v default)) (q:=fun v=>decide ((N.after r k).getD v default=(N.after r K).getD v default)) (n:=N.n) fun v _ h=>by
        rw [decide_eq_true_eq] at h ⊢;exact stay (Nat.le_succ k) h
      rcases N.grows hN hr hK k with h | ⟨v,hv,hne,heq⟩
      · right
        have:N.n≤cntN (fun v=>decide ((N.after r k).getD v default=(N.after r K).getD v default)) N.n:=by
          have:=cntN_le (p:=fun v=>decide ((N.after r k).getD v default=(N.after r K).getD v default)) (q:=fun _=>true) (n:=N.n) fun v hv _=>by rw [decide_eq_true_eq]; exact h v hv
          have:cntN (fun _=>true) N.n=N.n:=by unfold cntN; rw [List.filter_eq_self.2 (fun _ _=>rfl),List.length_range]
          omega
        omega
      · have lt:=cntN_lt (p:=fun v=>decide ((N.after r (k+1)).getD v default=(N.after r K).getD v default)) (q:=fun v=>decide ((N.after r k).getD v default=(N.after r K).getD v default)) (n:=N.n) (fun v _ h=>by
          rw [decide_eq_true_eq] at h ⊢;exact stay (Nat.le_succ k) h) hv (by rw [decide_eq_true_eq]; exact heq) (by rw [decide_eq_false_iff_not]; exact hne)
        rcases ih with ih | ih
        · left; omega
        · right; omega
  have all:N.costs r=N.after r K:=list_ext (by rw [Net.costs,Net.after_len,Net.after_len]) fun v hv=>by
    rw [Net.costs,Net.after_len] at hv;have h:N.n≤cntN (fun v=>decide ((N.after r N.n).getD v default=(N.after r K).getD v default)) N.n:=by
      rcases cnt N.n with h | h
      · omega
      · exact h
    have:=cntN_all h hv;rw [decide_eq_true_eq] at this;exact this
  rw [all];exact hK
theorem Net.tight {N:Net} (hN:N.Ok) {r:Nat} (hr:r < N.n) {v:Nat} (hv:v < N.n) (hvr:v ≠ r) (hf:(N.costs r).getD v default < far) :
    ∃ i,i < N.m∧N.op i=true∧((v=N.a i∧(N.costs r).getD (N.b i) default+N.c i=(N.costs r).getD v default) ∨ (v=N.b i∧(N.costs r).getD (N.a i) default+N.c i=(N.costs r).getD v default)):=by
  obtain ⟨i,hi,ho,hx⟩:=(N.inv_after hN hr (k:=N.n)).up v hv hvr hf;have st:=N.stable_ab hN Net.after_len (N.final hN hr) hi ho;refine ⟨i,hi,ho,?_⟩;unfold Net.costs at st ⊢;rcases hx with ⟨e,hx⟩ | ⟨e,hx⟩
  · refine .inl ⟨e,?_⟩;rw [e] at hx ⊢;omega
  · refine .inr ⟨e,?_⟩;rw [e] at hx ⊢;omega
def Bd (k:Nat) (D:List Int):Prop:=∀ v,v < D.length→0≤D.getD v default∧(D.getD v default=far ∨ D.getD v default≤50*(k:Int))
theorem Net.bd_link {N:Net} (hN:N.Ok) {D:List Int} (hD:D.length=N.n) {k:Nat} (h:Bd k D) {i:Nat} (hi:i < N.m):Bd (k+1) (N.link D i):=by
  intro v hv;rw [Net.link_len] at hv;have hh:=h v hv;unfold Net.link;split
  · rw [relL_get (by rw [hD]; exact hN.an i hi) (by rw [hD]; exact hN.bn i hi) (hN.ab i hi)];have ha:=h (N.a i) (by rw [hD]; exact hN.an i hi);have hb:=h (N.b i) (by rw [hD]; exact hN.bn i hi);have c1:=hN.c1 i hi;have c2:=hN.c2 i hi;unfold far at *;split
    · omega
    · split <;> omega
  · omega
theorem Net.bd_part {N:Net} (hN:N.Ok) {D:List Int} (hD:D.length=N.n) {k:Nat} (h:Bd k D):∀ {j:Nat},j≤N.m→Bd (k+j) (N.part D j)
  | 0,_=>h
  | j+1,hj=>by rw [Net.part_succ]; exact N.bd_link hN (Net.part_len.trans hD) (N.bd_part hN hD h (by omega)) (by omega)
theorem Net.bd_after {N:Net} (hN:N.Ok) {r:Nat} (hr:r < N.n):∀ {k:Nat},Bd (k*N.m) (N.after r k)
  | 0=>fun v hv=>by
    have i:=N.inv_init (r:=r) hr;rw [Net.after_zero,Net.init_len] at hv;rw [Net.after_zero];refine ⟨i.lo v hv,?_⟩
    by_cases h:v=r
    · right; rw [h,i.root]; omega
    · left
      unfold Net.init;rw [getD_ne (Ne.symm h)];simp [List.getD_eq_getElem?_getD,List.getElem?_replicate,hv]
  | k+1=>by
    rw [Net.after_succ,show (k+1)*N.m=k*N.m+N.m by rw [Nat.succ_mul]];exact N.bd_part hN Net.after_len (N.bd_after hN hr) (Nat.le_refl _)
theorem Net.back {N:Net} (hN:N.Ok) (hm:N.n*N.m≤1000) {r s:Nat} (hr:r < N.n) (hs:s < N.n):∀ {v},v < N.n→(N.costs r).getD v default < far→(N.costs s).getD v default < far→(N.costs s).getD r default < far:=by
  have key:∀ k v,v < N.n→((N.costs r).getD v default).toNat≤k→(N.costs r).getD v default < far→(N.costs s).getD v default < far→(N.costs s).getD r default < far:=by
    intro k
    induction k with
    | zero =>
      intro v hv hk hf hg
      by_cases e:v=r
      · rw [← e]; exact hg
      · obtain ⟨i,hi,ho,hx⟩:=N.tight hN hr hv e hf;have c1:=hN.c1 i hi;have la:=(N.inv_after hN hr (k:=N.n)).lo _ (hN.an i hi);have lb:=(N.inv_after hN hr (k:=N.n)).lo _ (hN.bn i hi);unfold Net.costs at *;omega
    | succ k ih =>
      intro v hv hk hf hg
      by_cases e:v=r
      · rw [← e]; exact hg
      · obtain ⟨i,hi,ho,hx⟩:=N.tight hN hr hv e hf;have c1:=hN.c1 i hi;have c2:=hN.c2 i hi;have la:=(N.inv_after hN hr (k:=N.n)).lo _ (hN.an i hi);have lb:=(N.inv_after hN hr (k:=N.n)).lo _ (hN.bn i hi);have st:=N.stable_ab hN Net.after_len (N.final hN hs) hi ho;have ba:=N.bd_after hN hs (k:=N.n) v (by rw [Net.after_len]; exact hv);have bm:(50:Int)*((N.n*N.m:Nat):Int)≤50000:=by omega
        rcases hx with ⟨e,hx⟩ | ⟨e,hx⟩
        · refine ih (N.b i) (hN.bn i hi) ?_ ?_ ?_
          · unfold Net.costs at *; omega
          · unfold Net.costs at *; omega
          · rw [e] at ba hg;unfold Net.costs far at *;omega
        · refine ih (N.a i) (hN.an i hi) ?_ ?_ ?_
          · unfold Net.costs at *; omega
          · unfold Net.costs at *; omega
          · rw [e] at ba hg;unfold Net.costs far at *;omega
  intro v hv;exact key _ v hv (Nat.le_refl _)
end Go.Proofs.YtejhbiefhpgjeaaGreat
