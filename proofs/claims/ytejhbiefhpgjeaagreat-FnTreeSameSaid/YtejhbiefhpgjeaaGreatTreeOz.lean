/-
  Plain Lean: the draw of a world's beginning always gives something; the row FnTreeOpen.
-/
import Derived.Test.YtejhbiefhpgjeaaGreatKz5
import Derived.Test.YtejhbiefhpgjeaaGreatTreeS4z
import Derived.Test.YtejhbiefhpgjeaaGreatTreeAz
import Derived.Test.YtejhbiefhpgjeaaGreatTreeP6z
import Derived.Test.YtejhbiefhpgjeaaGreatPoL81z
set_option linter.all false
namespace Go.Proofs.YtejhbiefhpgjeaaGreat
open Go Go.Ab
set_option maxHeartbeats 400000
theorem RdOk.mono {r:l81Rd} {k m:Int} (h:RdOk r k) (hm:k≤m):RdOk r m:=⟨h.bytes,h.len,h.p0,Int.le_trans h.p1 hm⟩
def farI (a x:Int):Int:=(x - a) % 1000
theorem filter_le {α:Type} {p q:α→Bool}:∀ {xs:List α},(∀ x ∈ xs,q x=true→p x=true)→(xs.filter q).length≤(xs.filter p).length
  | [],_=>Nat.le_refl _
  | x :: xs,h=>by
    have ih:=filter_le (xs:=xs) fun y hy=>h y (List.mem_cons_of_mem _ hy);have hx:=h x (List.mem_cons_self ..);rw [List.filter_cons,List.filter_cons]
    cases hq:q x
    · cases hp:p x
      · exact ih
      · exact Nat.le_succ_of_le ih
    · rw [if_pos rfl,if_pos (hx hq)];exact Nat.succ_le_succ ih
theorem filter_lt {α:Type} {p q:α→Bool}:∀ {xs:List α},(∀ x ∈ xs,q x=true→p x=true)→(∃ x ∈ xs,p x=true∧q x=false)→(xs.filter q).length < (xs.filter p).length
  | [],_,h=>by obtain ⟨x,hx,_⟩:=h; exact absurd hx (by simp)
  | x :: xs,h,⟨y,hy,hp,hq⟩=>by
    have h':∀ x ∈ xs,q x=true→p x=true:=fun y hy=>h y (List.mem_cons_of_mem _ hy);have hx:=h x (List.mem_cons_self ..);rw [List.filter_cons,List.filter_cons];rcases List.mem_cons.1 hy with rfl | hy
    · rw [if_neg (by rw [hq]; decide),if_pos hp];exact Nat.succ_le_succ (filter_le h')
    · have ih:=filter_lt (xs:=xs) h' ⟨y,hy,hp,hq⟩
      cases hq:q x
      · cases hp:p x
        · exact ih
        · exact Nat.lt_succ_of_lt ih
      · rw [if_pos rfl,if_pos (hx hq)];exact Nat.succ_lt_succ ih
theorem hasI_mem {xs:List Int} {a:Int} (h:hasI xs a=true):a ∈ xs:=by
  refine Classical.byContradiction fun hn=>?_;have:allR xs.length (fun i=>!(xs.getD i default == a))=true:=allR_of fun i hi=>by
    rw [Bool.not_eq_true',beq_eq_false_iff_ne,List.getD_eq_getElem?_getD,List.getElem?_eq_getElem hi];exact fun e=>hn (e ▸ List.getElem_mem hi)
  unfold hasI hasR at h;rw [this] at h;exact absurd h (by decide)
theorem freeId_post {xs:List Int} (hl:xs.length≤500) {a:Int} (h0:1≤a) (h1:a≤1000):Post (lp (σ:=Int) (β:=(Int)) (fun s12 =>
    bd (spec_l82Has_m xs s12) fun x16 =>
    (if x16=true then
    gd ((1000:Int) ≠ 0) <|
    some (.inl (IntKind.i64.wrap (((s12:Int).tmod 1000)+1)))
    else
    some (.inr s12))) a) fun x=>1≤x∧x≤1000∧hasI xs x=false:=by
  refine .lp (fun s=>1≤s∧s≤1000∧farI a s+((xs.filter fun x=>decide (farI a s≤farI a x)).length:Int)≤xs.length) (fun s=>(xs.filter fun x=>decide (farI a s≤farI a x)).length) ⟨h0,h1,?_⟩ fun s ⟨i1,i2,i3⟩=>?_
  · have:farI a a=0:=by unfold farI; omega
    rw [this];have:=List.length_filter_le (fun x=>decide (0≤farI a x)) xs;omega
  · rw [l82Has_p (by omega),bd_val];refine .ite (fun c=>.gd (by decide) (.ret ?_)) fun c=>.ret ⟨i1,i2,Bool.eq_false_iff.2 c⟩;have hm:=hasI_mem c;have et:s.tmod 1000=s % 1000:=Int.tmod_eq_emod_of_nonneg (by omega);have e:IntKind.i64.wrap (s.tmod 1000+1)=s % 1000+1:=by rw [et]; exact wrap_i64 (by omega) (by omega)
    rw [e];have hf:farI a (s % 1000+1)=farI a s+1:=by
      have:0≤((xs.filter fun x=>decide (farI a s≤farI a x)).length:Int):=by omega
      unfold farI at i3 ⊢;omega
    have lt:(xs.filter fun x=>decide (farI a (s % 1000+1)≤farI a x)).length < (xs.filter fun x=>decide (farI a s≤farI a x)).length:=by
      rw [hf];refine filter_lt (fun x _ h=>?_) ⟨s,hm,by simp,?_⟩
      · simp only [decide_eq_true_eq] at h ⊢; omega
      · simp only [decide_eq_false_iff_not]; omega
    refine ⟨⟨by omega,by omega,?_⟩,lt⟩;have:farI a (s % 1000+1)=farI a s+1:=hf;omega
theorem hasI_not {xs:List Int} {a:Int} (h:hasI xs a=false):a ∉ xs:=fun hm=>by
  obtain ⟨i,hi,e⟩:=List.getElem_of_mem hm;have:allR xs.length (fun i=>!(xs.getD i default == a))=false:=allR_false hi (by
    rw [List.getD_eq_getElem?_getD,List.getElem?_eq_getElem hi];simp [e])
  unfold hasI hasR at h;rw [this] at h;exact absurd h (by decide)
structure IdsDrawn (xs:List Int):Prop where
  lo:∀ x ∈ xs,1≤x∧x≤1000
  ne:xs.Pairwise (· ≠ ·)
theorem ids_post {r:l81Rd} {k n:Int} (h:RdOk r k) (hk:k≤1099511000000) (h0:0≤n) (hn:n≤400):Post (spec_l85Ids_m r n) fun x=>((x.1.length:Int)=n∧IdsDrawn x.1)∧RdOk ⟨r.b,x.2.p⟩ (k+3*n):=by
  unfold spec_l85Ids_m;refine .bd (Q:=fun x=>((x.2.1.length:Int)=n∧IdsDrawn x.2.1)∧RdOk ⟨r.b,x.2.2⟩ (k+3*n)) (.lp (fun s=>((s.1.length:Int)≤n∧IdsDrawn s.1)∧RdOk ⟨r.b,s.2⟩ (k+3*s.1.length)) (fun s=>(n - s.1.length).toNat) ⟨⟨by dsimp only; simpa using h0,by simp,by simp⟩,by simpa using h⟩ fun s ⟨⟨i1,i3⟩,i2⟩=>?_) fun x hx=>.ret hx;refine .ite (fun c=>?_) fun c=>.ret ?_
  · simp only [decide_eq_true_eq] at c;refine .bd (pick_post i2 (by omega) (by omega)) fun x5 ⟨g5,h5⟩=>?_;refine .bd (Q:=fun x=>(1≤x.2∧x.2≤1000)∧RdOk ⟨r.b,x.1⟩ (k+3*s.1.length+3)) (.bd (pick_post h5 (by omega) (by omega)) fun x9 ⟨_,h9⟩=>.ite (fun _=>.bd (pick_post h9 (by omega) (by omega)) fun x10 ⟨g10,h10⟩=>.gd ⟨g10.1,by simpa using g10.2⟩ (.ret ⟨?_,h10.mono (by omega)⟩)) fun _=>.ret ⟨?_,h9.mono (by omega)⟩) fun x6 ⟨g6,h6⟩=>?_
    · have:x10.1=0 ∨ x10.1=1 ∨ x10.1=2 ∨ x10.1=3:=by omega
      dsimp only;rcases this with e | e | e | e <;> rw [e] <;> decide
    · have:IntKind.i64.wrap (1+x5.1)=1+x5.1:=wrap_i64 (by omega) (by omega);dsimp only;omega
    · refine .bd (freeId_post (by omega) g6.1 g6.2) fun x15 ⟨f1,f2,f3⟩=>.gd (by simp; omega) (.ret ⟨⟨⟨?_,fun y hy=>?_,?_⟩,?_⟩,?_⟩)
      · simp only [List.length_append,List.length_singleton]; omega
      · rcases List.mem_append.1 hy with hy | hy
        · exact i3.lo y hy
        · rw [List.mem_singleton.1 hy]; exact ⟨f1,f2⟩
      · refine List.pairwise_append.2 ⟨i3.ne,by simp,fun y hy z hz=>?_⟩;rw [List.mem_singleton.1 hz];exact fun e=>hasI_not f3 (e ▸ hy)
      · simp only [List.length_append,List.length_singleton];exact h6.mono (by omega)
      · simp only [List.length_append,List.length_singleton]; omega
  · simp only [decide_eq_true_eq] at c;have e:(s.1.length:Int)=n:=by omega
    exact ⟨⟨e,i3⟩,by dsimp only; rw [← e]; exact i2⟩
theorem link_ok {n a b c:Int} (h1:0≤a) (h2:a < b) (h3:b < n) (h4:1≤c) (h5:c≤50):linkOk n ⟨a,b,c⟩=true:=by
  unfold linkOk;rw [inR_iff.2 ⟨h4,h5⟩];have e1:decide (a < 0)=false:=decide_eq_false (by omega);have e2:decide (a ≥ b)=false:=decide_eq_false (by omega);have e3:decide (b ≥ n)=false:=decide_eq_false (by omega);dsimp only;rw [e1,e2,e3]; rfl
def LinksDrawn (n:Int) (ls:List TreeLink):Prop:=ls.length≤12∧∀ l ∈ ls,linkOk n l=true
theorem drawn_app {n:Int} {ls:List TreeLink} (h:LinksDrawn n ls) (hl:ls.length < 12) {l:TreeLink} (hk:linkOk n l=true):LinksDrawn n (ls ++ [l]) :=
  ⟨by simp; omega,fun x hx=>by
    rcases List.mem_append.1 hx with hx | hx
    · exact h.2 x hx
    · rw [List.mem_singleton.1 hx]; exact hk⟩
theorem links_post {r:l81Rd} {k n:Int} (h:RdOk r k) (hk:k≤1099511000000) (h0:1≤n) (hn:n≤12):Post (spec_l85Links_m r n) fun x=>LinksDrawn n x.1∧RdOk ⟨r.b,x.2.p⟩ (k+2*n+20):=by
  unfold spec_l85Links_m;refine .bd (Q:=fun x=>LinksDrawn n x.2.1∧RdOk ⟨r.b,x.2.2⟩ (k+2*n)) (.lp (fun s=>(0≤s.2.2∧s.2.2≤n∧(s.1.length:Int)≤s.2.2∧LinksDrawn n s.1)∧RdOk ⟨r.b,s.2.1⟩ (k+2*s.2.2)) (fun s=>(n - s.2.2).toNat) ⟨⟨Int.le_refl _,by dsimp only; omega,by simp,by simp,by simp⟩,by simpa using h⟩ fun s ⟨⟨i1,i2,i3,i5⟩,i4⟩=>?_) fun x4 ⟨g4,h4⟩=>?_
  · have w:IntKind.i64.wrap (s.2.2+1)=s.2.2+1:=wrap_i64 (by omega) (by omega);rw [w];refine .ite (fun c=>?_) fun c=>.ret ⟨i5,i4.mono (by omega)⟩;simp only [decide_eq_true_eq] at c;refine .bd (pick_post i4 (by omega) (by omega)) fun x5 ⟨g5,h5⟩=>.ite (fun _=>.bd (pick_post h5 (by omega) (by omega)) fun x6 ⟨g6,h6⟩=>.gd (by simp; omega) (.ret ⟨⟨⟨by dsimp only; omega,by dsimp only; omega,?_,?_⟩,h6.mono (by dsimp only; omega)⟩,by dsimp only; omega⟩)) fun _=>.ret ⟨⟨⟨by dsimp only; omega,by dsimp only; omega,by dsimp only; omega,i5⟩,h5.mono (by dsimp only; omega)⟩,by dsimp only; omega⟩
    · simp only [List.length_append,List.length_singleton]; omega
    · have w6:IntKind.i64.wrap (1+x6.1)=1+x6.1:=wrap_i64 (by omega) (by omega);rw [w6];exact drawn_app i5 (by omega) (link_ok i1 (by omega) (by omega) (by omega) (by omega))
  · refine .bd (pick_post h4 (by omega) (by omega)) fun x9 ⟨g9,h9⟩=>?_;have w:IntKind.i64.wrap (n - 1)=n - 1:=wrap_i64 (by omega) (by omega);rw [w];refine .bd (Q:=fun x=>LinksDrawn n x.2.1∧RdOk ⟨r.b,x.2.2⟩ (k+2*n+20)) (.lp (fun s=>(0≤s.2.2∧s.2.2≤5∧LinksDrawn n s.1)∧RdOk ⟨r.b,s.2.1⟩ (k+2*n+1+3*(5 - s.2.2))) (fun s=>s.2.2.toNat) ⟨⟨g9.1,by dsimp only; omega,g4⟩,h9.mono (by dsimp only; omega)⟩ fun s ⟨⟨i1,i2,i3⟩,i4⟩=>?_) fun x hx=>.ret hx;refine .ite (fun c=>?_) fun c=>.ret ⟨i3,i4.mono (by omega)⟩;simp only [Bool.and_eq_true,decide_eq_true_eq] at c;have w3:IntKind.i64.wrap (s.2.2 - 1)=s.2.2 - 1:=wrap_i64 (by omega) (by omega);rw [w3];refine .bd (pick_post i4 (by omega) (by omega)) fun x14 ⟨g14,h14⟩=>?_;have w2:IntKind.i64.wrap (n - 1 - x14.1)=n - 1 - x14.1:=wrap_i64 (by omega) (by omega);rw [w2];refine .bd (pick_post h14 (by omega) (by omega)) fun x15 ⟨g15,h15⟩=>.bd (pick_post h15 (by omega) (by omega)) fun x16 ⟨g16,h16⟩=>.gd ⟨g16.1,by simpa using g16.2⟩ (.gd (by simp; omega) (.ret ⟨⟨⟨by dsimp only; omega,by dsimp only; omega,?_⟩,h16.mono (by dsimp only; omega)⟩,by dsimp only; omega⟩));have w4:IntKind.i64.wrap (x14.1+1)=x14.1+1:=wrap_i64 (by omega) (by omega);have w5:IntKind.i64.wrap (x14.1+1+x15.1)=x14.1+1+x15.1:=wrap_i64 (by omega) (by omega);have hc:1≤([1,2,3,50]:List Int).getD x16.1.toNat default∧([1,2,3,50]:List Int).getD x16.1.toNat default≤50:=by
      have:x16.1=0 ∨ x16.1=1 ∨ x16.1=2 ∨ x16.1=3:=by omega
      rcases this with e | e | e | e <;> rw [e] <;> decide
    rw [w4,w5];exact drawn_app i3 (by omega) (link_ok g14.1 (by omega) (by omega) hc.1 hc.2)
def idsOk (ids:List Int) (n:Nat):Bool:=allR n (fun i=>inR (ids.getD i default) 1 1000 && allR i (fun k=>!(ids.getD k default == ids.getD i default)))
theorem newBridge_get {ids:List Int} {ls:List TreeLink} {i:Nat} (hi:i < ids.length):(newWorld ids ls).Bridges.getD i default=newBridge (ids.getD i default):=by
  simp [newWorld,List.getD_eq_getElem?_getD,hi]
theorem slotDef {ids:List Int} {ls:List TreeLink} (i:Nat) (e:Int):slotAt (newWorld ids ls) i e=default:=by
  unfold slotAt newWorld;split <;> exact getD_all (p:=fun s:TreeSlot=>s=default) (fun x hx=>(List.mem_replicate.1 hx).2) rfl i
theorem newOk {ids:List Int} {ls:List TreeLink} (h:linksOk ids.length ls=true):worldOk (newWorld ids ls)=idsOk ids ids.length:=by
  have hb:(newWorld ids ls).Bridges.length=ids.length:=by simp [newWorld]
  have hl:(newWorld ids ls).Links=ls:=rfl;unfold worldOk;rw [hb,hl,h];have e1:allR ids.length (bridgeOk (newWorld ids ls))=idsOk ids ids.length:=by
    rw [Bool.eq_iff_iff];unfold idsOk;simp only [allR_iff];refine ⟨fun g i hi=>?_,fun g i hi=>?_⟩
    · have:=g i hi;simp only [bridgeOk,Bool.and_eq_true,newBridge_get hi] at this;rw [Bool.and_eq_true];refine ⟨this.1.1,allR_of fun k hk=>?_⟩;have:=allR_get this.1.2 hk;rw [newBridge_get (by omega)] at this;exact this
    · have:=g i hi;rw [Bool.and_eq_true] at this;simp only [bridgeOk,Bool.and_eq_true,newBridge_get hi];refine ⟨⟨this.1,allR_of fun k hk=>?_⟩,?_⟩
      · rw [newBridge_get (by omega)];exact allR_get this.2 hk
      · have hi':=inR_iff.1 this.1;rw [if_pos (show (newBridge (ids.getD i default)).Up=true from rfl)];have hn:nothing (⟨ids.getD i default,0,0⟩:TreeVector)=false:=by
          unfold nothing;simp only [Bool.and_eq_false_imp,beq_iff_eq];intro e; omega
        have hv:vecOk (⟨ids.getD i default,0,0⟩:TreeVector)=true:=by
          unfold vecOk;rw [hn,this.1]; rfl
        show ((vecOk (⟨ids.getD i default,0,0⟩:TreeVector) && !nothing (⟨ids.getD i default,0,0⟩:TreeVector)) && inR (-1) (-1) ((ls.length:Int) - 1))=true;rw [hn,hv,inR_iff.2 ⟨Int.le_refl _,by omega⟩]
        rfl
  have e2:allR ls.length (endsOk (newWorld ids ls))=true:=allR_of fun i _=>by
    have a:(newWorld ids ls).AtA.getD i default=default:=slotDef (ids:=ids) (ls:=ls) i 0;have b:(newWorld ids ls).AtB.getD i default=default:=slotDef (ids:=ids) (ls:=ls) i 1;unfold endsOk;rw [a,b]
    rfl
  have e3:allR (newWorld ids ls).Down.length (downAt (newWorld ids ls))=true:=rfl;have e4:radioOk (newWorld ids ls)=true:=rfl;rw [e1,e2,e3,e4];simp [newWorld]
end Go.Proofs.YtejhbiefhpgjeaaGreat
