/-
  Two library functions whose own text is walked once, at elements of several cells: a part of the frame in which a given row's proof walks the program; no condition.
-/
import Derived.Test.YtjgjdobkahdgfaaGreatAbz6
import Derived.Shelf.SlBodiesN
import Derived.Shelf.SlGeneric
import Derived.Shelf.RegionOpenPlain
import Derived.WalkKit
import Derived.Deep.LoopGhost
import Derived.Deep.RegionLaw
import Derived.Lib.Walk
import Derived.Sort.WalkB12
import Derived.Lib.SliceRun
import Derived.Shelf.Spec.SlicesInsert
import Derived.Lib.AppendZerosOnto
set_option linter.all false
namespace Go.Ab
set_option maxRecDepth 1000000
open Go.Shelf Go.RowKit Go.Lib Go.Proofs
variable {P:Program} {ρ:Ren}
structure LDel (P:Program) (ρ:Ren) (sz:Nat) (z:Value):Prop where
  mixed:P.follows .mixedOrders=true
  f45:Bears P (ρ.f 45) (SlBodyN.n45 ρ)
  t0:P.underlying (ρ.t 0)=some (TypeDesc.tuple #[])
  a0:∀ w,(isAgg (ρ.t 0)).run P w=.ok false w
  z0:∀ w,(Go.sizeOf (ρ.t 0)).run P w=.ok 1 w
  v0:∀ w,(zeroValue (ρ.t 0)).run P w=.ok (Value.tuple #[]) w
  t3:P.underlying (ρ.t 3)=some (TypeDesc.int IntKind.i64)
  a3:∀ w,(isAgg (ρ.t 3)).run P w=.ok false w
  z3:∀ w,(Go.sizeOf (ρ.t 3)).run P w=.ok 1 w
  v3:∀ w,(zeroValue (ρ.t 3)).run P w=.ok (Value.int IntKind.i64 0) w
  t4:P.underlying (ρ.t 4)=some (TypeDesc.bool)
  a4:∀ w,(isAgg (ρ.t 4)).run P w=.ok false w
  z4:∀ w,(Go.sizeOf (ρ.t 4)).run P w=.ok 1 w
  v4:∀ w,(zeroValue (ρ.t 4)).run P w=.ok (Value.bool false) w
  t22:P.underlying (ρ.t 22)=some (TypeDesc.slice (ρ.t 23))
  a22:∀ w,(isAgg (ρ.t 22)).run P w=.ok false w
  z22:∀ w,(Go.sizeOf (ρ.t 22)).run P w=.ok 1 w
  v22:∀ w,(zeroValue (ρ.t 22)).run P w=.ok (Value.slice none 0 0) w
  i23:∃ i,P.info? (ρ.t 23)=some i∧i.size=sz
  z23:∀ w,(Go.sizeOf (ρ.t 23)).run P w=.ok sz w
  v23:∀ w,(zeroValue (ρ.t 23)).run P w=.ok z w
  c23:z.cells.size=sz
  o23:∀ u ∈ z.cells.toList,u.oneCell'=true
theorem Qfm {c:Array Value} {n:Nat}:(Builtin.zeroCells c n).toList.length=n*c.size:=by
  simp [Builtin.zeroCells]
theorem Qme {c:Array Value} {n:Nat} (h:∀ u ∈ c.toList,u.oneCell'=true):∀ u ∈ (Builtin.zeroCells c n).toList,u.oneCell'=true:=by
  intro u hu;simp only [Builtin.zeroCells,Array.toList_map,List.mem_map] at hu;obtain ⟨i,hi,rfl⟩:=hu;have hi:i < n*c.size:=by simpa using hi
  have hs:0 < c.size:=by
    rcases Nat.eq_zero_or_pos c.size with e | e
    · rw [e,Nat.mul_zero] at hi; omega
    · exact e
  have hlt:i % c.size < c.size:=Nat.mod_lt _ hs;rw [getElem!_pos c (i % c.size) hlt];exact h _ (by simp)
theorem Qkb (w:World) (t e ty:TypeId) (z:Value) (ht:P.underlying t=some (.slice e)) (hv:∀ w,(zeroValue e).run P w=.ok z w) (h1:∀ u ∈ z.cells.toList,u.oneCell'=true) (b o n c:Nat) (hn:0 < n)
    (hc:∀ j,j < n*z.cells.size→(w.cell? ⟨b,o+j,none⟩).isSome=true) (hf:∀ j,j < n*z.cells.size→w.frozen? ⟨b,o+j,none⟩=false) :
    (Builtin.clear_ #[t] ty #[.slice (some ⟨b,o,none⟩) n c]).run P w=.ok (.tuple #[]) (w.setCells b o (Builtin.zeroCells z.cells n).toList):=by
  have hst:=run_storeCells_cells (P:=P) b o (Builtin.zeroCells z.cells n).toList 0 w (by rw [Qfm]; simpa using hc) (by rw [Qfm]; simpa using hf) (Qme h1);simp only [Nat.add_zero] at hst;obtain ⟨m,rfl⟩:∃ m,n=m+1:=⟨n - 1,by omega⟩;simp [Builtin.clear_,run_underlying ht,hv,hst]
theorem Qtx {sz:Nat} {z:Value} (L:LDel P ρ sz z) (a:Option Addr) (n cap i:Nat) (w:World) (hi:i≤n) (hcap:n≤cap) :
    Calls P (ρ.f 45) #[.slice a n cap,.int .i64 i,.int .i64 i] w fun e w'=>e=.returned (.slice a n cap)∧w'=w:=by
  have mixed:=L.mixed; have t0:=L.t0; have a0:=L.a0; have z0:=L.z0; have v0:=L.v0; have t3:=L.t3; have a3:=L.a3; have z3:=L.z3; have v3:=L.v3; have t4:=L.t4; have a4:=L.a4; have z4:=L.z4; have v4:=L.v4; have t22:=L.t22; have a22:=L.a22; have z22:=L.z22; have v22:=L.v22; have z23:=L.z23;obtain ⟨_,_,FG⟩:=L.f45
  go_enter FG,SlBodyN.n45_ntmps ρ
  go_wp2
  all_goals (go_ret; exact ⟨rfl,rfl⟩)
theorem Qvh {sz:Nat} {z:Value} (L:LDel P ρ sz z) (blk off n cap i j:Nat) (w:World) (news:List Value) (hlt:i < j) (hj:j≤n) (hcap:n≤cap)
    (hnl:news.length=(n - j)*sz) (hnews:∀ t u,news[t]?=some u→w.cell? ⟨blk,off+j*sz+t,none⟩=some u) (h1:∀ u ∈ news,u.oneCell'=true)
    (hcl:∀ t,t < n*sz→(w.cell? ⟨blk,off+t,none⟩).isSome=true∧w.frozen? ⟨blk,off+t,none⟩=false) :
    Calls P (ρ.f 45) #[.slice (some ⟨blk,off,none⟩) n cap,.int .i64 i,.int .i64 j] w fun e w'=>e=.returned (.slice (some ⟨blk,off,none⟩) (n - (j - i)) cap) ∧
      w'=(w.drew.setCells blk (off+i*sz) news).setCells blk (off+(i+(n - j))*sz) (Builtin.zeroCells z.cells (n - (i+(n - j)))).toList:=by
  have mixed:=L.mixed; have t0:=L.t0; have a0:=L.a0; have z0:=L.z0; have v0:=L.v0; have t3:=L.t3; have a3:=L.a3; have z3:=L.z3; have v3:=L.v3; have t4:=L.t4; have a4:=L.a4; have z4:=L.z4; have v4:=L.v4; have t22:=L.t22; have a22:=L.a22; have z22:=L.z22; have v22:=L.v22; have z23:=L.z23;obtain ⟨i0,hi0,hz1⟩:=L.i23;have hmul:∀ {a b:Nat},a≤b→a*sz≤b*sz:=fun h=>Nat.mul_le_mul_right sz h;obtain ⟨A,hA,hsrc⟩:∃ A:Addr,(if cap=j then (some ⟨blk,off,none⟩:Option Addr) else some ⟨blk,off+j*sz,none⟩)=some A∧Hid (∀ t u,news[t]?=some u→w.drew.cell? (A.add t)=some u):=by
    by_cases h:cap=j
    · refine ⟨⟨blk,off,none⟩,by simp [h],fun t u hu=>?_⟩;have h0:news.length=0:=by rw [hnl,show n - j=0 by omega,Nat.zero_mul]
      rw [List.length_eq_zero_iff.1 h0] at hu;simp at hu
    · refine ⟨⟨blk,off+j*sz,none⟩,by simp [h],fun t u hu=>?_⟩;rw [Addr.add_lit];exact hnews t u hu
  have s1:Hid (news.length=(n - j)*sz):=hnl;have s2:Hid (∀ u ∈ news,u.oneCell'=true):=h1;have hle:i*sz+(n - j)*sz≤n*sz:=by rw [← Nat.add_mul]; exact hmul (by omega)
  have s3:Hid (∀ t,t < news.length→(w.drew.cell? ⟨blk,off+i*sz+t,none⟩).isSome=true∧w.drew.frozen? ⟨blk,off+i*sz+t,none⟩=false):=by
    intro t ht;rw [hnl] at ht;rw [Nat.add_assoc];exact hcl (i*sz+t) (by omega)
  obtain ⟨W1,hW1⟩:∃ W1,W1=w.drew.setCells blk (off+i*sz) news:=⟨_,rfl⟩;have hsome:∀ k,k < n*sz→(W1.cell? ⟨blk,off+k,none⟩).isSome=true:=fun k hk=>by
    rw [hW1]
    by_cases hin:off+i*sz≤off+k∧off+k < off+i*sz+news.length
    · have:=World.cell?_setCells_in blk news (off+i*sz) w.drew (fun t ht=>(s3 t ht).1) (off+k - (off+i*sz)) (by omega);rw [show off+i*sz+(off+k - (off+i*sz))=off+k by omega] at this;rw [this]; rfl
    · rw [World.cell?_setCells_out blk news (off+i*sz) w.drew ⟨blk,off+k,none⟩ (fun _ _=>by show off+k < off+i*sz ∨ off+i*sz+news.length≤off+k; omega)];exact (hcl k hk).1
  have hfro:∀ k,k < n*sz→W1.frozen? ⟨blk,off+k,none⟩=false:=fun k hk=>by
    rw [hW1,World.frozen?_setCells];exact (hcl k hk).2
  have hle2:(i+(n - j))*sz+(n - (i+(n - j)))*sz≤n*sz:=by rw [← Nat.add_mul]; exact hmul (by omega)
  have hclr:∀ ty,(Builtin.clear_ #[ρ.t 22] ty #[.slice (some ⟨blk,off+(i+(n - j))*sz,none⟩) (n - (i+(n - j))) (cap - (i+(n - j)))]).run P W1=.ok (.tuple #[]) (W1.setCells blk (off+(i+(n - j))*sz) (Builtin.zeroCells z.cells (n - (i+(n - j)))).toList) :=
    fun ty=>Qkb W1 _ _ ty z t22 L.v23 L.o23 blk (off+(i+(n - j))*sz) _ _ (by omega) (fun t ht=>by rw [L.c23] at ht; rw [Nat.add_assoc]; exact hsome _ (by omega)) (fun t ht=>by rw [L.c23] at ht; rw [Nat.add_assoc]; exact hfro _ (by omega))
  have hW:Hid (W1=w.drew.setCells blk (off+i*sz) news):=hW1;have hic:i≤cap:=by omega
  have hjc:j≤cap:=by omega
  have hne:¬ cap=i:=by omega
  have hne2:¬ cap=i+(n - j):=by omega
  clear hW1 hsome hfro hcl hnews hnl hle hle2 hmul;generalize (Builtin.zeroCells z.cells (n - (i+(n - j)))).toList=Z at hclr ⊢;obtain ⟨_,_,FG⟩:=L.f45
  go_enter FG,SlBodyN.n45_ntmps ρ
  go_wp2_with fail
  go_region_law_o (refine step_append_room rfl (.tmp 22) (.tmp 25) (ρ.t 22) rfl (ρ.t 23) i0 sz t22 hi0 hz1 blk off i cap (by simp [Act.eval,Act.put]) A (n - j) (cap - j) news (by simp [Act.eval,Act.put]) s1.out hsrc.out s2.out (by omega) s3.out ?_; rw [← hW.out])
  go_wp2
  go_ret
  exact ⟨by rw [show n - (j - i)=i+(n - j) by omega]; rfl,by rw [hW.out]⟩
theorem Qq7 {f : FuncId} {fn : Func} {c : Code} (hf : P.funcs[f]? = some fn) (hb : fn.body = some c) (hn : (fn.name == "runtime.NumGoroutine") = false) : Callable P f := ⟨fn, hf, hn, by simp [hb]⟩
theorem Qa7 (b:Nat):∀ (vs:List Value) (o:Nat) (w:World) {C:Array Value} {et:TypeId} {fr:Nat × Nat},w.heap[b]?=some (.cells C et fr)→o+vs.length≤C.size →
    ∃ C',(w.setCells b o vs).heap[b]?=some (.cells C' et fr)∧C'.size=C.size∧∀ k,C'.getD k undef=if o≤k∧k < o+vs.length then vs.getD (k - o) undef else C.getD k undef
  | [],o,w,C,et,fr,h,_=>⟨C,h,rfl,fun k=>by rw [if_neg (by simp <;> omega)]⟩
  | v :: r,o,w,C,et,fr,h,hl=>by
    simp only [List.length_cons] at hl;have h1:(w.setCell ⟨b,o,none⟩ v).heap[b]?=some (.cells (C.setIfInBounds o v) et fr):=by
      simp [World.setCell,Array.getElem?_modify,h]
    obtain ⟨C',g1,g2,g3⟩:=Qa7 b r (o+1) _ h1 (by simp; omega);refine ⟨C',g1,by rw [g2]; simp,fun k=>?_⟩;rw [g3];simp only [List.length_cons]
    by_cases c1:o+1≤k∧k < o+1+r.length
    · rw [if_pos c1,if_pos (by omega),show k - o=(k - (o+1))+1 by omega];simp [List.getD_eq_getElem?_getD]
    · rw [if_neg c1]
      by_cases c2:k=o
      · subst c2;rw [if_pos (by omega)];simp [Array.getD_eq_getD_getElem?,List.getD_eq_getElem?_getD,show k < C.size by omega]
      · rw [if_neg (by omega)];simp [Array.getD_eq_getD_getElem?,Array.getElem?_setIfInBounds,Ne.symm c2]
theorem QaI (b:Nat):∀ (vs:List Value) (o:Nat) (w:World),(∀ k,k ≠ b→(w.setCells b o vs).heap[k]?=w.heap[k]?)∧(w.setCells b o vs).heap.size=w.heap.size∧(w.setCells b o vs).os=w.os∧(w.setCells b o vs).tape=w.tape∧(w.setCells b o vs).output=w.output
  | [],_,_=>⟨fun _ _=>rfl,rfl,rfl,rfl,rfl⟩
  | v :: r,o,w=>by
    obtain ⟨h1,h2,h3,h4,h5⟩:=QaI b r (o+1) (w.setCell ⟨b,o,none⟩ v);refine ⟨fun k hk=>(h1 k hk).trans ?_,h2.trans ?_,h3,h4,h5⟩
    · simp [World.setCell,Array.getElem?_modify,Ne.symm hk]
    · simp [World.setCell]
theorem QqM {w:World} {ow:Nat→Prop} {ρ:Env} {u:V} {a b:Int} {vals:Array Value} (h:Qhz w ow ρ [u,.d (.int .i64 a),.d (.int .i64 b)] vals):∃ v,vals=#[v,.int .i64 a,.int .i64 b]∧VR w ow ρ u v:=by
  obtain ⟨h1,h2⟩:=h;have h1:vals.size=3:=h1;have e1:=h2 1 _ rfl;have e2:=h2 2 _ rfl;have f1:vals.getD 1 undef=.int .i64 a:=by generalize vals.getD 1 undef=y at e1 ⊢; cases e1 with | d e=>cases e; rfl
  have f2:vals.getD 2 undef=.int .i64 b:=by generalize vals.getD 2 undef=y at e2 ⊢; cases e2 with | d e=>cases e; rfl
  refine ⟨vals.getD 0 undef,?_,h2 0 u rfl⟩
  apply Array.ext
  · simp [h1]
  · intro i hi _;have:i=0 ∨ i=1 ∨ i=2:=by omega
    rcases this with rfl | rfl | rfl
    · simp [Array.getD_eq_getD_getElem?,hi]
    · rw [Array.getD_eq_getD_getElem?,Array.getElem?_eq_getElem hi] at f1; exact f1
    · rw [Array.getD_eq_getD_getElem?,Array.getElem?_eq_getElem hi] at f2; exact f2
theorem Qah {i k:Nat} {x b:Blk} (h:Qh [(k,b)] i=some x):i=k∧x=b:=by
  simp only [Qh] at h;split at h
  · rename_i hq;exact ⟨(Nat.eq_of_beq_eq_true hq).symm,(Option.some.inj h).symm⟩
  · cases h
def Qjx {α:Type} (xs:List α) (i j:Nat):List α:=xs.take i ++ xs.drop j
theorem Qty {α:Type} {xs:List α} {i j:Nat} (hij:i≤j) (hj:j≤xs.length):(Qjx xs i j).length=xs.length - (j - i):=by simp [Qjx]; omega
theorem Qtz {α:Type} [Inhabited α] {xs:List α} {i j q:Nat} (hij:i≤j) (hj:j≤xs.length) (hq:q < xs.length - (j - i)):(Qjx xs i j).getD q default=xs.getD (if q < i then q else j+(q - i)) default:=by
  have hl:(xs.take i).length=i:=by simp; omega
  unfold Qjx;split
  · rename_i h;simp [List.getD_eq_getElem?_getD,List.getElem?_append_left (show q < (xs.take i).length by omega),List.getElem?_take,h]
  · rename_i h;simp [List.getD_eq_getElem?_getD,List.getElem?_append_right (show (xs.take i).length≤q by omega),hl,List.getElem?_drop]
theorem QlI {α:Type} [Inhabited α] {enc:α→List D} {t:TypeId} {sz:Nat} {z:Value} (L:LDel P ρ sz z) (can:Callable P (ρ.f 45)) (hlen:∀ x,(enc x).length=sz) {xs:List α} {i j:Nat} (hij:i≤j) (hj:j≤xs.length) :
    EffC P (ρ.f 45) [.osl 9000 0 xs.length,.d (.int .i64 i),.d (.int .i64 j)] [(9000,.arr t sz xs.length (rows enc xs))] (.osl 5001 0 (Qjx xs i j).length) [(5001,.arr t sz (Qjx xs i j).length (rows enc (Qjx xs i j)))]:=by
  refine ⟨can,rfl,rfl,fun Z w vals ρ0 hv hblk hsep hZ hlt htab=>?_⟩;obtain ⟨v,rfl,hv1⟩:=QqM hv;have hb:=hblk 9000 _ rfl;obtain ⟨ad,c,rfl,h1,h2⟩:=hv1.osl_inv;have hyl:=Qty (xs:=xs) hij hj;have hnz:(ρ0 9000).n=xs.length:=by
    cases hb with
    | arr0 _ _ h _=>exact h
    | arr _ _ _ _ h=>exact h
  have hown:∀ {l:Loc},l.ph=(ρ0 9000).ph→l.b=(ρ0 9000).b→∀ {y:Blk} {b:Nat},own [(5001,y)] (fun _=>l) b→own [(9000,Blk.arr t sz xs.length (rows enc xs))] ρ0 b:=fun {l} e1 e2 {y b} ⟨i,k,hk,hp,hb⟩=>⟨9000,_,rfl,by rw [← e1]; exact hp,by rw [← e2]; exact hb⟩
  by_cases heq:i=j
  · subst heq;have hxs:Qjx xs i i=xs:=by simp [Qjx]
    refine Calls.mono (Qtx L ad xs.length c i w hj (by rcases h2 with ⟨h2,h3⟩ | ⟨_,h3,_,h4⟩ <;> omega)) ?_;rintro e w' ⟨rfl,rfl⟩;rw [hxs];refine ⟨_,fun _=>ρ0 9000,rfl,Qj3 (fun i x hx=>by rw [(Qah hx).2]; rfl) (Kept.refl _ _),fun i x y hx hy=>?_,?_,?_,fun i j x y hx hy _ _ _=>(Qah hx).1.trans (Qah hy).1.symm,fun i x hx hp=>⟨.inr ⟨9000,_,rfl,hp,rfl⟩,fun k hc=>(Ql7 (fun i x hx=>by rw [(Qah hx).2]; rfl) hc).elim⟩⟩
    · obtain ⟨rfl,_⟩:=Qah hx;obtain ⟨h,_⟩:=Qah hy
      cases h
    · rcases h2 with ⟨h2,rfl⟩ | ⟨hp,h3,rfl,rfl⟩
      · rw [h2]; exact .osl0 rfl (Nat.zero_le _)
      · exact .osl hp (by omega) h3
    · intro i b hib;obtain ⟨rfl,rfl⟩:=Qah hib;have keep:Keep w' (fun x=>own [(9000,Blk.arr t sz xs.length (rows enc xs))] ρ0 x ∨ Z x) w' (fun x=>own [(5001,Blk.arr t sz xs.length (rows enc xs))] (fun _=>ρ0 9000) x ∨ Z x):=⟨Nat.le_refl _,fun b _ ho=>⟨rfl,fun h=>ho (h.imp (hown rfl rfl) fun h=>h)⟩⟩
      cases hb with
      | arr0 g1 g2 g3 g4=>exact .arr0 g1 g2 g3 g4
      | arr C et g1 g2 g3 g4 g5 g6 g7 g8=>exact .arr C et g1 g2 g3 g4 g5 g6 g7 fun i j d hi hd=>(g8 i j d hi hd).keep keep
  · have hlt':i < j:=by omega
    rcases h2 with ⟨h2,_⟩ | ⟨hp,h3,rfl,rfl⟩
    · omega
    cases hb with
    | arr0 h _ _ _=>rw [hp] at h; cases h
    | arr C et g1 g2 g3 g4 g5 g6 g7 g8 =>
    have hcs:xs.length*sz≤(ρ0 9000).cap*sz:=Nat.mul_le_mul_right _ g4;have e0:(ρ0 9000).o+0*(ρ0 9000).sz=(ρ0 9000).o:=by omega
    rw [e0];generalize hO:(ρ0 9000).o=O at *;generalize hB:(ρ0 9000).b=Bk at *;have hcell:∀ q k,q < xs.length→k < sz→q*sz+k < xs.length*sz∧(C.getD (O+q*sz+k) undef).oneCell'=true:=fun q k hq hk=>by
      have:(q+1)*sz≤xs.length*sz:=Nat.mul_le_mul_right _ (by omega);rw [Nat.add_mul] at this;refine ⟨by omega,(g8 q k ((rows enc xs q)[k]'(by rw [g5 q hq]; exact hk)) hq (List.getElem?_eq_getElem _)).oneCell⟩
    have hjs:j*sz+(xs.length - j)*sz=xs.length*sz:=by rw [← Nat.add_mul]; congr 1; omega
    obtain ⟨news,hnews⟩:∃ news,news=(List.range ((xs.length - j)*sz)).map fun k=>C.getD (O+j*sz+k) undef:=⟨_,rfl⟩;have hnl:news.length=(xs.length - j)*sz:=by rw [hnews]; simp
    have hng:∀ k,k < (xs.length - j)*sz→news[k]?=some (C.getD (O+j*sz+k) undef):=fun k hk=>by rw [hnews]; simp [hk]
    have hrun:=Qvh L Bk O xs.length ((ρ0 9000).cap - 0) i j w news hlt' hj (by omega) hnl (fun k u hu=>by
        have hk:k < (xs.length - j)*sz:=by have:=(List.getElem?_eq_some_iff.1 hu).1; omega
        rw [hng k hk] at hu;rw [QaO g6 (by omega)]; exact hu) (fun u hu=>by
        obtain ⟨k,hk,rfl⟩:=List.mem_iff_getElem.1 hu;have hk':k < (xs.length - j)*sz:=by omega
        have:=hng k hk';rw [List.getElem?_eq_getElem hk] at this;rw [Option.some.inj this];have hsz:0 < sz:=by
          rcases Nat.eq_zero_or_pos sz with h | h
          · rw [h,Nat.mul_zero] at hk'; omega
          · exact h
        have hq:k / sz < xs.length - j:=Nat.div_lt_of_lt_mul (by rw [Nat.mul_comm]; exact hk');have:=(hcell (j+k / sz) (k % sz) (by omega) (Nat.mod_lt _ hsz)).2;rw [Nat.add_mul] at this;have e:=Nat.div_add_mod' k sz;rw [show O+j*sz+k=O+(j*sz+k / sz*sz)+k % sz by omega];exact this) (fun k hk=>⟨by rw [QaO g6 (by omega)]; rfl,frozen_of_row w _ _ C et g6⟩)
    refine Calls.mono hrun ?_;rintro e w' ⟨rfl,rfl⟩;have hin:i*sz+(xs.length - j)*sz≤xs.length*sz:=by rw [← Nat.add_mul]; exact Nat.mul_le_mul_right _ (by omega)
    have hzl:(Builtin.zeroCells z.cells (xs.length - (i+(xs.length - j)))).toList.length=(xs.length - (i+(xs.length - j)))*sz:=by rw [Qfm,L.c23]
    have hin2:(i+(xs.length - j))*sz+(xs.length - (i+(xs.length - j)))*sz≤xs.length*sz:=by rw [← Nat.add_mul]; exact Nat.mul_le_mul_right _ (by omega)
    obtain ⟨C1,a1,a2,a3⟩:=Qa7 Bk news (O+i*sz) w.drew (show w.drew.heap[Bk]?=_ from g6) (by omega);obtain ⟨C2,b1,b2,b3⟩:=Qa7 Bk (Builtin.zeroCells z.cells (xs.length - (i+(xs.length - j)))).toList (O+(i+(xs.length - j))*sz) _ a1 (by omega);obtain ⟨r1,r2,r3,r4,r5⟩:=QaI Bk news (O+i*sz) w.drew;obtain ⟨q1,q2,q3,q4,q5⟩:=QaI Bk (Builtin.zeroCells z.cells (xs.length - (i+(xs.length - j)))).toList (O+(i+(xs.length - j))*sz) (w.drew.setCells Bk (O+i*sz) news);have hbk:own [(9000,Blk.arr t sz xs.length (rows enc xs))] ρ0 Bk:=⟨9000,_,rfl,hp,hB⟩;have keep:Keep w (fun x=>own [(9000,Blk.arr t sz xs.length (rows enc xs))] ρ0 x ∨ Z x) ((w.drew.setCells Bk (O+i*sz) news).setCells Bk (O+(i+(xs.length - j))*sz) (Builtin.zeroCells z.cells (xs.length - (i+(xs.length - j)))).toList) (fun x=>own [(5001,Blk.arr t sz (Qjx xs i j).length (rows enc (Qjx xs i j)))] (fun _=>{ ρ0 9000 with n:=(Qjx xs i j).length }) x ∨ Z x) :=
      ⟨by rw [q2,r2]; exact Nat.le_refl _,fun b _ ho=>⟨(q1 b fun e=>ho (.inl (e ▸ hbk))).trans (r1 b fun e=>ho (.inl (e ▸ hbk))),fun h=>ho (h.imp (hown rfl hB) fun h=>h)⟩⟩
    refine ⟨_,fun _=>{ ρ0 9000 with n:=(Qjx xs i j).length },rfl,Qj3 (fun i x hx=>by rw [(Qah hx).2]; rfl) ⟨q3.trans r3,q4.trans r4,q5.trans r5,keep.size,fun k hk=>(q1 k fun e=>hk.2 (e ▸ hbk)).trans (r1 k fun e=>hk.2 (e ▸ hbk))⟩,fun i x y hx hy=>?_,?_,?_,fun i j x y hx hy _ _ _=>(Qah hx).1.trans (Qah hy).1.symm,fun i x hx hp=>⟨.inr ⟨9000,_,rfl,hp,rfl⟩,fun k hc=>(Ql7 (fun i x hx=>by rw [(Qah hx).2]; rfl) hc).elim⟩⟩
    · obtain ⟨rfl,_⟩:=Qah hx;obtain ⟨h,_⟩:=Qah hy
      cases h
    · have:=VR.osl (w:=(w.drew.setCells Bk (O+i*sz) news).setCells Bk (O+(i+(xs.length - j))*sz) (Builtin.zeroCells z.cells (xs.length - (i+(xs.length - j)))).toList) (own:=fun x=>own [(5001,Blk.arr t sz (Qjx xs i j).length (rows enc (Qjx xs i j)))] (fun _=>{ ρ0 9000 with n:=(Qjx xs i j).length }) x ∨ Z x) (ρ:=fun _=>{ ρ0 9000 with n:=(Qjx xs i j).length }) (id:=5001) (off:=0) (len:=(Qjx xs i j).length) hp (by simp) (by dsimp only; omega);dsimp only at this;have ev:(Value.slice (some ⟨(ρ0 9000).b,(ρ0 9000).o+0*(ρ0 9000).sz,none⟩) (Qjx xs i j).length ((ρ0 9000).cap - 0))=.slice (some ⟨Bk,O,none⟩) (xs.length - (j - i)) ((ρ0 9000).cap - 0):=by rw [hB,hO,hyl,Nat.zero_mul,Nat.add_zero]
      rw [ev] at this;exact this
    · intro i' b hib;obtain ⟨rfl,rfl⟩:=Qah hib;refine .arr C2 et hp g2 rfl (by dsimp only; omega) (fun q hq=>?_) (by dsimp only; rw [hB]; exact b1) (by dsimp only; rw [hO,b2,a2]; exact g7) fun q k d hq hd=>?_
      · simp only [rows]; exact hlen _
      · dsimp only;rw [show (ρ0 9000).o+q*sz+k=O+q*sz+k by rw [hO]];have hk:k < sz:=by
          have:=(List.getElem?_eq_some_iff.1 hd).1;simp only [rows,hlen] at this;exact this
        have hq2:q < i+(xs.length - j):=by omega
        have hm:(q+1)*sz≤(i+(xs.length - j))*sz:=Nat.mul_le_mul_right _ (by omega);rw [Nat.add_mul] at hm;rw [b3,if_neg (by omega),a3,hnl];have hrow:rows enc (Qjx xs i j) q=rows enc xs (if q < i then q else j+(q - i)):=by
          simp only [rows];rw [Qtz hij hj (by omega)]
        rw [hrow] at hd
        by_cases c1:q < i
        · rw [if_pos c1] at hd;have hm2:(q+1)*sz≤i*sz:=Nat.mul_le_mul_right _ (by omega);rw [Nat.add_mul] at hm2;rw [if_neg (by omega)];exact (g8 q k d (by omega) hd).keep keep
        · rw [if_neg c1] at hd;have hm2:i*sz≤q*sz:=Nat.mul_le_mul_right _ (by omega);have hm3:(i+(xs.length - j))*sz=i*sz+(xs.length - j)*sz:=Nat.add_mul _ _ _;have hm4:(q - i)*sz=q*sz - i*sz:=Nat.sub_mul _ _ _;rw [if_pos (by omega),show O+q*sz+k - (O+i*sz)=(q - i)*sz+k by omega,List.getD_eq_getElem?_getD,hng _ (by omega)];have:=(g8 (j+(q - i)) k d (by omega) hd).keep keep;rw [show (j+(q - i))*sz=j*sz+(q - i)*sz from Nat.add_mul _ _ _] at this;rw [show O+j*sz+((q - i)*sz+k)=O+(j*sz+(q - i)*sz)+k by omega];exact this
end Go.Ab
namespace Go.Ab
set_option maxHeartbeats 4000000
set_option maxRecDepth 100000
open Go.Shelf Go.RowKit Go.Lib Go.Proofs
variable {P:Program} {ρ:Ren}
structure LIns (P:Program) (ρ:Ren) (sz byt:Nat) (z:Value):Prop where
  mixed:P.follows .mixedOrders=true
  f22:Bears P (ρ.f 22) (Body2.n22 ρ)
  f29 : ∃ fn, P.funcs[ρ.f 29]? = some fn ∧ (fn.name == "runtime.NumGoroutine") = false ∧ fn.body.isNone = true ∧ Extern.findNext fn = none ∧ Extern.find fn = some (Extern.SlicesOverlaps.overlaps #[(ρ.t 24), (ρ.t 24)] #[(ρ.t 4)])
  t0:P.underlying (ρ.t 0)=some (TypeDesc.tuple #[])
  a0:∀ w,(isAgg (ρ.t 0)).run P w=.ok false w
  z0:∀ w,(Go.sizeOf (ρ.t 0)).run P w=.ok 1 w
  v0:∀ w,(zeroValue (ρ.t 0)).run P w=.ok (Value.tuple #[]) w
  t3:P.underlying (ρ.t 3)=some (TypeDesc.int IntKind.i64)
  a3:∀ w,(isAgg (ρ.t 3)).run P w=.ok false w
  z3:∀ w,(Go.sizeOf (ρ.t 3)).run P w=.ok 1 w
  v3:∀ w,(zeroValue (ρ.t 3)).run P w=.ok (Value.int IntKind.i64 0) w
  t4:P.underlying (ρ.t 4)=some (TypeDesc.bool)
  a4:∀ w,(isAgg (ρ.t 4)).run P w=.ok false w
  z4:∀ w,(Go.sizeOf (ρ.t 4)).run P w=.ok 1 w
  v4:∀ w,(zeroValue (ρ.t 4)).run P w=.ok (Value.bool false) w
  t24:P.underlying (ρ.t 24)=some (TypeDesc.slice (ρ.t 9))
  a24:∀ w,(isAgg (ρ.t 24)).run P w=.ok false w
  z24:∀ w,(Go.sizeOf (ρ.t 24)).run P w=.ok 1 w
  v24:∀ w,(zeroValue (ρ.t 24)).run P w=.ok (Value.slice none 0 0) w
  i9:∃ i,P.info? (ρ.t 9)=some i∧i.size=sz∧i.bytes=byt∧i.zero=some z
  z9:∀ w,(Go.sizeOf (ρ.t 9)).run P w=.ok sz w
  c9:z.cells.size=sz
  o9:∀ u ∈ z.cells.toList,u.oneCell'=true
  pos:0 < sz
theorem QcR (w:World) (dT sT ty elem:TypeId) (sz b o dLen dCap:Nat) (a:Addr) (sLen sCap:Nat) (cs:List Value)
    (hu:P.underlying dT=some (.slice elem)) (hs:∃ i,P.info? elem=some i∧i.size=sz) (hn:cs.length=Nat.min sLen dLen*sz)
    (hsrc:∀ j v,cs[j]?=some v→w.cell? (a.add j)=some v) (hc:∀ j,j < cs.length→(w.cell? ⟨b,o+j,none⟩).isSome=true) (hf:∀ j,j < cs.length→w.frozen? ⟨b,o+j,none⟩=false) (h1:∀ v ∈ cs,v.oneCell'=true) :
    (Builtin.copy_ #[dT,sT] ty #[.slice (some ⟨b,o,none⟩) dLen dCap,.slice (some a) sLen sCap]).run P w=.ok (goInt (Nat.min sLen dLen)) (w.setCells b o cs):=by
  have hl:=run_loadCells_list (P:=P) w a cs hsrc;have hst:=run_storeCells_cells (P:=P) b o cs 0 w (by simpa using hc) (by simpa using hf) h1;obtain ⟨i,hq,hi⟩:=hs;simp [Builtin.copy_,run_underlying hu,Builtin.lenOf,Builtin.firstCells,sizeOf,typeInfo,hq,hi,← hn,hl,hst]
theorem QrU {sz byt:Nat} {z:Value} (L:LIns P ρ sz byt z) (b off n c i vb voff m vc:Nat) (cs vs:List Value) (w:World) (hi:i < n) (hm:0 < m) (hroom:n+m≤c) (hnm:n+m≤9223372036854775807) (hvb:vb ≠ b)
    (hcl:cs.length=n*sz) (hvl:vs.length=m*sz)
    (hcs:∀ j v,cs[j]?=some v→w.cell? ⟨b,off+j,none⟩=some v) (hsp:∀ j,j < (n+m)*sz→(w.cell? ⟨b,off+j,none⟩).isSome=true) (hfz:∀ j,j < (n+m)*sz→w.frozen? ⟨b,off+j,none⟩=false)
    (hvs:∀ j v,vs[j]?=some v→w.cell? ⟨vb,voff+j,none⟩=some v) (h1c:∀ v ∈ cs,v.oneCell'=true) (h1v:∀ v ∈ vs,v.oneCell'=true)
    (tA tB:TypeId) (kA kB:Nat) (hsa:w.shape? vb=some (tA,kA)) (hsb:w.shape? b=some (tB,kB)) (hkB:kB ≠ 0) (hfa:w.frozen? ⟨vb,voff,none⟩=false) (hfe:w.frozen? ⟨vb,kA,none⟩=false) :
    Calls P (ρ.f 22) #[.slice (some ⟨b,off,none⟩) n c,.int .i64 i,.slice (some ⟨vb,voff,none⟩) m vc] w fun e w' =>
      e=.returned (.slice (some ⟨b,off,none⟩) (n+m) c)∧w'=(w.drew.setCells b (off+(i+m)*sz) (cs.drop (i*sz))).setCells b (off+i*sz) vs:=by
  have t0:=L.t0; have a0:=L.a0; have z0:=L.z0; have v0:=L.v0; have t3:=L.t3; have a3:=L.a3; have z3:=L.z3; have v3:=L.v3; have t4:=L.t4; have a4:=L.a4; have z4:=L.z4; have v4:=L.v4; have t24:=L.t24; have a24:=L.a24; have z24:=L.z24; have v24:=L.v24;have u0:=run_underlying L.t0; have u3:=run_underlying L.t3; have u4:=run_underlying L.t4; have u24:=run_underlying L.t24;have z9:=L.z9;obtain ⟨i0,hi0,hi1,_,_⟩:=L.i9;have hsz:∃ i,P.info? (ρ.t 9)=some i∧i.size=sz:=⟨i0,hi0,hi1⟩;have hz1:¬ ((m:Int)=0):=by omega
  have hz2:¬ ((i:Int)=(n:Int)):=by omega
  obtain ⟨fo,o1,o2,o3,o4,o5⟩:=L.f29;have hov:∀ lb cb,(callFunc (ρ.f 29) #[.slice (some ⟨vb,voff,none⟩) m vc,.slice (some ⟨b,off+(i+m)*sz,none⟩) lb cb]).run P w=.ok (.value (.bool false)) w:=fun lb cb=>by
    rw [run_callFunc_extern o1 o2 o3 o4 o5,
      Lib.run_overlaps_apart w (ρ.t 24) (ρ.t 4) (ρ.t 9) L.t24 sz L.z9 ⟨vb,voff,none⟩ ⟨b,off+(i+m)*sz,none⟩ m vc lb cb hvb tA tB kA kB hsa hsb hkB hfa hfe]
    rfl
  have hmul:∀ {a b:Nat},a≤b→a*sz≤b*sz:=fun h=>Nat.mul_le_mul_right sz h;have hdl:(cs.drop (i*sz)).length=(n - i)*sz:=by rw [List.length_drop,hcl,Nat.sub_mul]
  have mixed:=L.mixed;have hw1:IntKind.i64.wrap ((i:Int)+(m:Int))=(i:Int)+(m:Int):=by rw [IntKind.wrap_i64]; omega
  have hb1:(0:Int)≤(i:Int)+(m:Int):=by omega
  have hin:i≤n:=by omega
  have htn:((i:Int)+(m:Int)).toNat=i+m:=by omega
  have hb2:¬ (c=i+m):=by omega
  have hb3:(i:Int)≤(n:Int)+(m:Int):=by omega
  have hb4:¬ (c=i):=by omega
  have e1:(i+m)*sz+(n - i)*sz=(n+m)*sz:=by rw [← Nat.add_mul]; congr 1; omega
  have e2:i*sz+(n - i)*sz=n*sz:=by rw [← Nat.add_mul]; congr 1; omega
  have e3:i*sz+m*sz≤(n+m)*sz:=by rw [← Nat.add_mul]; exact hmul (by omega)
  have e4:n*sz≤(n+m)*sz:=hmul (by omega);have hmin1:Nat.min (n+m - i) (n+m - (i+m))=n - i:=by simp only [Nat.min_def]; split <;> omega
  have hmin2:Nat.min m (n+m - i)=m:=by simp only [Nat.min_def]; split <;> omega
  have hcp1:∀ ty dc sc,(Builtin.copy_ #[(ρ.t 24),(ρ.t 24)] ty #[.slice (some ⟨b,off+(i+m)*sz,none⟩) (n+m - (i+m)) dc,.slice (some ⟨b,off+i*sz,none⟩) (n+m - i) sc]).run P w.drew=.ok (goInt ((n - i:Nat):Int)) (w.drew.setCells b (off+(i+m)*sz) (cs.drop (i*sz))):=fun ty dc sc=>by
    have:=QcR (P:=P) w.drew (ρ.t 24) (ρ.t 24) ty (ρ.t 9) sz b (off+(i+m)*sz) (n+m - (i+m)) dc ⟨b,off+i*sz,none⟩ (n+m - i) sc (cs.drop (i*sz)) L.t24 hsz (by rw [hdl,hmin1])
      (fun j v hj=>by rw [Addr.add_lit,Nat.add_assoc]; exact hcs (i*sz+j) v (by rwa [List.getElem?_drop] at hj))
      (fun j hj=>by rw [Nat.add_assoc]; exact hsp _ (by omega)) (fun j hj=>by rw [Nat.add_assoc]; exact hfz _ (by omega)) (fun v hv=>h1c v (List.mem_of_mem_drop hv))
    rwa [hmin1] at this
  obtain ⟨W1,hW1⟩:∃ W1,W1=w.drew.setCells b (off+(i+m)*sz) (cs.drop (i*sz)):=⟨_,rfl⟩;have hsp1:∀ k,k < (n+m)*sz→(W1.cell? ⟨b,off+k,none⟩).isSome=true:=fun k hk=>by
    rw [hW1];exact isSome_setCells b _ _ _ (fun j hj=>by rw [Nat.add_assoc]; exact hsp _ (by omega)) _ (hsp k hk)
  have hcp2:∀ (W:World),(∀ x,W.cell? x=W1.cell? x)→(∀ x,W.frozen? x=W1.frozen? x)→∀ ty dc,(Builtin.copy_ #[(ρ.t 24),(ρ.t 24)] ty #[.slice (some ⟨b,off+i*sz,none⟩) (n+m - i) dc,.slice (some ⟨vb,voff,none⟩) m vc]).run P W=.ok (goInt m) (W.setCells b (off+i*sz) vs):=fun W hWc hWf ty dc=>by
    have:=QcR (P:=P) W (ρ.t 24) (ρ.t 24) ty (ρ.t 9) sz b (off+i*sz) (n+m - i) dc ⟨vb,voff,none⟩ m vc vs L.t24 hsz (by rw [hvl,hmin2])
      (fun j v hj=>by
        rw [Addr.add_lit,hWc,hW1,World.cell?_setCells_out b _ _ _ _ (fun h _=>absurd h hvb)];exact hvs j v hj)
      (fun j hj=>by rw [hWc,Nat.add_assoc]; exact hsp1 _ (by omega)) (fun j hj=>by rw [hWf,hW1,World.frozen?_setCells,Nat.add_assoc]; exact hfz _ (by omega)) h1v
    rwa [hmin2] at this
  rw [← hW1] at hcp1;clear hmul hdl e1 e2 e3 e4 hmin1 hmin2 hsp hfz hcs hvs;obtain ⟨_,_,FG⟩:=L.f22
  go_enter FG,Body2.n22_ntmps ρ
  go_wp2_with (simp only [hov])
  go_region_law_o (refine step_copy_runI rfl _ _ (ρ.t 24) (ρ.t 24) rfl _ _ (by simp [Act.eval,Act.put]) (by simp [Act.eval,Act.put]) (hcp1 _ _ _) ?_)
  go_wp2_with (at_builtin; refine wpList_copy_runI _ rfl _ _ (ρ.t 24) (ρ.t 24) rfl _ _ rfl rfl (hcp2 _ (fun _=>rfl) (fun _=>rfl) _ _) ?_)
  go_ret
  first | exact ⟨rfl,rfl⟩ | exact ⟨rfl,by rw [hW1]⟩
theorem Qnk {sz byt:Nat} {z:Value} (L:LIns P ρ sz byt z) (b off n c vb voff m vc:Nat) (vs:List Value) (w:World) (hm:0 < m) (hroom:n+m≤c) (hvl:vs.length=m*sz)
    (hsp:∀ j,j < m*sz→(w.cell? ⟨b,off+n*sz+j,none⟩).isSome=true) (hfz:∀ j,j < m*sz→w.frozen? ⟨b,off+n*sz+j,none⟩=false)
    (hvs:∀ j v,vs[j]?=some v→w.cell? ⟨vb,voff+j,none⟩=some v) (h1v:∀ v ∈ vs,v.oneCell'=true) :
    Calls P (ρ.f 22) #[.slice (some ⟨b,off,none⟩) n c,.int .i64 n,.slice (some ⟨vb,voff,none⟩) m vc] w fun e w' =>
      e=.returned (.slice (some ⟨b,off,none⟩) (n+m) c)∧w'=w.setCells b (off+n*sz) vs:=by
  have t0:=L.t0; have a0:=L.a0; have z0:=L.z0; have v0:=L.v0; have t3:=L.t3; have a3:=L.a3; have z3:=L.z3; have v3:=L.v3; have t4:=L.t4; have a4:=L.a4; have z4:=L.z4; have v4:=L.v4; have t24:=L.t24; have a24:=L.a24; have z24:=L.z24; have v24:=L.v24;have u0:=run_underlying L.t0; have u3:=run_underlying L.t3; have u4:=run_underlying L.t4; have u24:=run_underlying L.t24;have mixed:=L.mixed;have z9:=L.z9;obtain ⟨i0,hi0,hi1,_,_⟩:=L.i9;have hz1:¬ ((m:Int)=0):=by omega
  have hrun:∀ ty,(Builtin.append_ #[ρ.t 24,ρ.t 24] ty #[.slice (some ⟨b,off,none⟩) n c,.slice (some ⟨vb,voff,none⟩) m vc]).run P w=.ok (.slice (some ⟨b,off,none⟩) (n+m) c) (w.setCells b (off+n*sz) vs):=fun ty=>by
    have:=run_append_room_cells (P:=P) w (ρ.t 24) ty (ρ.t 9) i0 L.t24 hi0 b off n c ⟨vb,voff,none⟩ m vc vs (by rw [hi1]; exact hvl) (fun j u hj=>by rw [Addr.add_lit]; exact hvs j u hj) h1v hroom (by rw [hvl,hi1]; exact hsp) (by rw [hvl,hi1]; exact hfz);rwa [hi1] at this
  clear hsp hfz hvs;obtain ⟨_,_,FG⟩:=L.f22
  go_enter FG,Body2.n22_ntmps ρ
  go_wp2_with (at_builtin; refine Lib.wpList_append_run _ rfl _ _ _ _ rfl _ _ rfl rfl _ _ (hrun _) ?_)
  go_ret
  exact ⟨rfl,rfl⟩
theorem QiK {sz byt:Nat} {z:Value} (L:LIns P ρ sz byt z) (base:Option Addr) (n c vb voff m vc:Nat) (cs vs:List Value) (w:World) (hm:0 < m) (hroom:c < n+m) (hbig:(n+m)*byt≤140737488355328) (hb2:n+m≤140737488355328)
    (hold:(Builtin.firstCells sz n (.slice base n c)).run P w.drew=.ok cs.toArray w.drew) (hvl:vs.length=m*sz)
    (hvs:∀ j v,vs[j]?=some v→w.cell? ⟨vb,voff+j,none⟩=some v) (h1v:∀ v ∈ vs,v.oneCell'=true) :
    Calls P (ρ.f 22) #[.slice base n c,.int .i64 n,.slice (some ⟨vb,voff,none⟩) m vc] w fun e w' =>
      e=.returned (.slice (some ⟨w.heap.size,0,none⟩) (n+m) (grownCap w (n+m) c (ρ.t 9)))∧w'=w.drew.alloc (.cells ((cs ++ vs).toArray ++ Builtin.zeroCells z.cells (grownCap w (n+m) c (ρ.t 9) - (n+m))) (ρ.t 9)):=by
  have t0:=L.t0; have a0:=L.a0; have z0:=L.z0; have v0:=L.v0; have t3:=L.t3; have a3:=L.a3; have z3:=L.z3; have v3:=L.v3; have t4:=L.t4; have a4:=L.a4; have z4:=L.z4; have v4:=L.v4; have t24:=L.t24; have a24:=L.a24; have z24:=L.z24; have v24:=L.v24;have u0:=run_underlying L.t0; have u3:=run_underlying L.t3; have u4:=run_underlying L.t4; have u24:=run_underlying L.t24;have mixed:=L.mixed;have z9:=L.z9;obtain ⟨i0,hi0,hi1,hi2,hi3⟩:=L.i9;have hz1:¬ ((m:Int)=0):=by omega
  have hsrc:Go.Src P i0.size (ρ.t 24) (.slice (some ⟨vb,voff,none⟩) m vc) m vs w:=by
    rw [hi1];exact Go.Src.ofSlice w L.t24 ⟨vb,voff,none⟩ m vc vs hvl (fun j u hj=>by rw [Addr.add_lit]; exact hvs j u hj) h1v
  have hrun:∀ ty,(Builtin.append_ #[ρ.t 24,ρ.t 24] ty #[.slice base n c,.slice (some ⟨vb,voff,none⟩) m vc]).run P w=.ok (.slice (some ⟨w.heap.size,0,none⟩) (n+m) (grownCap w (n+m) c (ρ.t 9))) (w.drew.alloc (.cells ((cs ++ vs).toArray ++ Builtin.zeroCells z.cells (grownCap w (n+m) c (ρ.t 9) - (n+m))) (ρ.t 9))):=fun ty =>
    run_append_grow_src w (ρ.t 24) (ρ.t 24) ty (ρ.t 9) i0 z L.t24 hi0 hi3 base n c cs (by rw [hi1]; exact hold) _ m vs hsrc hroom (by omega) (by rw [hi2]; exact growslice_fits hroom hbig)
  clear hvs hold hsrc;generalize (w.drew.alloc (.cells ((cs ++ vs).toArray ++ Builtin.zeroCells z.cells (grownCap w (n+m) c (ρ.t 9) - (n+m))) (ρ.t 9)))=W at hrun ⊢;generalize grownCap w (n+m) c (ρ.t 9)=G at hrun ⊢;obtain ⟨_,_,FG⟩:=L.f22
  cases base with
  | none =>
    go_enter FG,Body2.n22_ntmps ρ
    go_wp2_with (at_builtin; refine Lib.wpList_append_run _ rfl _ _ _ _ rfl _ _ rfl rfl _ _ (hrun _) ?_)
    all_goals (go_ret; exact ⟨rfl,rfl⟩)
  | some a =>
    obtain ⟨ab,ao,asp⟩:=a
    go_enter FG,Body2.n22_ntmps ρ
    go_wp2_with (at_builtin; refine Lib.wpList_append_run _ rfl _ _ _ _ rfl _ _ rfl rfl _ _ (hrun _) ?_)
    all_goals (go_ret; exact ⟨rfl,rfl⟩)
theorem QtA {sz byt:Nat} {z:Value} (L:LIns P ρ sz byt z) (b off n c i vb voff m vc:Nat) (cs vs:List Value) (w:World) (hi:i < n) (hm:0 < m) (hnc:n≤c) (hroom:c < n+m) (hbig:(n+m)*byt≤140737488355328) (hbg2:n+m≤140737488355328)
    (hcl:cs.length=n*sz) (hvl:vs.length=m*sz)
    (hcs:∀ j v,cs[j]?=some v→w.cell? ⟨b,off+j,none⟩=some v)
    (hvs:∀ j v,vs[j]?=some v→w.cell? ⟨vb,voff+j,none⟩=some v) (h1c:∀ v ∈ cs,v.oneCell'=true) (h1v:∀ v ∈ vs,v.oneCell'=true) :
    Calls P (ρ.f 22) #[.slice (some ⟨b,off,none⟩) n c,.int .i64 i,.slice (some ⟨vb,voff,none⟩) m vc] w fun e w' =>
      e=.returned (.slice (some ⟨w.heap.size,0,none⟩) (n+m) (grownCap w (n+m) c (ρ.t 9))) ∧
      w'=(((w.alloc (.cells ((cs.take (i*sz)).toArray ++ Builtin.zeroCells z.cells (n+m - i) ++ Builtin.zeroCells z.cells (grownCap w (n+m) c (ρ.t 9) - (n+m))) (ρ.t 9))).drew.setCells w.heap.size (i*sz) vs).drew).setCells w.heap.size ((i+m)*sz) (cs.drop (i*sz)):=by
  have t0:=L.t0; have a0:=L.a0; have z0:=L.z0; have v0:=L.v0; have t3:=L.t3; have a3:=L.a3; have z3:=L.z3; have v3:=L.v3; have t4:=L.t4; have a4:=L.a4; have z4:=L.z4; have v4:=L.v4; have t24:=L.t24; have a24:=L.a24; have z24:=L.z24; have v24:=L.v24;have u0:=run_underlying L.t0; have u3:=run_underlying L.t3; have u4:=run_underlying L.t4; have u24:=run_underlying L.t24;have mixed:=L.mixed;have z9:=L.z9;have hpos:=L.pos;obtain ⟨i0,hi0,hi1,hi2,hi3⟩:=L.i9;have hsz:∃ i,P.info? (ρ.t 9)=some i∧i.size=sz:=⟨i0,hi0,hi1⟩;have hz1:¬ ((m:Int)=0):=by omega
  have hz2:¬ ((i:Int)=(n:Int)):=by omega
  have hz3:(c:Int) < (n:Int)+(m:Int):=by omega
  have hmul:∀ {a b:Nat},a≤b→a*sz≤b*sz:=fun h=>Nat.mul_le_mul_right sz h;have hns:n*sz=1*sz+(n - 1)*sz:=by rw [← Nat.add_mul]; congr 1; omega
  have hms:m*sz=1*sz+(m - 1)*sz:=by rw [← Nat.add_mul]; congr 1; omega
  have hbw:b < w.heap.size:=block_lt_of_cell (hcs 0 _ (List.getElem?_eq_getElem (by omega)));have hvw:vb < w.heap.size:=block_lt_of_cell (hvs 0 _ (List.getElem?_eq_getElem (by omega)));have hkk:(n:Int)+(m:Int) - (i:Int)=((n+m - i:Nat):Int):=by omega
  have hik:i+(n+m - i)=n+m:=by omega
  have e2:i*sz+(n - i)*sz=n*sz:=by rw [← Nat.add_mul]; congr 1; omega
  have hold:(Builtin.firstCells i0.size i (.slice (some ⟨b,off,none⟩) i c)).run P w.drew=.ok (cs.take (i*sz)).toArray w.drew:=by
    rw [hi1];exact run_firstCells_some w.drew sz i ⟨b,off,none⟩ i c (cs.take (i*sz)) (by rw [List.length_take]; omega) (fun j v hj=>by
      rw [Addr.add_lit];rw [List.getElem?_take] at hj;split at hj
      · exact hcs j v hj
      · cases hj)
  have hrz:∀ ty,(Builtin.append_ #[(ρ.t 24),(ρ.t 3)] ty #[.slice (some ⟨b,off,none⟩) i c,.int .i64 ((n:Int)+(m:Int) - (i:Int))]).run P w =
      .ok (.slice (some ⟨w.heap.size,0,none⟩) (n+m) (grownCap w (n+m) c (ρ.t 9))) (w.drew.alloc (.cells ((cs.take (i*sz)).toArray ++ Builtin.zeroCells z.cells (n+m - i) ++ Builtin.zeroCells z.cells (grownCap w (n+m) c (ρ.t 9) - (n+m))) (ρ.t 9))):=fun ty=>by
    have hbyt:(n+m - i)*byt≤(n+m)*byt:=Nat.mul_le_mul_right _ (by omega);have h:=Lib.run_append_grow_zeros w (ρ.t 24) (ρ.t 3) ty (ρ.t 9) i0 _ .i64 .i64 L.t24 L.t3 hi0 hi3 (some ⟨b,off,none⟩) i c (cs.take (i*sz)) hold (n+m - i) (by omega) (by omega) (by omega) (by omega) (by rw [hi2]; omega) (by rw [hi2,hik]; exact growslice_fits hroom hbig);rw [hik] at h;rw [hkk];exact h
  have hGn:n+m≤grownCap w (n+m) c (ρ.t 9):=grownCap_ge w _ _ _;have hG63:grownCap w (n+m) c (ρ.t 9)≤9223372036854775807:=by
    have:=grownCap_le_maxLen w (n+m) c (ρ.t 9) (by unfold maxLen; omega);unfold maxLen at this;omega
  generalize grownCap w (n+m) c (ρ.t 9)=G at *;obtain ⟨ROW,hROW⟩:∃ ROW:Array Value,ROW=(cs.take (i*sz)).toArray ++ Builtin.zeroCells z.cells (n+m - i) ++ Builtin.zeroCells z.cells (G - (n+m)):=⟨_,rfl⟩;rw [← hROW] at hrz ⊢;have e5:(i+(n+m - i))*sz=i*sz+(n+m - i)*sz:=Nat.add_mul _ _ _;rw [hik] at e5;have hRl:(n+m)*sz≤ROW.size:=by
    have zs:∀ k,(Builtin.zeroCells z.cells k).size=k*sz:=fun k=>by rw [← L.c9]; simp [Builtin.zeroCells]
    rw [hROW,Array.size_append,Array.size_append,zs,zs];have:(cs.take (i*sz)).toArray.size=i*sz:=by simp; omega
    omega
  obtain ⟨W1,hW1⟩:∃ W1,W1=w.drew.alloc (.cells ROW (ρ.t 9)):=⟨_,rfl⟩;rw [← hW1] at hrz;have hN:∀ j,j < (n+m)*sz→(W1.cell? ⟨w.heap.size,j,none⟩).isSome=true:=fun j hj=>by
    rw [hW1,World.cell?_alloc_at (w:=w.drew) ROW _ w.heap.size j rfl,Array.getElem?_eq_getElem (by omega)]; rfl
  have hNf:∀ j,W1.frozen? ⟨w.heap.size,j,none⟩=false:=fun j=>by rw [hW1]; exact World.frozen?_alloc_at (w:=w.drew) ROW _ w.heap.size j rfl
  have hOb:∀ j v,w.cell? ⟨b,j,none⟩=some v→W1.cell? ⟨b,j,none⟩=some v:=fun j v h=>by rw [hW1,World.cell?_alloc_past (w:=w.drew) _ b j hbw]; exact h
  have hOv:∀ j v,w.cell? ⟨vb,j,none⟩=some v→W1.cell? ⟨vb,j,none⟩=some v:=fun j v h=>by rw [hW1,World.cell?_alloc_past (w:=w.drew) _ vb j hvw]; exact h
  have hmin1:Nat.min m (n+m - i)=m:=by simp only [Nat.min_def]; split <;> omega
  have hmin2:Nat.min (n - i) (n+m - (i+m))=n - i:=by simp only [Nat.min_def]; split <;> omega
  have e1:(i+m)*sz+(n - i)*sz=(n+m)*sz:=by rw [← Nat.add_mul]; congr 1; omega
  have e3:i*sz+m*sz≤(n+m)*sz:=by rw [← Nat.add_mul]; exact hmul (by omega)
  have hcpA:∀ (W:World),(∀ x,W.cell? x=W1.cell? x)→(∀ x,W.frozen? x=W1.frozen? x)→∀ ty dc,(Builtin.copy_ #[(ρ.t 24),(ρ.t 24)] ty #[.slice (some ⟨w.heap.size,i*sz,none⟩) (n+m - i) dc,.slice (some ⟨vb,voff,none⟩) m vc]).run P W=.ok (goInt (m:Int)) (W.setCells w.heap.size (i*sz) vs):=fun W hWc hWf ty dc=>by
    have:=QcR (P:=P) W (ρ.t 24) (ρ.t 24) ty (ρ.t 9) sz w.heap.size (i*sz) (n+m - i) dc ⟨vb,voff,none⟩ m vc vs L.t24 hsz (by rw [hvl,hmin1])
      (fun j v hj=>by rw [Addr.add_lit,hWc]; exact hOv _ v (hvs j v hj))
      (fun j hj=>by rw [hWc]; exact hN _ (by omega)) (fun j hj=>by rw [hWf]; exact hNf _) h1v
    rwa [hmin1] at this
  have hGi:¬ (G=i):=by omega
  have hGim:¬ (G=i+m):=by omega
  have hci:¬ (c=i):=by omega
  have hbN:b ≠ w.heap.size:=by omega
  have hdl:(cs.drop (i*sz)).length=(n - i)*sz:=by rw [List.length_drop,hcl,Nat.sub_mul]
  have hcpB:∀ (W:World),(∀ x,W.cell? x=(W1.setCells w.heap.size (i*sz) vs).cell? x)→(∀ x,W.frozen? x=(W1.setCells w.heap.size (i*sz) vs).frozen? x)→∀ ty dc sc,(Builtin.copy_ #[(ρ.t 24),(ρ.t 24)] ty #[.slice (some ⟨w.heap.size,(i+m)*sz,none⟩) (n+m - (i+m)) dc,.slice (some ⟨b,off+i*sz,none⟩) (n - i) sc]).run P W=.ok (goInt ((n - i:Nat):Int)) (W.setCells w.heap.size ((i+m)*sz) (cs.drop (i*sz))):=fun W hWc hWf ty dc sc=>by
    have:=QcR (P:=P) W (ρ.t 24) (ρ.t 24) ty (ρ.t 9) sz w.heap.size ((i+m)*sz) (n+m - (i+m)) dc ⟨b,off+i*sz,none⟩ (n - i) sc (cs.drop (i*sz)) L.t24 hsz (by rw [hdl,hmin2])
      (fun j v hj=>by
        rw [Addr.add_lit,hWc,World.cell?_setCells_out _ _ _ _ _ (fun h _=>absurd h hbN),Nat.add_assoc];exact hOb _ v (hcs (i*sz+j) v (by rwa [List.getElem?_drop] at hj)))
      (fun j hj=>by rw [hWc]; exact isSome_setCells _ _ _ _ (fun t ht=>hN _ (by omega)) _ (hN _ (by omega)))
      (fun j hj=>by rw [hWf,World.frozen?_setCells]; exact hNf _) (fun v hv=>h1c v (List.mem_of_mem_drop hv))
    rwa [hmin2] at this
  subst hW1;have hE1:∀ x,((w.alloc (.cells ROW (ρ.t 9))).drew).cell? x=(w.drew.alloc (.cells ROW (ρ.t 9))).cell? x:=fun x=>rfl;have hE2:∀ x,((w.alloc (.cells ROW (ρ.t 9))).drew).frozen? x=(w.drew.alloc (.cells ROW (ρ.t 9))).frozen? x:=fun x=>rfl;have hF1:∀ x,(((w.alloc (.cells ROW (ρ.t 9))).drew.setCells w.heap.size (i*sz) vs).drew).cell? x=((w.drew.alloc (.cells ROW (ρ.t 9))).setCells w.heap.size (i*sz) vs).cell? x:=fun x=>rfl;have hF2:∀ x,(((w.alloc (.cells ROW (ρ.t 9))).drew.setCells w.heap.size (i*sz) vs).drew).frozen? x=((w.drew.alloc (.cells ROW (ρ.t 9))).setCells w.heap.size (i*sz) vs).frozen? x:=fun x=>rfl;have hw1:IntKind.i64.wrap ((i:Int)+(m:Int))=(i:Int)+(m:Int):=by rw [IntKind.wrap_i64]; omega
  have hb1:(0:Int)≤(i:Int)+(m:Int):=by omega
  have hin:i≤n:=by omega
  have htn:((i:Int)+(m:Int)).toNat=i+m:=by omega
  have hb3:(i:Int)≤(n:Int):=by omega
  have h0i:0+i*sz=i*sz:=Nat.zero_add _;have h0im:0+(i+m)*sz=(i+m)*sz:=Nat.zero_add _;clear hkk hik hold hROW hRl hmul hns hms e1 e2 e3 e5 hmin1 hmin2 hdl hN hNf hOb hOv hcs hvs;obtain ⟨_,_,FG⟩:=L.f22
  go_enter FG,Body2.n22_ntmps ρ
  go_wp2_with (first
    | (at_builtin; refine Lib.wpList_append_run _ rfl _ _ _ _ rfl _ _ rfl rfl _ _ (hrz _) ?_)
    | (at_builtin; refine wpList_copy_runI _ rfl _ _ (ρ.t 24) (ρ.t 24) rfl _ _ rfl rfl (hcpA _ hE1 hE2 _ _) ?_)
    | (at_builtin; refine wpList_copy_runI _ rfl _ _ (ρ.t 24) (ρ.t 24) rfl _ _ rfl rfl (hcpB _ (fun _=>rfl) (fun _=>rfl) _ _ _) ?_))
  go_region_law_o (refine step_copy_runI rfl _ _ (ρ.t 24) (ρ.t 24) rfl (.slice (some ⟨w.heap.size,(i+m)*sz,none⟩) (n+m - (i+m)) (G - (i+m))) (.slice (some ⟨b,off+i*sz,none⟩) (n - i) (c - i)) (by simp [Act.eval,Act.put]) (by simp [Act.eval,Act.put]) (hcpB _ hF1 hF2 (ρ.t 3) (G - (i+m)) (c - i)) ?_)
  go_wp2
  go_ret
  exact ⟨rfl,rfl⟩
def ZC (C:Array Value) (o k:Nat):List Value:=(List.range k).map fun j=>C.getD (o+j) undef
theorem QP {C:Array Value} {o k:Nat}:(ZC C o k).length=k:=by simp [ZC]
theorem Qlq {C:Array Value} {o k j:Nat} (h:j < k):(ZC C o k)[j]?=some (C.getD (o+j) undef):=by simp [ZC,h]
theorem QbY {C:Array Value} {o k j:Nat} (h:j < k):(ZC C o k).getD j undef=C.getD (o+j) undef:=by rw [List.getD_eq_getElem?_getD,Qlq h]; rfl
theorem Qhb {C:Array Value} {o k j:Nat} {v:Value} (h:(ZC C o k)[j]?=some v):j < k∧v=C.getD (o+j) undef:=by
  have hj:j < k:=by have:=(List.getElem?_eq_some_iff.1 h).1; rwa [QP] at this
  rw [Qlq hj] at h;exact ⟨hj,(Option.some.inj h).symm⟩
theorem QtB {A B D:List Value} (k:Nat):(A ++ B ++ D).getD k undef=if k < A.length then A.getD k undef else if k < A.length+B.length then B.getD (k - A.length) undef else D.getD (k - A.length - B.length) undef:=by
  simp only [List.getD_eq_getElem?_getD]
  by_cases h1:k < A.length
  · rw [if_pos h1,List.append_assoc,List.getElem?_append_left h1]
  · rw [if_neg h1]
    by_cases h2:k < A.length+B.length
    · rw [if_pos h2,List.getElem?_append_left (by simp; omega),List.getElem?_append_right (by omega)]
    · rw [if_neg h2,List.getElem?_append_right (by simp; omega)];simp only [List.length_append]
      congr 2; omega
theorem Qgo {l:List Value} {a k:Nat} (h:k < a):(l.take a).getD k undef=l.getD k undef:=by simp [List.getD_eq_getElem?_getD,List.getElem?_take,h]
theorem QqN {l:List Value} {a k:Nat}:(l.drop a).getD k undef=l.getD (a+k) undef:=by simp [List.getD_eq_getElem?_getD,List.getElem?_drop]
def Quq (sz n b:Nat) (Cs:List Value) (w:World) (e:Ending) (w':World):Prop :=
  ∃ b' o' c' C' et,e=.returned (.slice (some ⟨b',o',none⟩) n c')∧w'.heap[b']?=some (.cells C' et (0,0))∧n≤c'∧o'+c'*sz≤C'.size∧(∀ k,k < n*sz→C'.getD (o'+k) undef=Cs.getD k undef)∧(b'=b ∨ w.heap.size≤b') ∧
    (∀ k,k < w.heap.size→k ≠ b→w'.heap[k]?=w.heap[k]?)∧w.heap.size≤w'.heap.size∧w'.os=w.os∧w'.tape=w.tape∧w'.output=w.output
theorem Qkc {w:World} {o:Obj}:(w.drew.alloc o).heap[w.heap.size]?=some o:=by
  show (w.heap.push o)[w.heap.size]?=_;simp
theorem Qkd {w:World} {o:Obj} {k:Nat} (h:k < w.heap.size):(w.drew.alloc o).heap[k]?=w.heap[k]?:=by
  show (w.heap.push o)[k]?=_;rw [Array.getElem?_push,if_neg (by omega)]
theorem Qmf {w:World} {o:Obj}:w.heap.size≤(w.drew.alloc o).heap.size:=by
  show w.heap.size≤(w.heap.push o).size;simp
theorem Qke {X:List Value} {Y:Array Value} {k:Nat} (h:k < X.length):(X.toArray ++ Y).getD k undef=X.getD k undef:=by
  simp [Array.getD_eq_getD_getElem?,List.getD_eq_getElem?_getD,Array.getElem?_append,h]
theorem Qmg {z:Value} {k:Nat}:(Builtin.zeroCells z.cells k).size=k*z.cells.size:=by simp [Builtin.zeroCells]
theorem Qvi {sz byt:Nat} {z:Value} (L:LIns P ρ sz byt z) (b off n c i vb voff m vc:Nat) (C V:Array Value) (et vt:TypeId) (w:World) (hi:i≤n) (hm:0 < m) (hnc:n≤c) (hbig:(n+m)*(byt+1)≤70368744177664) (hvb:vb ≠ b)
    (hC:w.heap[b]?=some (.cells C et (0,0))) (hcs:off+c*sz≤C.size) (hV:w.heap[vb]?=some (.cells V vt (0,0))) (hvs:voff+m*sz≤V.size)
    (h1:∀ k,k < n*sz→(C.getD (off+k) undef).oneCell'=true) (h2:∀ k,k < m*sz→(V.getD (voff+k) undef).oneCell'=true) :
    Calls P (ρ.f 22) #[.slice (some ⟨b,off,none⟩) n c,.int .i64 i,.slice (some ⟨vb,voff,none⟩) m vc] w (Quq sz (n+m) b ((ZC C off (n*sz)).take (i*sz) ++ ZC V voff (m*sz) ++ (ZC C off (n*sz)).drop (i*sz)) w):=by
  have hpos:=L.pos;have hmul:∀ {a b:Nat},a≤b→a*sz≤b*sz:=fun h=>Nat.mul_le_mul_right sz h;have hb1:(n+m)*byt≤140737488355328:=Nat.le_trans (Nat.mul_le_mul_left _ (by omega:byt≤byt+1)) (by omega);have hb2:n+m≤140737488355328:=Nat.le_trans (by have:=Nat.mul_le_mul_left (n+m) (by omega:1≤byt+1); omega) (Nat.le_trans hbig (by decide));have hnm:(n+m)*sz=n*sz+m*sz:=Nat.add_mul _ _ _;have him:(i+m)*sz=i*sz+m*sz:=Nat.add_mul _ _ _;have hin:=hmul hi;have hin2:(n - i)*sz=n*sz - i*sz:=Nat.sub_mul _ _ _;have hnc':=hmul hnc;have cA:∀ j v,(ZC C off (n*sz))[j]?=some v→w.cell? ⟨b,off+j,none⟩=some v:=fun j v h=>by
    obtain ⟨hj,rfl⟩:=Qhb h;exact QaO hC (by omega)
  have cB:∀ j v,(ZC V voff (m*sz))[j]?=some v→w.cell? ⟨vb,voff+j,none⟩=some v:=fun j v h=>by
    obtain ⟨hj,rfl⟩:=Qhb h;exact QaO hV (by omega)
  have oA:∀ v ∈ ZC C off (n*sz),v.oneCell'=true:=fun v h=>by
    obtain ⟨j,hj,rfl⟩:=List.mem_map.1 h;exact h1 j (by simpa using hj)
  have oB:∀ v ∈ ZC V voff (m*sz),v.oneCell'=true:=fun v h=>by
    obtain ⟨j,hj,rfl⟩:=List.mem_map.1 h;exact h2 j (by simpa using hj)
  have lt:(List.take (i*sz) (ZC C off (n*sz))).length=i*sz:=by rw [List.length_take,QP]; omega
  have hms:m*sz=1*sz+(m - 1)*sz:=by rw [← Nat.add_mul]; congr 1; omega
  by_cases hin':i < n
  · have hns:n*sz=1*sz+(n - 1)*sz:=by rw [← Nat.add_mul]; congr 1; omega
    by_cases hr:n+m≤c
    · have hrs:=hmul hr;refine Calls.mono (QrU L b off n c i vb voff m vc (ZC C off (n*sz)) (ZC V voff (m*sz)) w hin' hm hr (by omega) hvb QP QP cA (fun j hj=>by rw [QaO hC (by omega)]; rfl) (fun j hj=>frozen_of_row w _ _ C et hC) cB oA oB vt et V.size C.size
        (by simp [World.shape?,hV]) (by simp [World.shape?,hC]) (by omega) (frozen_of_row w _ _ V vt hV) (frozen_of_row w _ _ V vt hV)) ?_
      rintro e w' ⟨rfl,rfl⟩;have ld:(List.drop (i*sz) (ZC C off (n*sz))).length=(n - i)*sz:=by rw [List.length_drop,QP,hin2]
      obtain ⟨C1,a1,a2,a3⟩:=Qa7 b (List.drop (i*sz) (ZC C off (n*sz))) (off+(i+m)*sz) w.drew (show w.drew.heap[b]?=_ from hC) (by rw [ld]; omega);obtain ⟨C2,b1,b2,b3⟩:=Qa7 b (ZC V voff (m*sz)) (off+i*sz) _ a1 (by rw [QP]; omega);obtain ⟨r1,r2,r3,r4,r5⟩:=QaI b (List.drop (i*sz) (ZC C off (n*sz))) (off+(i+m)*sz) w.drew;obtain ⟨q1,q2,q3,q4,q5⟩:=QaI b (ZC V voff (m*sz)) (off+i*sz) (w.drew.setCells b (off+(i+m)*sz) (List.drop (i*sz) (ZC C off (n*sz))));refine ⟨b,off,c,C2,et,rfl,b1,hr,by rw [b2,a2]; exact hcs,fun k hk=>?_,.inl rfl,fun k _ hk=>(q1 k hk).trans (r1 k hk),by rw [q2,r2]; exact Nat.le_refl _,q3.trans r3,q4.trans r4,q5.trans r5⟩;rw [b3,QP,QtB,lt,QP,a3,ld]
      by_cases k1:k < i*sz
      · rw [if_neg (by omega),if_neg (by omega),if_pos k1,Qgo k1,QbY (by omega)]
      · by_cases k2:k < i*sz+m*sz
        · rw [if_pos (by omega),if_neg k1,if_pos k2]
          congr 1; omega
        · rw [if_neg (by omega),if_pos (by omega),if_neg k1,if_neg k2]
          congr 1; omega
    · have hg:=grownCap_ge w (n+m) c (ρ.t 9);refine Calls.mono (QtA L b off n c i vb voff m vc (ZC C off (n*sz)) (ZC V voff (m*sz)) w hin' hm hnc (by omega) hb1 hb2 QP QP cA cB oA oB) ?_;rintro e w' ⟨rfl,rfl⟩;generalize grownCap w (n+m) c (ρ.t 9)=G at hg ⊢;have hgs:=hmul hg;have hG:G*sz=(n+m)*sz+(G - (n+m))*sz:=by rw [← Nat.add_mul]; congr 1; omega
      have hZ:(n+m - i)*sz+i*sz=(n+m)*sz:=by rw [← Nat.add_mul]; congr 1; omega
      obtain ⟨ROW,hROW⟩:∃ ROW:Array Value,ROW=(List.take (i*sz) (ZC C off (n*sz))).toArray ++ Builtin.zeroCells z.cells (n+m - i) ++ Builtin.zeroCells z.cells (G - (n+m)):=⟨_,rfl⟩;rw [← hROW];have hRs:ROW.size=G*sz:=by
        rw [hROW,Array.size_append,Array.size_append,Qmg,Qmg,L.c9];have:(List.take (i*sz) (ZC C off (n*sz))).toArray.size=i*sz:=by simpa using lt
        omega
      have hRg:∀ k,k < i*sz→ROW.getD k undef=C.getD (off+k) undef:=fun k hk=>by
        rw [hROW,Array.append_assoc,Qke (by omega),Qgo hk,QbY (by omega)]
      have ld:(List.drop (i*sz) (ZC C off (n*sz))).length=(n - i)*sz:=by rw [List.length_drop,QP,hin2]
      have ha:((w.alloc (.cells ROW (ρ.t 9))).drew).heap[w.heap.size]?=some (.cells ROW (ρ.t 9) (0,0)):=Qkc (w:=w);obtain ⟨C1,a1,a2,a3⟩:=Qa7 w.heap.size (ZC V voff (m*sz)) (i*sz) _ ha (by rw [QP]; omega);obtain ⟨C2,b1,b2,b3⟩:=Qa7 w.heap.size (List.drop (i*sz) (ZC C off (n*sz))) ((i+m)*sz) ((((w.alloc (.cells ROW (ρ.t 9))).drew).setCells w.heap.size (i*sz) (ZC V voff (m*sz))).drew) a1 (by rw [ld]; omega);obtain ⟨r1,r2,r3,r4,r5⟩:=QaI w.heap.size (ZC V voff (m*sz)) (i*sz) ((w.alloc (.cells ROW (ρ.t 9))).drew);obtain ⟨q1,q2,q3,q4,q5⟩:=QaI w.heap.size (List.drop (i*sz) (ZC C off (n*sz))) ((i+m)*sz) ((((w.alloc (.cells ROW (ρ.t 9))).drew).setCells w.heap.size (i*sz) (ZC V voff (m*sz))).drew);refine ⟨w.heap.size,0,G,C2,ρ.t 9,rfl,b1,hg,by rw [b2,a2,hRs]; omega,fun k hk=>?_,.inr (Nat.le_refl _),fun k hk _=>?_,?_,q3.trans r3,q4.trans r4,q5.trans r5⟩
      · rw [Nat.zero_add,b3,ld,a3,QP,QtB,lt,QP]
        by_cases k1:k < i*sz
        · rw [if_neg (by omega),if_neg (by omega),if_pos k1,hRg k k1,Qgo k1,QbY (by omega)]
        · by_cases k2:k < i*sz+m*sz
          · rw [if_neg (by omega),if_pos (by omega),if_neg k1,if_pos k2]
          · rw [if_pos (by omega),if_neg k1,if_neg k2]
            congr 1; omega
      · exact (q1 k (by omega)).trans ((r1 k (by omega)).trans (Qkd (w:=w) hk))
      · rw [q2];show w.heap.size≤(((w.alloc (.cells ROW (ρ.t 9))).drew).setCells w.heap.size (i*sz) (ZC V voff (m*sz))).heap.size;rw [r2];exact Qmf (w:=w)
  · have hin:i=n:=by omega
    subst hin;have hdr:List.drop (i*sz) (ZC C off (i*sz))=[]:=List.drop_eq_nil_of_le (by rw [QP]; exact Nat.le_refl _);have htk:List.take (i*sz) (ZC C off (i*sz))=ZC C off (i*sz):=List.take_of_length_le (by rw [QP]; exact Nat.le_refl _);rw [hdr,htk,List.append_nil]
    by_cases hr:i+m≤c
    · have hrs:=hmul hr;refine Calls.mono (Qnk L b off i c vb voff m vc (ZC V voff (m*sz)) w hm hr QP (fun j hj=>by rw [QaO hC (by omega)]; rfl) (fun j hj=>frozen_of_row w _ _ C et hC) cB oB) ?_;rintro e w' ⟨rfl,rfl⟩;obtain ⟨C1,a1,a2,a3⟩:=Qa7 b (ZC V voff (m*sz)) (off+i*sz) w hC (by rw [QP]; omega);obtain ⟨r1,r2,r3,r4,r5⟩:=QaI b (ZC V voff (m*sz)) (off+i*sz) w;refine ⟨b,off,c,C1,et,rfl,a1,hr,by rw [a2]; exact hcs,fun k hk=>?_,.inl rfl,fun k _ hk=>r1 k hk,by rw [r2]; exact Nat.le_refl _,r3,r4,r5⟩;rw [a3,QP,← List.append_nil (ZC C off (i*sz) ++ _),QtB,QP,QP]
      by_cases k1:k < i*sz
      · rw [if_neg (by omega),if_pos k1,QbY k1]
      · rw [if_pos (by omega),if_neg k1,if_pos (by omega)]
        congr 1; omega
    · have hg:=grownCap_ge w (i+m) c (ρ.t 9);refine Calls.mono (QiK L (some ⟨b,off,none⟩) i c vb voff m vc (ZC C off (i*sz)) (ZC V voff (m*sz)) w hm (by omega) hb1 hb2 (run_firstCells_some w.drew sz i ⟨b,off,none⟩ i c _ QP fun j v hj=>by rw [Addr.add_lit]; exact cA j v hj) QP cB oB) ?_;rintro e w' ⟨rfl,rfl⟩;generalize grownCap w (i+m) c (ρ.t 9)=G at hg ⊢;have hG:G*sz=(i+m)*sz+(G - (i+m))*sz:=by rw [← Nat.add_mul]; congr 1; omega
      refine ⟨w.heap.size,0,G,(ZC C off (i*sz) ++ ZC V voff (m*sz)).toArray ++ Builtin.zeroCells z.cells (G - (i+m)),ρ.t 9,rfl,Qkc,hg,?_,fun k hk=>?_,.inr (Nat.le_refl _),fun k hk _=>?_,?_,rfl,rfl,rfl⟩
      · rw [Array.size_append,Qmg,L.c9];simp only [List.size_toArray,List.length_append,QP];omega
      · rw [Nat.zero_add,Qke (by rw [List.length_append,QP,QP]; omega)]
      · exact Qkd hk
      · exact Qmf
def QoP {α:Type} (xs:List α) (i:Nat) (ys:List α):List α:=xs.take i ++ ys ++ xs.drop i
theorem QtC {α:Type} {xs ys:List α} {i:Nat} (h:i≤xs.length):(QoP xs i ys).length=xs.length+ys.length:=by simp [QoP]; omega
theorem QtD {α:Type} [Inhabited α] {xs ys:List α} {i q:Nat} (h:i≤xs.length):(QoP xs i ys).getD q default=if q < i then xs.getD q default else if q < i+ys.length then ys.getD (q - i) default else xs.getD (q - ys.length) default:=by
  have hl:(xs.take i).length=i:=by simp; omega
  simp only [List.getD_eq_getElem?_getD,QoP]
  by_cases h1:q < i
  · rw [if_pos h1,List.append_assoc,List.getElem?_append_left (by omega),List.getElem?_take,if_pos h1]
  · rw [if_neg h1]
    by_cases h2:q < i+ys.length
    · rw [if_pos h2,List.getElem?_append_left (by simp; omega),List.getElem?_append_right (by omega),hl]
    · rw [if_neg h2,List.getElem?_append_right (by simp; omega),List.length_append,hl,List.getElem?_drop,show i+(q - (i+ys.length))=q - ys.length by omega]
theorem QtE {w:World} {ow:Nat→Prop} {ρ:Env} {u u':V} {a:Int} {vals:Array Value} (h:Qhz w ow ρ [u,.d (.int .i64 a),u'] vals):∃ v v',vals=#[v,.int .i64 a,v']∧VR w ow ρ u v∧VR w ow ρ u' v':=by
  obtain ⟨h1,h2⟩:=h;have h1:vals.size=3:=h1;have e1:=h2 1 _ rfl;have f1:vals.getD 1 undef=.int .i64 a:=by generalize vals.getD 1 undef=y at e1 ⊢; cases e1 with | d e=>cases e; rfl
  refine ⟨vals.getD 0 undef,vals.getD 2 undef,?_,h2 0 u rfl,h2 2 u' rfl⟩
  apply Array.ext
  · simp [h1]
  · intro i hi _;have:i=0 ∨ i=1 ∨ i=2:=by omega
    rcases this with rfl | rfl | rfl
    · simp [Array.getD_eq_getD_getElem?,hi]
    · rw [Array.getD_eq_getD_getElem?,Array.getElem?_eq_getElem hi] at f1; exact f1
    · simp [Array.getD_eq_getD_getElem?,hi]
theorem Qpq {α:Type} [Inhabited α] {enc:α→List D} {t:TypeId} {sz:Nat} (hlen:∀ x,(enc x).length=sz) {bs:List (Nat × Blk)} {ρ0:Env} {Z:Nat→Prop} {w w':World} {e:Ending} {zs:List α} {Cs:List Value} {b:Nat} (hids:∀ i x,Qh bs i=some x→i ≠ 5001) (harr:∀ i x,Qh bs i=some x→x.bx=false)
    (hb:own bs ρ0 b ∨ w.heap.size≤b) (hZ:∀ b,own bs ρ0 b→¬ Z b) (hlt:∀ b,Z b→b < w.heap.size) (h:Quq sz zs.length b Cs w e w')
    (hrows:∀ q k d,q < zs.length→(rows enc zs q)[k]?=some d→DR w (fun x=>own bs ρ0 x ∨ Z x) d (Cs.getD (q*sz+k) undef)) :
    ∃ v ρ,e=.returned v∧KeptE bs ρ0 w w'∧(∀ i x y,Qh bs i=some x→Qh [(5001,Blk.arr t sz zs.length (rows enc zs))] i=some y→Agr (ρ0 i) (ρ i)) ∧
      VR w' (fun x=>own [(5001,Blk.arr t sz zs.length (rows enc zs))] ρ x ∨ Z x) ρ (.osl 5001 0 zs.length) v∧(∀ i b,Qh [(5001,Blk.arr t sz zs.length (rows enc zs))] i=some b→BR w' (fun x=>own [(5001,Blk.arr t sz zs.length (rows enc zs))] ρ x ∨ Z x) ρ i b) ∧
      (∀ i j x y,Qh [(5001,Blk.arr t sz zs.length (rows enc zs))] i=some x→Qh [(5001,Blk.arr t sz zs.length (rows enc zs))] j=some y→(ρ i).ph=false→(ρ j).ph=false→(ρ i).b=(ρ j).b→i=j) ∧
      (∀ i x,Qh [(5001,Blk.arr t sz zs.length (rows enc zs))] i=some x→(ρ i).ph=false→(w.heap.size≤(ρ i).b ∨ own bs ρ0 (ρ i).b)∧∀ k,Qtq bs ρ0 (ρ i).b k→x.bx=true∧(k < (ρ i).o ∨ (ρ i).o+(ρ i).cap*(ρ i).sz≤k)):=by
  obtain ⟨b',o',c',C',et,rfl,g1,g2,g3,g4,g5,g6,g7,g8,g9,g10⟩:=h;have hb':own bs ρ0 b' ∨ w.heap.size≤b':=by
    rcases g5 with rfl | g5
    · exact hb
    · exact .inr g5
  have same:∀ k,k < w.heap.size→¬ own bs ρ0 k→w'.heap[k]?=w.heap[k]?:=fun k hk ho=>g6 k hk fun e=>by
    subst e;rcases hb with hb | hb
    · exact ho hb
    · omega
  have keep:Keep w (fun x=>own bs ρ0 x ∨ Z x) w' (fun x=>own [(5001,Blk.arr t sz zs.length (rows enc zs))] (fun _=>⟨b',o',sz,zs.length,c',false⟩) x ∨ Z x) :=
    ⟨g7,fun k hk ho=>⟨same k hk fun h=>ho (.inl h),fun h=>by
      rcases h with ⟨i,y,hy,_,rfl⟩ | h
      · rcases hb' with hb' | hb'
        · exact ho (.inl hb')
        · exact absurd hk (by dsimp only; omega)
      · exact ho (.inr h)⟩⟩
  refine ⟨_,fun _=>⟨b',o',sz,zs.length,c',false⟩,rfl,Qj3 harr ⟨g8,g9,g10,g7,fun k hk=>same k hk.1 hk.2⟩,fun i x y hx hy=>?_,?_,?_,fun i j x y hx hy _ _ _=>(Qah hx).1.trans (Qah hy).1.symm,fun i x hx hp=>⟨hb'.symm,fun k hc=>(Ql7 harr hc).elim⟩⟩
  · obtain ⟨rfl,_⟩:=Qah hy;exact absurd rfl (hids _ _ hx)
  · have:=VR.osl (w:=w') (own:=fun x=>own [(5001,Blk.arr t sz zs.length (rows enc zs))] (fun _=>⟨b',o',sz,zs.length,c',false⟩) x ∨ Z x) (ρ:=fun _=>⟨b',o',sz,zs.length,c',false⟩) (id:=5001) (off:=0) (len:=zs.length) rfl (by simp) g2;simpa using this
  · intro i' b hib;obtain ⟨rfl,rfl⟩:=Qah hib;refine .arr C' et rfl rfl rfl g2 (fun q hq=>?_) g1 g3 fun q k d hq hd=>?_
    · simp only [rows]; exact hlen _
    · dsimp only;have hk:k < sz:=by
        have:=(List.getElem?_eq_some_iff.1 hd).1;simp only [rows,hlen] at this;exact this
      have hm:(q+1)*sz≤zs.length*sz:=Nat.mul_le_mul_right _ (by omega);rw [Nat.add_mul] at hm;rw [Nat.add_assoc,g4 _ (by omega)];exact (hrows q k d hq hd).keep keep
theorem QoQ {α:Type} [Inhabited α] {enc:α→List D} {t:TypeId} {sz byt:Nat} {z:Value} (L:LIns P ρ sz byt z) (can:Callable P (ρ.f 22)) (hlen:∀ x,(enc x).length=sz) {xs ys:List α} {i:Nat} (hi:i≤xs.length) (hm:0 < ys.length) (hbig:(xs.length+ys.length)*(byt+1)≤70368744177664) :
    EffC P (ρ.f 22) [.osl 9000 0 xs.length,.d (.int .i64 i),.osl 9001 0 ys.length] [(9000,.arr t sz xs.length (rows enc xs)),(9001,.arr t sz ys.length (rows enc ys))] (.osl 5001 0 (QoP xs i ys).length) [(5001,.arr t sz (QoP xs i ys).length (rows enc (QoP xs i ys)))]:=by
  refine ⟨can,rfl,rfl,fun Z w vals ρ0 hv hblk hsep hZ hlt htab=>?_⟩;obtain ⟨v,v',rfl,hv1,hv2⟩:=QtE hv;have hb:=hblk 9000 _ rfl;have hb2:=hblk 9001 _ rfl;obtain ⟨ad,c,rfl,h1,h2⟩:=hv1.osl_inv;obtain ⟨ad',c',rfl,h1',h2'⟩:=hv2.osl_inv;have hzl:=QtC (ys:=ys) hi;have hids:∀ i x,Qh [(9000,Blk.arr t sz xs.length (rows enc xs)),(9001,Blk.arr t sz ys.length (rows enc ys))] i=some x→i ≠ 5001:=fun i x h e=>by
    subst e; simp [Qh] at h
  have harr:∀ i x,Qh [(9000,Blk.arr t sz xs.length (rows enc xs)),(9001,Blk.arr t sz ys.length (rows enc ys))] i=some x→x.bx=false:=fun i x h=>by
    rcases QQ h with ⟨_,rfl⟩ | ⟨_,h⟩
    · rfl
    · rw [(Qah h).2]; rfl
  have hZ2:∀ b,own [(9000,Blk.arr t sz xs.length (rows enc xs)),(9001,Blk.arr t sz ys.length (rows enc ys))] ρ0 b→¬ Z b:=fun b ⟨i,x,hx,hp,e⟩=>e ▸ hZ i x hx hp;rcases h2' with ⟨h2',_⟩ | ⟨hp',h3',rfl,rfl⟩
  · omega
  have hrowl:∀ (l:List α) q,(rows enc l q).length=sz:=fun l q=>by simp only [rows]; exact hlen _
  cases hb2 with
  | arr0 h _ _ _=>rw [hp'] at h; cases h
  | arr V vt k1 k2 k3 k4 k5 k6 k7 k8 =>
  have e0:(ρ0 9001).o+0*(ρ0 9001).sz=(ρ0 9001).o:=by omega
  rw [e0];have hmc:ys.length*sz≤(ρ0 9001).cap*sz:=Nat.mul_le_mul_right _ k4;have oneV:∀ k,k < ys.length*sz→(V.getD ((ρ0 9001).o+k) undef).oneCell'=true:=fun k hk=>by
    have hsz:=L.pos;have hq:k / sz < ys.length:=Nat.div_lt_of_lt_mul (by rw [Nat.mul_comm]; exact hk);have hk2:k % sz < sz:=Nat.mod_lt _ hsz;have:=(k8 (k / sz) (k % sz) ((rows enc ys (k / sz))[k % sz]'(by rw [hrowl]; exact hk2)) hq (List.getElem?_eq_getElem _)).oneCell;rwa [Nat.add_assoc,Nat.div_add_mod' k sz] at this
  rcases h2 with ⟨h2,rfl⟩ | ⟨hp,h3,rfl,rfl⟩
  · -- nothing yet
    have hx0:xs=[]:=List.eq_nil_of_length_eq_zero h2;subst hx0;have hi0:i=0:=by simpa using hi
    subst hi0;have hbg:(0+ys.length)*(byt+1)≤70368744177664:=by simpa using hbig
    have hb1:(0+ys.length)*byt≤140737488355328:=Nat.le_trans (Nat.mul_le_mul_left _ (by omega:byt≤byt+1)) (by omega);have hb2:0+ys.length≤140737488355328:=Nat.le_trans (by have:=Nat.mul_le_mul_left (0+ys.length) (by omega:1≤byt+1); omega) (Nat.le_trans hbg (by decide));have hg:=grownCap_ge w (0+ys.length) 0 (ρ.t 9);refine Calls.mono (QiK L ad 0 0 (ρ0 9001).b (ρ0 9001).o ys.length ((ρ0 9001).cap - 0) [] (ZC V (ρ0 9001).o (ys.length*sz)) w hm (by omega) hb1 hb2 (by cases ad <;> simp [Builtin.firstCells,loadCells,loadCellsFrom]) QP (fun j v h=>by
      obtain ⟨hj,rfl⟩:=Qhb h;exact QaO k6 (by omega)) (fun v h=>by
      obtain ⟨j,hj,rfl⟩:=List.mem_map.1 h;exact oneV j (by simpa using hj))) ?_
    rintro e w' ⟨rfl,rfl⟩;refine Qpq (zs:=QoP [] 0 ys) (Cs:=ZC V (ρ0 9001).o (ys.length*sz)) (b:=w.heap.size) hlen hids harr (.inr (Nat.le_refl _)) hZ2 hlt ?_ fun q k d hq hd=>?_
    · rw [hzl];simp only [List.length_nil];generalize grownCap w (0+ys.length) 0 (ρ.t 9)=G at hg ⊢;have hG:G*sz=(0+ys.length)*sz+(G - (0+ys.length))*sz:=by rw [← Nat.add_mul]; congr 1; omega
      have hz:(0+ys.length)*sz=ys.length*sz:=by rw [Nat.zero_add]
      refine ⟨w.heap.size,0,G,([] ++ ZC V (ρ0 9001).o (ys.length*sz)).toArray ++ Builtin.zeroCells z.cells (G - (0+ys.length)),ρ.t 9,rfl,Qkc,hg,?_,fun k hk=>?_,.inl rfl,fun k hk _=>Qkd hk,Qmf,rfl,rfl,rfl⟩
      · rw [Array.size_append,Qmg,L.c9,List.nil_append];have:(ZC V (ρ0 9001).o (ys.length*sz)).toArray.size=ys.length*sz:=by simp [QP]
        omega
      · rw [show 0+k=k from Nat.zero_add k,List.nil_append,Qke (by rw [QP]; omega)]
    · have hz0:QoP ([]:List α) 0 ys=ys:=by simp [QoP]
      rw [hz0] at hq hd;have hk:k < sz:=by have:=(List.getElem?_eq_some_iff.1 hd).1; rwa [hrowl] at this
      have hm2:(q+1)*sz≤ys.length*sz:=Nat.mul_le_mul_right _ (by omega);rw [Nat.add_mul] at hm2;rw [QbY (by omega),← Nat.add_assoc];exact k8 q k d hq hd
  · cases hb with
    | arr0 h _ _ _=>rw [hp] at h; cases h
    | arr C et g1 g2 g3 g4 g5 g6 g7 g8 =>
    have e1:(ρ0 9000).o+0*(ρ0 9000).sz=(ρ0 9000).o:=by omega
    rw [e1];have hnc:xs.length*sz≤(ρ0 9000).cap*sz:=Nat.mul_le_mul_right _ g4;have oneC:∀ k,k < xs.length*sz→(C.getD ((ρ0 9000).o+k) undef).oneCell'=true:=fun k hk=>by
      have hsz:=L.pos;have hq:k / sz < xs.length:=Nat.div_lt_of_lt_mul (by rw [Nat.mul_comm]; exact hk);have hk2:k % sz < sz:=Nat.mod_lt _ hsz;have:=(g8 (k / sz) (k % sz) ((rows enc xs (k / sz))[k % sz]'(by rw [hrowl]; exact hk2)) hq (List.getElem?_eq_getElem _)).oneCell;rwa [Nat.add_assoc,Nat.div_add_mod' k sz] at this
    have hne:(ρ0 9001).b ≠ (ρ0 9000).b:=fun e=>by
      have:=hsep 9001 9000 _ _ rfl rfl hp' hp e;omega
    refine Calls.mono (Qvi L (ρ0 9000).b (ρ0 9000).o xs.length ((ρ0 9000).cap - 0) i (ρ0 9001).b (ρ0 9001).o ys.length ((ρ0 9001).cap - 0) C V et vt w hi hm (by omega) hbig hne g6 (by rw [Nat.sub_zero]; exact g7) k6 (by omega) oneC oneV) ?_;rintro e w' hout;refine Qpq (zs:=QoP xs i ys) (b:=(ρ0 9000).b) hlen hids harr (.inl ⟨9000,_,rfl,hp,rfl⟩) hZ2 hlt (by rw [hzl]; exact hout) fun q k d hq hd=>?_;rw [hzl] at hq;have hk:k < sz:=by have:=(List.getElem?_eq_some_iff.1 hd).1; rwa [hrowl] at this
    have hrow:rows enc (QoP xs i ys) q=if q < i then rows enc xs q else if q < i+ys.length then rows enc ys (q - i) else rows enc xs (q - ys.length):=by
      simp only [rows];rw [QtD hi];split
      · rfl
      · split <;> rfl
    rw [hrow] at hd;have him:i*sz≤xs.length*sz:=Nat.mul_le_mul_right _ hi;have lt:(List.take (i*sz) (ZC C (ρ0 9000).o (xs.length*sz))).length=i*sz:=by rw [List.length_take,QP]; omega
    rw [QtB,lt,QP]
    by_cases c1:q < i
    · rw [if_pos c1] at hd;have hm2:(q+1)*sz≤i*sz:=Nat.mul_le_mul_right _ (by omega);rw [Nat.add_mul] at hm2;rw [if_pos (by omega),Qgo (by omega),QbY (by omega),← Nat.add_assoc];exact g8 q k d (by omega) hd
    · have hq1:i*sz≤q*sz:=Nat.mul_le_mul_right _ (by omega);have hq2:(q - i)*sz=q*sz - i*sz:=Nat.sub_mul _ _ _;rw [if_neg c1] at hd
      by_cases c2:q < i+ys.length
      · rw [if_pos c2] at hd;have hm2:(q+1)*sz≤(i+ys.length)*sz:=Nat.mul_le_mul_right _ (by omega);rw [Nat.add_mul,Nat.add_mul] at hm2;rw [if_neg (by omega),if_pos (by omega),QbY (by omega)];have:=k8 (q - i) k d (by omega) hd;rw [show (ρ0 9001).o+(q - i)*sz+k=(ρ0 9001).o+(q*sz+k - i*sz) by omega] at this;exact this
      · rw [if_neg c2] at hd;have hm2:(i+ys.length)*sz≤q*sz:=Nat.mul_le_mul_right _ (by omega);rw [Nat.add_mul] at hm2;have hm3:(q+1)*sz≤(xs.length+ys.length)*sz:=Nat.mul_le_mul_right _ (by omega);rw [Nat.add_mul,Nat.add_mul] at hm3;have hm4:(q - ys.length)*sz=q*sz - ys.length*sz:=Nat.sub_mul _ _ _;rw [if_neg (by omega),if_neg (by omega),QqN,QbY (by omega)];have:=g8 (q - ys.length) k d (by omega) hd;rw [show (ρ0 9000).o+(q - ys.length)*sz+k=(ρ0 9000).o+(i*sz+(q*sz+k - i*sz - ys.length*sz)) by omega] at this;exact this
end Go.Ab
