/-
  Two library functions whose own text is walked once, at elements of several cells: a part of the frame in which a given row's proof walks the program; no condition.
-/
import Derived.Test.YtfgmolljcgnafaaGreatAbz6
import Derived.Shelf.SlBodiesN
import Derived.Shelf.SlGeneric
import Derived.Shelf.RegionOpenPlain
import Derived.WalkKit
import Derived.Deep.LoopGhost
import Derived.Deep.RegionLaw
import Derived.Lib.Walk
import Derived.Sort.WalkB12
import Derived.Lib.SliceRun
import Derived.Shelf.Spec.SlicesInsert
import Derived.Lib.AppendZerosOnto
set_option linter.all false
namespace Go.Ab
set_option maxRecDepth 1000000
open Go.Shelf Go.RowKit Go.Lib Go.Proofs
variable {P:Program} {ρ:Ren}
structure LDel (P:Program) (ρ:Ren) (sz:Nat) (z:Value):Prop where
  mixed:P.follows .mixedOrders = true
  f45:Bears P (ρ.f 45) (SlBodyN.n45 ρ)
  t0:P.underlying (ρ.t 0) = some (TypeDesc.tuple #[])
  a0:∀ w,(isAgg (ρ.t 0)).run P w = .ok false w
  z0:∀ w,(Go.sizeOf (ρ.t 0)).run P w = .ok 1 w
  v0:∀ w,(zeroValue (ρ.t 0)).run P w = .ok (Value.tuple #[]) w
  t3:P.underlying (ρ.t 3) = some (TypeDesc.int IntKind.i64)
  a3:∀ w,(isAgg (ρ.t 3)).run P w = .ok false w
  z3:∀ w,(Go.sizeOf (ρ.t 3)).run P w = .ok 1 w
  v3:∀ w,(zeroValue (ρ.t 3)).run P w = .ok (Value.int IntKind.i64 0) w
  t4:P.underlying (ρ.t 4) = some (TypeDesc.bool)
  a4:∀ w,(isAgg (ρ.t 4)).run P w = .ok false w
  z4:∀ w,(Go.sizeOf (ρ.t 4)).run P w = .ok 1 w
  v4:∀ w,(zeroValue (ρ.t 4)).run P w = .ok (Value.bool false) w
  t22:P.underlying (ρ.t 22) = some (TypeDesc.slice (ρ.t 23))
  a22:∀ w,(isAgg (ρ.t 22)).run P w = .ok false w
  z22:∀ w,(Go.sizeOf (ρ.t 22)).run P w = .ok 1 w
  v22:∀ w,(zeroValue (ρ.t 22)).run P w = .ok (Value.slice none 0 0) w
  i23:∃ i,P.info? (ρ.t 23) = some i ∧ i.size = sz
  z23:∀ w,(Go.sizeOf (ρ.t 23)).run P w = .ok sz w
  v23:∀ w,(zeroValue (ρ.t 23)).run P w = .ok z w
  c23:z.cells.size = sz
  o23:∀ u ∈ z.cells.toList,u.oneCell' = true
theorem zeroCells_len {c:Array Value} {n:Nat}:(Builtin.zeroCells c n).toList.length = n * c.size := by
  simp [Builtin.zeroCells]
theorem zeroCells_one {c:Array Value} {n:Nat} (h:∀ u ∈ c.toList,u.oneCell' = true):∀ u ∈ (Builtin.zeroCells c n).toList,u.oneCell' = true := by
  intro u hu;simp only [Builtin.zeroCells,Array.toList_map,List.mem_map] at hu;obtain ⟨i,hi,rfl⟩ := hu;have hi:i < n * c.size := by simpa using hi
  have hs:0 < c.size := by
    rcases Nat.eq_zero_or_pos c.size with e | e
    · rw [e,Nat.mul_zero] at hi; omega
    · exact e
  have hlt:i % c.size < c.size := Nat.mod_lt _ hs;rw [getElem!_pos c (i % c.size) hlt];exact h _ (by simp)
theorem run_clear_cells (w:World) (t e ty:TypeId) (z:Value) (ht:P.underlying t = some (.slice e)) (hv:∀ w,(zeroValue e).run P w = .ok z w) (h1:∀ u ∈ z.cells.toList,u.oneCell' = true) (b o n c:Nat) (hn:0 < n)
    (hc:∀ j,j < n * z.cells.size → (w.cell? ⟨b,o + j,none⟩).isSome = true) (hf:∀ j,j < n * z.cells.size → w.frozen? ⟨b,o + j,none⟩ = false) :
    (Builtin.clear_ #[t] ty #[.slice (some ⟨b,o,none⟩) n c]).run P w = .ok (.tuple #[]) (w.setCells b o (Builtin.zeroCells z.cells n).toList) := by
  have hst := run_storeCells_cells (P := P) b o (Builtin.zeroCells z.cells n).toList 0 w (by rw [zeroCells_len]; simpa using hc) (by rw [zeroCells_len]; simpa using hf) (zeroCells_one h1);simp only [Nat.add_zero] at hst;obtain ⟨m,rfl⟩:∃ m,n = m + 1 := ⟨n - 1,by omega⟩;simp [Builtin.clear_,run_underlying ht,hv,hst]
theorem del_same {sz:Nat} {z:Value} (L:LDel P ρ sz z) (a:Option Addr) (n cap i:Nat) (w:World) (hi:i ≤ n) (hcap:n ≤ cap) :
    Calls P (ρ.f 45) #[.slice a n cap,.int .i64 i,.int .i64 i] w fun e w' => e = .returned (.slice a n cap) ∧ w' = w := by
  have mixed := L.mixed; have t0 := L.t0; have a0 := L.a0; have z0 := L.z0; have v0 := L.v0; have t3 := L.t3; have a3 := L.a3; have z3 := L.z3; have v3 := L.v3; have t4 := L.t4; have a4 := L.a4; have z4 := L.z4; have v4 := L.v4; have t22 := L.t22; have a22 := L.a22; have z22 := L.z22; have v22 := L.v22; have z23 := L.z23;obtain ⟨_,_,FG⟩ := L.f45
  go_enter FG,SlBodyN.n45_ntmps ρ
  go_wp2
  all_goals (go_ret; exact ⟨rfl,rfl⟩)
theorem del_run {sz:Nat} {z:Value} (L:LDel P ρ sz z) (blk off n cap i j:Nat) (w:World) (news:List Value) (hlt:i < j) (hj:j ≤ n) (hcap:n ≤ cap)
    (hnl:news.length = (n - j) * sz) (hnews:∀ t u,news[t]? = some u → w.cell? ⟨blk,off + j * sz + t,none⟩ = some u) (h1:∀ u ∈ news,u.oneCell' = true)
    (hcl:∀ t,t < n * sz → (w.cell? ⟨blk,off + t,none⟩).isSome = true ∧ w.frozen? ⟨blk,off + t,none⟩ = false) :
    Calls P (ρ.f 45) #[.slice (some ⟨blk,off,none⟩) n cap,.int .i64 i,.int .i64 j] w fun e w' => e = .returned (.slice (some ⟨blk,off,none⟩) (n - (j - i)) cap) ∧
      w' = (w.drew.setCells blk (off + i * sz) news).setCells blk (off + (i + (n - j)) * sz) (Builtin.zeroCells z.cells (n - (i + (n - j)))).toList := by
  have mixed := L.mixed; have t0 := L.t0; have a0 := L.a0; have z0 := L.z0; have v0 := L.v0; have t3 := L.t3; have a3 := L.a3; have z3 := L.z3; have v3 := L.v3; have t4 := L.t4; have a4 := L.a4; have z4 := L.z4; have v4 := L.v4; have t22 := L.t22; have a22 := L.a22; have z22 := L.z22; have v22 := L.v22; have z23 := L.z23;obtain ⟨i0,hi0,hz1⟩ := L.i23;have hmul:∀ {a b:Nat},a ≤ b → a * sz ≤ b * sz := fun h => Nat.mul_le_mul_right sz h;obtain ⟨A,hA,hsrc⟩:∃ A:Addr,(if cap = j then (some ⟨blk,off,none⟩:Option Addr) else some ⟨blk,off + j * sz,none⟩) = some A ∧ Hid (∀ t u,news[t]? = some u → w.drew.cell? (A.add t) = some u) := by
    by_cases h:cap = j
    · refine ⟨⟨blk,off,none⟩,by simp [h],fun t u hu => ?_⟩;have h0:news.length = 0 := by rw [hnl,show n - j = 0 by omega,Nat.zero_mul]
      rw [List.length_eq_zero_iff.1 h0] at hu;simp at hu
    · refine ⟨⟨blk,off + j * sz,none⟩,by simp [h],fun t u hu => ?_⟩;rw [Addr.add_lit];exact hnews t u hu
  have s1:Hid (news.length = (n - j) * sz) := hnl;have s2:Hid (∀ u ∈ news,u.oneCell' = true) := h1;have hle:i * sz + (n - j) * sz ≤ n * sz := by rw [← Nat.add_mul]; exact hmul (by omega)
  have s3:Hid (∀ t,t < news.length → (w.drew.cell? ⟨blk,off + i * sz + t,none⟩).isSome = true ∧ w.drew.frozen? ⟨blk,off + i * sz + t,none⟩ = false) := by
    intro t ht;rw [hnl] at ht;rw [Nat.add_assoc];exact hcl (i * sz + t) (by omega)
  obtain ⟨W1,hW1⟩:∃ W1,W1 = w.drew.setCells blk (off + i * sz) news := ⟨_,rfl⟩;have hsome:∀ k,k < n * sz → (W1.cell? ⟨blk,off + k,none⟩).isSome = true := fun k hk => by
    rw [hW1]
    by_cases hin:off + i * sz ≤ off + k ∧ off + k < off + i * sz + news.length
    · have := World.cell?_setCells_in blk news (off + i * sz) w.drew (fun t ht => (s3 t ht).1) (off + k - (off + i * sz)) (by omega);rw [show off + i * sz + (off + k - (off + i * sz)) = off + k by omega] at this;rw [this]; rfl
    · rw [World.cell?_setCells_out blk news (off + i * sz) w.drew ⟨blk,off + k,none⟩ (fun _ _ => by show off + k < off + i * sz ∨ off + i * sz + news.length ≤ off + k; omega)];exact (hcl k hk).1
  have hfro:∀ k,k < n * sz → W1.frozen? ⟨blk,off + k,none⟩ = false := fun k hk => by
    rw [hW1,World.frozen?_setCells];exact (hcl k hk).2
  have hle2:(i + (n - j)) * sz + (n - (i + (n - j))) * sz ≤ n * sz := by rw [← Nat.add_mul]; exact hmul (by omega)
  have hclr:∀ ty,(Builtin.clear_ #[ρ.t 22] ty #[.slice (some ⟨blk,off + (i + (n - j)) * sz,none⟩) (n - (i + (n - j))) (cap - (i + (n - j)))]).run P W1 = .ok (.tuple #[]) (W1.setCells blk (off + (i + (n - j)) * sz) (Builtin.zeroCells z.cells (n - (i + (n - j)))).toList) :=
    fun ty => run_clear_cells W1 _ _ ty z t22 L.v23 L.o23 blk (off + (i + (n - j)) * sz) _ _ (by omega) (fun t ht => by rw [L.c23] at ht; rw [Nat.add_assoc]; exact hsome _ (by omega)) (fun t ht => by rw [L.c23] at ht; rw [Nat.add_assoc]; exact hfro _ (by omega))
  have hW:Hid (W1 = w.drew.setCells blk (off + i * sz) news) := hW1;have hic:i ≤ cap := by omega
  have hjc:j ≤ cap := by omega
  have hne:¬ cap = i := by omega
  have hne2:¬ cap = i + (n - j) := by omega
  clear hW1 hsome hfro hcl hnews hnl hle hle2 hmul;generalize (Builtin.zeroCells z.cells (n - (i + (n - j)))).toList = Z at hclr ⊢;obtain ⟨_,_,FG⟩ := L.f45
  go_enter FG,SlBodyN.n45_ntmps ρ
  go_wp2_with fail
  go_region_law_o (refine step_append_room rfl (.tmp 22) (.tmp 25) (ρ.t 22) rfl (ρ.t 23) i0 sz t22 hi0 hz1 blk off i cap (by simp [Act.eval,Act.put]) A (n - j) (cap - j) news (by simp [Act.eval,Act.put]) s1.out hsrc.out s2.out (by omega) s3.out ?_; rw [← hW.out])
  go_wp2
  go_ret
  exact ⟨by rw [show n - (j - i) = i + (n - j) by omega]; rfl,by rw [hW.out]⟩
theorem canOf {f : FuncId} {fn : Func} {c : Code} (hf : P.funcs[f]? = some fn) (hb : fn.body = some c) (hn : (fn.name == "runtime.NumGoroutine") = false) : Callable P f := ⟨fn, hf, hn, by simp [hb]⟩
theorem setCells_row (b:Nat):∀ (vs:List Value) (o:Nat) (w:World) {C:Array Value} {et:TypeId} {fr:Nat × Nat},w.heap[b]? = some (.cells C et fr) → o + vs.length ≤ C.size →
    ∃ C',(w.setCells b o vs).heap[b]? = some (.cells C' et fr) ∧ C'.size = C.size ∧ ∀ k,C'.getD k undef = if o ≤ k ∧ k < o + vs.length then vs.getD (k - o) undef else C.getD k undef
  | [],o,w,C,et,fr,h,_ => ⟨C,h,rfl,fun k => by rw [if_neg (by simp <;> omega)]⟩
  | v :: r,o,w,C,et,fr,h,hl => by
    simp only [List.length_cons] at hl;have h1:(w.setCell ⟨b,o,none⟩ v).heap[b]? = some (.cells (C.setIfInBounds o v) et fr) := by
      simp [World.setCell,Array.getElem?_modify,h]
    obtain ⟨C',g1,g2,g3⟩ := setCells_row b r (o + 1) _ h1 (by simp; omega);refine ⟨C',g1,by rw [g2]; simp,fun k => ?_⟩;rw [g3];simp only [List.length_cons]
    by_cases c1:o + 1 ≤ k ∧ k < o + 1 + r.length
    · rw [if_pos c1,if_pos (by omega),show k - o = (k - (o + 1)) + 1 by omega];simp [List.getD_eq_getElem?_getD]
    · rw [if_neg c1]
      by_cases c2:k = o
      · subst c2;rw [if_pos (by omega)];simp [Array.getD_eq_getD_getElem?,List.getD_eq_getElem?_getD,show k < C.size by omega]
      · rw [if_neg (by omega)];simp [Array.getD_eq_getD_getElem?,Array.getElem?_setIfInBounds,Ne.symm c2]
theorem setCells_rest (b:Nat):∀ (vs:List Value) (o:Nat) (w:World),(∀ k,k ≠ b → (w.setCells b o vs).heap[k]? = w.heap[k]?) ∧ (w.setCells b o vs).heap.size = w.heap.size ∧ (w.setCells b o vs).os = w.os ∧ (w.setCells b o vs).tape = w.tape ∧ (w.setCells b o vs).output = w.output
  | [],_,_ => ⟨fun _ _ => rfl,rfl,rfl,rfl,rfl⟩
  | v :: r,o,w => by
    obtain ⟨h1,h2,h3,h4,h5⟩ := setCells_rest b r (o + 1) (w.setCell ⟨b,o,none⟩ v);refine ⟨fun k hk => (h1 k hk).trans ?_,h2.trans ?_,h3,h4,h5⟩
    · simp [World.setCell,Array.getElem?_modify,Ne.symm hk]
    · simp [World.setCell]
theorem vals_three {w:World} {ow:Nat → Prop} {ρ:Env} {u:V} {a b:Int} {vals:Array Value} (h:ArgsR w ow ρ [u,.d (.int .i64 a),.d (.int .i64 b)] vals):∃ v,vals = #[v,.int .i64 a,.int .i64 b] ∧ VR w ow ρ u v := by
  obtain ⟨h1,h2⟩ := h;have h1:vals.size = 3 := h1;have e1 := h2 1 _ rfl;have e2 := h2 2 _ rfl;have f1:vals.getD 1 undef = .int .i64 a := by generalize vals.getD 1 undef = y at e1 ⊢; cases e1 with | d e => cases e; rfl
  have f2:vals.getD 2 undef = .int .i64 b := by generalize vals.getD 2 undef = y at e2 ⊢; cases e2 with | d e => cases e; rfl
  refine ⟨vals.getD 0 undef,?_,h2 0 u rfl⟩
  apply Array.ext
  · simp [h1]
  · intro i hi _;have:i = 0 ∨ i = 1 ∨ i = 2 := by omega
    rcases this with rfl | rfl | rfl
    · simp [Array.getD_eq_getD_getElem?,hi]
    · rw [Array.getD_eq_getD_getElem?,Array.getElem?_eq_getElem hi] at f1; exact f1
    · rw [Array.getD_eq_getD_getElem?,Array.getElem?_eq_getElem hi] at f2; exact f2
theorem look_one {i k:Nat} {x b:Blk} (h:look [(k,b)] i = some x):i = k ∧ x = b := by
  simp only [look] at h;split at h
  · rename_i hq;exact ⟨(Nat.eq_of_beq_eq_true hq).symm,(Option.some.inj h).symm⟩
  · cases h
def delL {α:Type} (xs:List α) (i j:Nat):List α := xs.take i ++ xs.drop j
theorem delL_len {α:Type} {xs:List α} {i j:Nat} (hij:i ≤ j) (hj:j ≤ xs.length):(delL xs i j).length = xs.length - (j - i) := by simp [delL]; omega
theorem delL_get {α:Type} [Inhabited α] {xs:List α} {i j q:Nat} (hij:i ≤ j) (hj:j ≤ xs.length) (hq:q < xs.length - (j - i)):(delL xs i j).getD q default = xs.getD (if q < i then q else j + (q - i)) default := by
  have hl:(xs.take i).length = i := by simp; omega
  unfold delL;split
  · rename_i h;simp [List.getD_eq_getElem?_getD,List.getElem?_append_left (show q < (xs.take i).length by omega),List.getElem?_take,h]
  · rename_i h;simp [List.getD_eq_getElem?_getD,List.getElem?_append_right (show (xs.take i).length ≤ q by omega),hl,List.getElem?_drop]
theorem effC_del {α:Type} [Inhabited α] {enc:α → List D} {t:TypeId} {sz:Nat} {z:Value} (L:LDel P ρ sz z) (can:Callable P (ρ.f 45)) (hlen:∀ x,(enc x).length = sz) {xs:List α} {i j:Nat} (hij:i ≤ j) (hj:j ≤ xs.length) :
    EffC P (ρ.f 45) [.osl 9000 0 xs.length,.d (.int .i64 i),.d (.int .i64 j)] [(9000,.arr t sz xs.length (rows enc xs))] (.osl 5001 0 (delL xs i j).length) [(5001,.arr t sz (delL xs i j).length (rows enc (delL xs i j)))] := by
  refine ⟨can,rfl,rfl,fun Z w vals ρ0 hv hblk hsep hZ hlt => ?_⟩;obtain ⟨v,rfl,hv1⟩ := vals_three hv;have hb := hblk 9000 _ rfl;obtain ⟨ad,c,rfl,h1,h2⟩ := hv1.osl_inv;have hyl := delL_len (xs := xs) hij hj;have hnz:(ρ0 9000).n = xs.length := by
    cases hb with
    | arr0 _ _ h _ => exact h
    | arr _ _ _ _ h => exact h
  have hown:∀ {l:Loc},l.ph = (ρ0 9000).ph → l.b = (ρ0 9000).b → ∀ {y:Blk} {b:Nat},own [(5001,y)] (fun _ => l) b → own [(9000,Blk.arr t sz xs.length (rows enc xs))] ρ0 b := fun {l} e1 e2 {y b} ⟨i,k,hk,hp,hb⟩ => ⟨9000,_,rfl,by rw [← e1]; exact hp,by rw [← e2]; exact hb⟩
  by_cases heq:i = j
  · subst heq;have hxs:delL xs i i = xs := by simp [delL]
    refine Calls.mono (del_same L ad xs.length c i w hj (by rcases h2 with ⟨h2,h3⟩ | ⟨_,h3,_,h4⟩ <;> omega)) ?_;rintro e w' ⟨rfl,rfl⟩;rw [hxs];refine ⟨_,fun _ => ρ0 9000,rfl,Kept.refl _ _,fun i x y hx hy => ?_,?_,?_,fun i j x y hx hy _ _ _ => (look_one hx).1.trans (look_one hy).1.symm,fun i x hx hp => .inr ⟨9000,_,rfl,hp,rfl⟩⟩
    · obtain ⟨rfl,_⟩ := look_one hx;obtain ⟨h,_⟩ := look_one hy
      cases h
    · rcases h2 with ⟨h2,rfl⟩ | ⟨hp,h3,rfl,rfl⟩
      · rw [h2]; exact .osl0 rfl (Nat.zero_le _)
      · exact .osl hp (by omega) h3
    · intro i b hib;obtain ⟨rfl,rfl⟩ := look_one hib;have keep:Keep w' (fun x => own [(9000,Blk.arr t sz xs.length (rows enc xs))] ρ0 x ∨ Z x) w' (fun x => own [(5001,Blk.arr t sz xs.length (rows enc xs))] (fun _ => ρ0 9000) x ∨ Z x) := ⟨Nat.le_refl _,fun b _ ho => ⟨rfl,fun h => ho (h.imp (hown rfl rfl) fun h => h)⟩⟩
      cases hb with
      | arr0 g1 g2 g3 g4 => exact .arr0 g1 g2 g3 g4
      | arr C et g1 g2 g3 g4 g5 g6 g7 g8 => exact .arr C et g1 g2 g3 g4 g5 g6 g7 fun i j d hi hd => (g8 i j d hi hd).keep keep
  · have hlt':i < j := by omega
    rcases h2 with ⟨h2,_⟩ | ⟨hp,h3,rfl,rfl⟩
    · omega
    cases hb with
    | arr0 h _ _ _ => rw [hp] at h; cases h
    | arr C et g1 g2 g3 g4 g5 g6 g7 g8 =>
    have hcs:xs.length * sz ≤ (ρ0 9000).cap * sz := Nat.mul_le_mul_right _ g4;have e0:(ρ0 9000).o + 0 * (ρ0 9000).sz = (ρ0 9000).o := by omega
    rw [e0];generalize hO:(ρ0 9000).o = O at *;generalize hB:(ρ0 9000).b = Bk at *;have hcell:∀ q k,q < xs.length → k < sz → q * sz + k < xs.length * sz ∧ (C.getD (O + q * sz + k) undef).oneCell' = true := fun q k hq hk => by
      have:(q + 1) * sz ≤ xs.length * sz := Nat.mul_le_mul_right _ (by omega);rw [Nat.add_mul] at this;refine ⟨by omega,(g8 q k ((rows enc xs q)[k]'(by rw [g5 q hq]; exact hk)) hq (List.getElem?_eq_getElem _)).oneCell⟩
    have hjs:j * sz + (xs.length - j) * sz = xs.length * sz := by rw [← Nat.add_mul]; congr 1; omega
    obtain ⟨news,hnews⟩:∃ news,news = (List.range ((xs.length - j) * sz)).map fun k => C.getD (O + j * sz + k) undef := ⟨_,rfl⟩;have hnl:news.length = (xs.length - j) * sz := by rw [hnews]; simp
    have hng:∀ k,k < (xs.length - j) * sz → news[k]? = some (C.getD (O + j * sz + k) undef) := fun k hk => by rw [hnews]; simp [hk]
    have hrun := del_run L Bk O xs.length ((ρ0 9000).cap - 0) i j w news hlt' hj (by omega) hnl (fun k u hu => by
        have hk:k < (xs.length - j) * sz := by have := (List.getElem?_eq_some_iff.1 hu).1; omega
        rw [hng k hk] at hu;rw [cell_of g6 (by omega)]; exact hu) (fun u hu => by
        obtain ⟨k,hk,rfl⟩ := List.mem_iff_getElem.1 hu;have hk':k < (xs.length - j) * sz := by omega
        have := hng k hk';rw [List.getElem?_eq_getElem hk] at this;rw [Option.some.inj this];have hsz:0 < sz := by
          rcases Nat.eq_zero_or_pos sz with h | h
          · rw [h,Nat.mul_zero] at hk'; omega
          · exact h
        have hq:k / sz < xs.length - j := Nat.div_lt_of_lt_mul (by rw [Nat.mul_comm]; exact hk');have := (hcell (j + k / sz) (k % sz) (by omega) (Nat.mod_lt _ hsz)).2;rw [Nat.add_mul] at this;have e := Nat.div_add_mod' k sz;rw [show O + j * sz + k = O + (j * sz + k / sz * sz) + k % sz by omega];exact this) (fun k hk => ⟨by rw [cell_of g6 (by omega)]; rfl,frozen_of_row w _ _ C et g6⟩)
    refine Calls.mono hrun ?_;rintro e w' ⟨rfl,rfl⟩;have hin:i * sz + (xs.length - j) * sz ≤ xs.length * sz := by rw [← Nat.add_mul]; exact Nat.mul_le_mul_right _ (by omega)
    have hzl:(Builtin.zeroCells z.cells (xs.length - (i + (xs.length - j)))).toList.length = (xs.length - (i + (xs.length - j))) * sz := by rw [zeroCells_len,L.c23]
    have hin2:(i + (xs.length - j)) * sz + (xs.length - (i + (xs.length - j))) * sz ≤ xs.length * sz := by rw [← Nat.add_mul]; exact Nat.mul_le_mul_right _ (by omega)
    obtain ⟨C1,a1,a2,a3⟩ := setCells_row Bk news (O + i * sz) w.drew (show w.drew.heap[Bk]? = _ from g6) (by omega);obtain ⟨C2,b1,b2,b3⟩ := setCells_row Bk (Builtin.zeroCells z.cells (xs.length - (i + (xs.length - j)))).toList (O + (i + (xs.length - j)) * sz) _ a1 (by omega);obtain ⟨r1,r2,r3,r4,r5⟩ := setCells_rest Bk news (O + i * sz) w.drew;obtain ⟨q1,q2,q3,q4,q5⟩ := setCells_rest Bk (Builtin.zeroCells z.cells (xs.length - (i + (xs.length - j)))).toList (O + (i + (xs.length - j)) * sz) (w.drew.setCells Bk (O + i * sz) news);have hbk:own [(9000,Blk.arr t sz xs.length (rows enc xs))] ρ0 Bk := ⟨9000,_,rfl,hp,hB⟩;have keep:Keep w (fun x => own [(9000,Blk.arr t sz xs.length (rows enc xs))] ρ0 x ∨ Z x) ((w.drew.setCells Bk (O + i * sz) news).setCells Bk (O + (i + (xs.length - j)) * sz) (Builtin.zeroCells z.cells (xs.length - (i + (xs.length - j)))).toList) (fun x => own [(5001,Blk.arr t sz (delL xs i j).length (rows enc (delL xs i j)))] (fun _ => { ρ0 9000 with n := (delL xs i j).length }) x ∨ Z x) :=
      ⟨by rw [q2,r2]; exact Nat.le_refl _,fun b _ ho => ⟨(q1 b fun e => ho (.inl (e ▸ hbk))).trans (r1 b fun e => ho (.inl (e ▸ hbk))),fun h => ho (h.imp (hown rfl hB) fun h => h)⟩⟩
    refine ⟨_,fun _ => { ρ0 9000 with n := (delL xs i j).length },rfl,⟨q3.trans r3,q4.trans r4,q5.trans r5,keep.size,fun k hk => (q1 k fun e => hk.2 (e ▸ hbk)).trans (r1 k fun e => hk.2 (e ▸ hbk))⟩,fun i x y hx hy => ?_,?_,?_,fun i j x y hx hy _ _ _ => (look_one hx).1.trans (look_one hy).1.symm,fun i x hx hp => .inr ⟨9000,_,rfl,hp,rfl⟩⟩
    · obtain ⟨rfl,_⟩ := look_one hx;obtain ⟨h,_⟩ := look_one hy
      cases h
    · have := VR.osl (w := (w.drew.setCells Bk (O + i * sz) news).setCells Bk (O + (i + (xs.length - j)) * sz) (Builtin.zeroCells z.cells (xs.length - (i + (xs.length - j)))).toList) (own := fun x => own [(5001,Blk.arr t sz (delL xs i j).length (rows enc (delL xs i j)))] (fun _ => { ρ0 9000 with n := (delL xs i j).length }) x ∨ Z x) (ρ := fun _ => { ρ0 9000 with n := (delL xs i j).length }) (id := 5001) (off := 0) (len := (delL xs i j).length) hp (by simp) (by dsimp only; omega);dsimp only at this;have ev:(Value.slice (some ⟨(ρ0 9000).b,(ρ0 9000).o + 0 * (ρ0 9000).sz,none⟩) (delL xs i j).length ((ρ0 9000).cap - 0)) = .slice (some ⟨Bk,O,none⟩) (xs.length - (j - i)) ((ρ0 9000).cap - 0) := by rw [hB,hO,hyl,Nat.zero_mul,Nat.add_zero]
      rw [ev] at this;exact this
    · intro i' b hib;obtain ⟨rfl,rfl⟩ := look_one hib;refine .arr C2 et hp g2 rfl (by dsimp only; omega) (fun q hq => ?_) (by dsimp only; rw [hB]; exact b1) (by dsimp only; rw [hO,b2,a2]; exact g7) fun q k d hq hd => ?_
      · simp only [rows]; exact hlen _
      · dsimp only;rw [show (ρ0 9000).o + q * sz + k = O + q * sz + k by rw [hO]];have hk:k < sz := by
          have := (List.getElem?_eq_some_iff.1 hd).1;simp only [rows,hlen] at this;exact this
        have hq2:q < i + (xs.length - j) := by omega
        have hm:(q + 1) * sz ≤ (i + (xs.length - j)) * sz := Nat.mul_le_mul_right _ (by omega);rw [Nat.add_mul] at hm;rw [b3,if_neg (by omega),a3,hnl];have hrow:rows enc (delL xs i j) q = rows enc xs (if q < i then q else j + (q - i)) := by
          simp only [rows];rw [delL_get hij hj (by omega)]
        rw [hrow] at hd
        by_cases c1:q < i
        · rw [if_pos c1] at hd;have hm2:(q + 1) * sz ≤ i * sz := Nat.mul_le_mul_right _ (by omega);rw [Nat.add_mul] at hm2;rw [if_neg (by omega)];exact (g8 q k d (by omega) hd).keep keep
        · rw [if_neg c1] at hd;have hm2:i * sz ≤ q * sz := Nat.mul_le_mul_right _ (by omega);have hm3:(i + (xs.length - j)) * sz = i * sz + (xs.length - j) * sz := Nat.add_mul _ _ _;have hm4:(q - i) * sz = q * sz - i * sz := Nat.sub_mul _ _ _;rw [if_pos (by omega),show O + q * sz + k - (O + i * sz) = (q - i) * sz + k by omega,List.getD_eq_getElem?_getD,hng _ (by omega)];have := (g8 (j + (q - i)) k d (by omega) hd).keep keep;rw [show (j + (q - i)) * sz = j * sz + (q - i) * sz from Nat.add_mul _ _ _] at this;rw [show O + j * sz + ((q - i) * sz + k) = O + (j * sz + (q - i) * sz) + k by omega];exact this
end Go.Ab
namespace Go.Ab
set_option maxHeartbeats 4000000
set_option maxRecDepth 100000
open Go.Shelf Go.RowKit Go.Lib Go.Proofs
variable {P:Program} {ρ:Ren}
structure LIns (P:Program) (ρ:Ren) (sz byt:Nat) (z:Value):Prop where
  mixed:P.follows .mixedOrders = true
  f22:Bears P (ρ.f 22) (Body2.n22 ρ)
  f29 : ∃ fn, P.funcs[ρ.f 29]? = some fn ∧ (fn.name == "runtime.NumGoroutine") = false ∧ fn.body.isNone = true ∧ Extern.findNext fn = none ∧ Extern.find fn = some (Extern.SlicesOverlaps.overlaps #[(ρ.t 24), (ρ.t 24)] #[(ρ.t 4)])
  t0:P.underlying (ρ.t 0) = some (TypeDesc.tuple #[])
  a0:∀ w,(isAgg (ρ.t 0)).run P w = .ok false w
  z0:∀ w,(Go.sizeOf (ρ.t 0)).run P w = .ok 1 w
  v0:∀ w,(zeroValue (ρ.t 0)).run P w = .ok (Value.tuple #[]) w
  t3:P.underlying (ρ.t 3) = some (TypeDesc.int IntKind.i64)
  a3:∀ w,(isAgg (ρ.t 3)).run P w = .ok false w
  z3:∀ w,(Go.sizeOf (ρ.t 3)).run P w = .ok 1 w
  v3:∀ w,(zeroValue (ρ.t 3)).run P w = .ok (Value.int IntKind.i64 0) w
  t4:P.underlying (ρ.t 4) = some (TypeDesc.bool)
  a4:∀ w,(isAgg (ρ.t 4)).run P w = .ok false w
  z4:∀ w,(Go.sizeOf (ρ.t 4)).run P w = .ok 1 w
  v4:∀ w,(zeroValue (ρ.t 4)).run P w = .ok (Value.bool false) w
  t24:P.underlying (ρ.t 24) = some (TypeDesc.slice (ρ.t 9))
  a24:∀ w,(isAgg (ρ.t 24)).run P w = .ok false w
  z24:∀ w,(Go.sizeOf (ρ.t 24)).run P w = .ok 1 w
  v24:∀ w,(zeroValue (ρ.t 24)).run P w = .ok (Value.slice none 0 0) w
  i9:∃ i,P.info? (ρ.t 9) = some i ∧ i.size = sz ∧ i.bytes = byt ∧ i.zero = some z
  z9:∀ w,(Go.sizeOf (ρ.t 9)).run P w = .ok sz w
  c9:z.cells.size = sz
  o9:∀ u ∈ z.cells.toList,u.oneCell' = true
  pos:0 < sz
end Go.Ab
