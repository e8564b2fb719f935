/-
  The operations that write, and functions walked: a part of the frame in which a given row's proof walks the program; no condition.
-/
import Derived.Test.YtafklggkpofgmaaAb1
namespace Go.Ab
open Go.RowKit
variable {P : Program} {tb : Tb} {w : World} {ow : Nat → Prop} {ρ : Env} {a : Act} {B : Nat} {w0 : World} {F : List (Array Value)} {S : St} {K : V → St → Prop}

theorem ofConst_sound (v : Value) : VR w ow ρ (ofConst v) v := by
  unfold ofConst
  split
  · rename_i cs
    split
    · rename_i hall
      refine .agg (by simp) (fun j hj => ?_) fun j u hj => ?_
      · have := List.all_eq_true.1 hall (cs.getD j undef) (by simp [hj])
        exact this
      · rw [List.getElem?_map] at hj
        obtain ⟨x, hx, rfl⟩ := Option.map_eq_some_iff.1 hj
        have : cs.getD j undef = x := by
          have hx' : cs[j]? = some x := by simpa using hx
          simp [Array.getD_eq_getD_getElem?, hx']
        rw [this]
        exact ofAtom_sound x
    · exact .any
  · exact ofAtom_sound v

theorem hasG_mem : ∀ {al : List (Nat × Bool)} {k : Nat} {w : Bool}, hasG al k w = true → (k, w) ∈ al
  | (k', w') :: r, k, w, h => by
    simp only [hasG] at h
    split at h
    · rename_i h1 h2
      have h1 := Nat.eq_of_beq_eq_true h1
      have h2 : w' = w := by simpa using h2
      subst h1 h2
      simp
    · exact List.mem_cons_of_mem _ (hasG_mem h)
  | [], _, _, h => by simp [hasG] at h

theorem lookG_mem : ∀ {gs : List Gd} {t : Nat} {g : Gd}, lookG gs t = some g → g ∈ gs ∧ g.t = t
  | x :: r, t, g, h => by
    simp only [lookG] at h
    split at h
    · rename_i hb; cases h; exact ⟨by simp, Nat.eq_of_beq_eq_true hb⟩
    · have := lookG_mem h; exact ⟨List.mem_cons_of_mem _ this.1, this.2⟩
  | [], _, _, h => by simp [lookG] at h

theorem getT_sound {f : Fr} {tm : Array Value} (h : FrR w ow ρ f tm) (t : Nat) : VR w ow ρ (getT f.tmps t) (tm.getD t undef) := by
  unfold getT
  split
  · rename_i v hv; exact h.tmps t v hv
  · exact .any

theorem Sim.evR (h : Sim B w0 F ρ S a w) : EvR w (own S.blks ρ) ρ a S.ev := by
  refine ⟨fun al x hal => ?_⟩
  cases x with
  | const v => exact ofConst_sound v
  | func f => exact .fn (by simp) fun j v hj => by simp at hj
  | global g => exact .any
  | tmp t =>
    show VR w (own S.blks ρ) ρ (S.ev al (.tmp t)) (a.tmps.getD t undef)
    unfold St.ev
    dsimp only
    split
    · rename_i g hg
      obtain ⟨hm, rfl⟩ := lookG_mem hg
      split
      · rename_i hh
        have := hal _ _ (hasG_mem hh)
        rcases (h.top.gds g hm).h with h1 | h1
        · exact h1.2
        · exact absurd this h1.1
      · exact .any
    · exact getT_sound h.top t

/-- What an effect comes to. -/
def Eff (P : Program) (B : Nat) (w0 : World) (F : List (Array Value)) (a : Act) (w : World) (r : Sem Next) (K : V → St → Prop) : Prop :=
  ∃ n v w' ρ' x S', r.run P w = .ok n w' ∧ (n = .value v ∨ (n = .skip ∧ v = undef)) ∧ Sim B w0 F ρ' S' a w' ∧ VR w' (own S'.blks ρ') ρ' x v ∧ K x S'

theorem splice_get (l vs : List Value) (o j : Nat) (h : o + vs.length ≤ l.length) :
    ((l.take o ++ vs ++ l.drop (o + vs.length)).toArray).getD j undef = if o ≤ j ∧ j < o + vs.length then vs.getD (j - o) undef else l.getD j undef := by
  simp only [Array.getD_eq_getD_getElem?, List.getElem?_toArray, List.getD_eq_getElem?_getD]
  by_cases h1 : j < o
  · rw [if_neg (by omega), List.append_assoc, List.getElem?_append_left (by simp; omega), List.getElem?_take, if_pos h1]
  · by_cases h2 : j < o + vs.length
    · rw [if_pos ⟨by omega, h2⟩, List.append_assoc, List.getElem?_append_right (by simp; omega), List.getElem?_append_left (by simp; omega)]
      rw [List.length_take, Nat.min_eq_left (by omega)]
    · rw [if_neg (by omega), List.getElem?_append_right (by simp; omega), List.getElem?_drop]
      simp only [List.length_append, List.length_take]
      rw [Nat.min_eq_left (by omega), show o + vs.length + (j - (o + vs.length)) = j by omega]
theorem splice_size (l vs : List Value) (o : Nat) (h : o + vs.length ≤ l.length) : ((l.take o ++ vs ++ l.drop (o + vs.length)).toArray).size = l.length := by
  simp; omega

theorem toDs_sound : ∀ {l : List V} {es : List D}, toDs l = some es → es.length = l.length ∧ ∀ (j : Nat) (d : D), es[j]? = some d → l[j]? = some (V.d d)
  | [], es, he => by simp [toDs] at he; subst he; exact ⟨rfl, fun j d h => by simp at h⟩
  | u :: r, es, he => by
    cases u <;> simp only [toDs] at he <;> first | cases he | skip
    split at he
    · rename_i xs hxs
      simp only [Option.some.injEq] at he; subst he
      obtain ⟨i1, i2⟩ := toDs_sound hxs
      refine ⟨by simp [i1], fun j d hj => ?_⟩
      cases j with
      | zero => simp at hj; subst hj; simp
      | succ j => simpa using i2 j d (by simpa using hj)
    · cases he

theorem storeVar_run {t ti} (hti : TIok P t ti) {b o : Nat} {x : Value} {C : Array Value} {et : TypeId} (hg : w.heap[b]? = some (.cells C et (0, 0))) (hs : x.cells.size = ti.size)
    (h1 : ∀ j, j < x.cells.size → (x.cells.getD j undef).oneCell' = true) (hfit : o + ti.size ≤ C.size) :
    (Instr.storeAt t (.pointer (some ⟨b, o, none⟩)) x).run P w = .ok () (w.setRow b (C.toList.take o ++ x.cells.toList ++ C.toList.drop (o + x.cells.toList.length)).toArray) := by
  have hst := run_storeCells_at P b o et x.cells.toList 0 C w hg (by simp; omega) (fun v hv => by
    obtain ⟨j, hj, rfl⟩ := List.mem_iff_getElem.1 hv
    have := h1 j (by simpa using hj)
    simp at hj
    simpa [hj] using this)
  simp only [Nat.add_zero] at hst
  simp only [Instr.storeAt, Instr.sureAddr, storeVar, Sem.run_bind, Sem.run_pure, Result.andThen_ok, sizeOf_run hti]
  rw [if_neg (by omega)]
  exact hst

theorem newVar_run (t : TypeId) (x : Value) : (newVar t x).run P w = .ok ⟨w.heap.size, 0, none⟩ (w.alloc (.cells x.cells t)) := by
  simp [newVar, newRow]

theorem eff_newVar {id : Nat} {t : TypeId} {x : Value} {cs : List V} (h : Sim B w0 F ρ S a w) (hm : S.mentions id = false) (hl : ListR w (own S.blks ρ) ρ cs x.cells)
    (hK : K (.ref id 0 0) ⟨S.base, S.nt, S.tmps, S.gds, (id, .box t cs) :: S.blks, S.frames⟩) (hcs : mentionsL id cs = false) :
    ∃ w' ρ', (newVar t x).run P w = .ok ⟨w.heap.size, 0, none⟩ w' ∧ Sim B w0 F ρ' ⟨S.base, S.nt, S.tmps, S.gds, (id, .box t cs) :: S.blks, S.frames⟩ a w' ∧
      VR w' (own ((id, .box t cs) :: S.blks) ρ') ρ' (.ref id 0 0) (.pointer (some ⟨w.heap.size, 0, none⟩)) ∧ K (.ref id 0 0) ⟨S.base, S.nt, S.tmps, S.gds, (id, .box t cs) :: S.blks, S.frames⟩ := by
  refine ⟨_, ρ.set id ⟨w.heap.size, 0, cs.length, 1, 1, false⟩, newVar_run t x, ?_, ?_, hK⟩
  · refine sim_alloc h hm x.cells t rfl fun ow' keep => ?_
    refine .box x.cells (by simp [Env.set]) (by simp [Env.set]) (by simp [Env.set]) (by simp [Env.set]) ?_ hl.size hl.one fun j v hj => (hl.vals j v hj).keep keep fun i hi => Env.set_other fun e => ?_
    · simp only [Env.set, if_true]; exact heap_alloc_new w _
    · subst e
      have := mentionsL_of hj hi
      rw [hcs] at this; cases this
  · have : (⟨w.heap.size, 0, none⟩ : Addr) = ⟨((ρ.set id ⟨w.heap.size, 0, cs.length, 1, 1, false⟩) id).b, ((ρ.set id ⟨w.heap.size, 0, cs.length, 1, 1, false⟩) id).o + 0 * ((ρ.set id ⟨w.heap.size, 0, cs.length, 1, 1, false⟩) id).sz + 0, none⟩ := by
      simp [Env.set]
    rw [this]
    exact .ref (by simp [Env.set]) (by simp [Env.set])

/-! ### append -/
def flat (n sz : Nat) (f : Nat → Nat → Value) : List Value := (List.range (n * sz)).map fun k => f (k / sz) (k % sz)
theorem flat_length {n sz f} : (flat n sz f).length = n * sz := by simp [flat]
theorem flat_get {n sz : Nat} {f : Nat → Nat → Value} {i j : Nat} (hi : i < n) (hj : j < sz) : (flat n sz f)[i * sz + j]? = some (f i j) := by
  have hlt : i * sz + j < n * sz := by
    have : (i + 1) * sz ≤ n * sz := Nat.mul_le_mul_right _ (by omega)
    rw [Nat.add_mul] at this; omega
  have h1 : (i * sz + j) / sz = i := by rw [Nat.mul_comm, Nat.mul_add_div (by omega), Nat.div_eq_of_lt hj]; omega
  have h2 : (i * sz + j) % sz = j := by rw [Nat.mul_comm, Nat.mul_add_mod, Nat.mod_eq_of_lt hj]
  simp only [flat]
  rw [List.getElem?_map, List.getElem?_range hlt]
  simp [h1, h2]

/-- What lies behind a slice, as append reads it. -/
structure Src (P : Program) (w : World) (ow : Nat → Prop) (sz n : Nat) (row : Nat → List D) (val : Value) : Prop where
  hdr : ∃ ad c, val = .slice ad n c
  rows : ∀ i, i < n → (row i).length = sz
  cells : ∃ f : Nat → Nat → Value, (∀ w', w'.heap = w.heap → (Builtin.firstCells sz n val).run P w' = .ok (flat n sz f).toArray w') ∧
    (∀ i j d, i < n → (row i)[j]? = some d → DR w ow d (f i j)) ∧ (∀ i j, i < n → j < sz → (f i j).oneCell' = true)

theorem src_of {sz n : Nat} {row : Nat → List D} {val : Value} {ad c} (hval : val = .slice ad n c) (h : n = 0 ∨ ∃ (b o : Nat) (vals : Nat → Nat → Value), ad = some ⟨b, o, none⟩ ∧ (∀ i, i < n → (row i).length = sz) ∧
    (∀ i j d, i < n → (row i)[j]? = some d → w.cell? ⟨b, o + i * sz + j, none⟩ = some (vals i j)) ∧ (∀ i j d, i < n → (row i)[j]? = some d → DR w ow d (vals i j))) : Src P w ow sz n row val := by
  rcases h with h0 | ⟨b, o, vals, had, h1, h2, h3⟩
  · subst h0
    refine ⟨⟨ad, c, hval⟩, fun i hi => by omega, fun _ _ => undef, fun w' _ => ?_, fun i j d hi => by omega, fun i j hi => by omega⟩
    subst hval
    cases ad <;> simp [Builtin.firstCells, loadCells, loadCellsFrom, flat]
  · refine ⟨⟨ad, c, hval⟩, h1, vals, fun w' hw => ?_, h3, fun i j hi hj => (h3 i j _ hi (List.getElem?_eq_getElem (by rw [h1 i hi]; exact hj))).oneCell⟩
    subst hval had
    refine run_firstCells_some w' sz n ⟨b, o, none⟩ n c _ flat_length fun j v hj => ?_
    have hlt := (List.getElem?_eq_some_iff.1 hj).1
    rw [flat_length] at hlt
    have hsz : 0 < sz := by
      rcases Nat.eq_zero_or_pos sz with h | h
      · rw [h, Nat.mul_zero] at hlt; omega
      · exact h
    have hi : j / sz < n := Nat.div_lt_of_lt_mul (by rw [Nat.mul_comm]; exact hlt)
    have hj2 : j % sz < sz := Nat.mod_lt _ hsz
    have e : j / sz * sz + j % sz = j := Nat.div_add_mod' j sz
    rw [← e, flat_get hi hj2] at hj
    cases hj
    have := h2 (j / sz) (j % sz) _ hi (List.getElem?_eq_getElem (by rw [h1 _ hi]; exact hj2))
    rw [Nat.add_assoc, e] at this
    rw [Addr.add_mid]
    simpa [World.cell?, hw] using this

theorem contents_sound {blk : Nat → Option Blk} {sz n : Nat} {row : Nat → List D} {v : V} {val : Value} (hb : ∀ id b, blk id = some b → BR w ow ρ id b) (hv : VR w ow ρ v val) (h : contents blk sz v = some (n, row)) :
    Src P w ow sz n row val := by
  unfold contents at h
  split at h
  · rename_i id off len
    split at h
    · rename_i t s n' row' hblk
      split at h
      · rename_i hs
        have hs := Nat.eq_of_beq_eq_true hs
        simp only [Option.some.injEq, Prod.mk.injEq] at h
        obtain ⟨rfl, rfl⟩ := h
        obtain ⟨ad, c, h1, h2, h3⟩ := hv.osl_inv
        rcases h3 with ⟨h3, _⟩ | ⟨h3, h4, h5, h6⟩
        · exact src_of h1 (.inl h3)
        · refine src_of h1 (.inr ?_)
          cases hb _ _ hblk with
          | arr0 h _ _ _ => rw [h] at h3; cases h3
          | arr C et0 g1 g2 g3 g4 g5 g6 g7 g8 =>
          have hview : ∀ i, viewRow off row' i = row' (off + i) := fun i => by cases off <;> simp [viewRow]
          refine ⟨(ρ id).b, (ρ id).o + off * (ρ id).sz, fun i j => C.getD ((ρ id).o + (off + i) * s + j) undef, h5, fun i hi => ?_, fun i j d hi hd => ?_, fun i j d hi hd => ?_⟩
          · rw [hview, g5 _ (by omega), hs]
          · rw [hview] at hd
            have hj := (List.getElem?_eq_some_iff.1 hd).1
            rw [g5 _ (by omega)] at hj
            have hle : (off + i + 1) * s ≤ (ρ id).cap * s := Nat.mul_le_mul_right _ (by omega)
            rw [Nat.add_mul (off + i)] at hle
            have := cell_of (w := w) (o := (ρ id).o + (off + i) * s + j) g6 (by omega)
            rw [g2, ← hs, show (ρ id).o + off * s + i * s + j = (ρ id).o + (off + i) * s + j by rw [Nat.add_mul]; omega]
            exact this
          · rw [hview] at hd
            exact g8 (off + i) j d (by omega) hd
      · cases h
    · cases h
  · rename_i n' row'
    split at h
    · rename_i hl
      have hl := Nat.eq_of_beq_eq_true hl
      simp only [Option.some.injEq, Prod.mk.injEq] at h
      obtain ⟨rfl, rfl⟩ := h
      obtain ⟨ad, c, h1, h2⟩ := hv.sl_inv
      rcases h2 with h2 | ⟨b, o, sz', vals, h2, h3, h4, h5, h6, h7⟩
      · exact src_of h1 (.inl h2)
      · rcases Nat.eq_zero_or_pos n' with h0 | h0
        · exact src_of h1 (.inl h0)
        · have : sz' = sz := by rw [← h5 0 h0, hl]
          subst this
          exact src_of h1 (.inr ⟨b, o, vals, h2, h5, h6, h7⟩)
    · cases h
  · simp only [Option.some.injEq, Prod.mk.injEq] at h
    obtain ⟨rfl, rfl⟩ := h
    cases hv with | d hv => cases hv; exact src_of rfl (.inl rfl)
  · cases h

end Go.Ab
namespace Go.Ab
open Go.RowKit
variable {P : Program} {tb : Tb} {w : World} {ow : Nat → Prop} {ρ : Env} {a : Act} {B : Nat} {w0 : World} {F : List (Array Value)} {S : St} {K : V → St → Prop}

theorem append_room_run {t t' ty e e' : TypeId} {te} (ht : P.underlying t = some (.slice e)) (ht' : P.underlying t' = some (.slice e')) (hte : TIok P e te)
    {g o n cap m : Nat} {x : Value} {ad c} (hx : x = .slice ad m c) {cur : Array Value} {et : TypeId} (hg : w.heap[g]? = some (.cells cur et (0, 0))) {news : List Value} (hn : (Builtin.firstCells te.size m x).run P w = .ok news.toArray w)
    (h1 : ∀ u ∈ news, u.oneCell' = true) (hroom : n + m ≤ cap) (hfit : o + n * te.size + news.length ≤ cur.size) :
    (Builtin.append_ #[t, t'] ty #[.slice (some ⟨g, o, none⟩) n cap, x]).run P w =
      .ok (.slice (some ⟨g, o, none⟩) (n + m) cap) (w.setRow g (cur.toList.take (o + n * te.size) ++ news ++ cur.toList.drop (o + n * te.size + news.length)).toArray) := by
  subst hx
  have hst := run_storeCells_at P g (o + n * te.size) et news 0 cur w hg (by simpa using hfit) h1
  simp only [Nat.add_zero] at hst
  simp [Builtin.append_, run_underlying ht, run_underlying ht', sizeOf_run hte, Builtin.lenOf, hroom, hn, Addr.add_mid, hst]

theorem append_none_run {t t' ty e e' : TypeId} {te} (ht : P.underlying t = some (.slice e)) (ht' : P.underlying t' = some (.slice e')) (hte : TIok P e te) {x : Value} {ad c} (hx : x = .slice ad 0 c)
    (hn : (Builtin.firstCells te.size 0 x).run P w = .ok #[] w) {base : Option Addr} {cap : Nat} :
    (Builtin.append_ #[t, t'] ty #[.slice base 0 cap, x]).run P w = .ok (.slice base 0 cap) w := by
  subst hx
  cases base <;> simp [Builtin.append_, run_underlying ht, run_underlying ht', sizeOf_run hte, Builtin.lenOf, hn, storeCells]

theorem append_grow_run {t t' ty e e' : TypeId} {te} (ht : P.underlying t = some (.slice e)) (ht' : P.underlying t' = some (.slice e')) (hte : TIok P e te)
    {n m : Nat} {r r' : Nat → List D} {s x : Value} {base : Option Addr} {cap : Nat} (hs : s = .slice base n cap) (hS : Src P w ow te.size n r s) (hX : Src P w ow te.size m r' x) (hgrow : cap < n + m)
    (hb : (n + m) * (te.bytes + 1) ≤ 70368744177664) :
    ∃ nc C, (Builtin.append_ #[t, t'] ty #[s, x]).run P w = .ok (.slice (some ⟨w.heap.size, 0, none⟩) (n + m) nc) (w.drew.alloc (.cells C e)) ∧ C.size = nc * te.size ∧ n + m ≤ nc ∧
      ∀ i, i < n + m → (catRow n r r' i).length = te.size ∧ ∀ j d, (catRow n r r' i)[j]? = some d → DR w ow d (C.getD (i * te.size + j) undef) := by
  obtain ⟨i, z, hi, hs1, hby, hz, hzs, hzl, hzr⟩ := hte.info
  obtain ⟨f, f1, f2, f3⟩ := hS.cells
  obtain ⟨f', g1, g2, g3⟩ := hX.cells
  obtain ⟨ad, c, hx⟩ := hX.hdr
  have hnc : n + m ≤ grownCap w (n + m) cap e := grownCap_ge w _ _ e
  have hbytes : (n + m) * te.bytes + (n + m) ≤ 70368744177664 := by rw [Nat.mul_add, Nat.mul_one] at hb; exact hb
  have h48 : ¬ (281474976710656 < Builtin.nextslicecap (n + m) cap * i.bytes) := by
    have := growslice_fits (bytes := te.bytes) hgrow (by omega)
    rw [hby]; omega
  have h63 : ¬ (9223372036854775807 < ((n : Int) + (m : Int))) := by omega
  have hnr : ¬ (n + m ≤ cap) := by omega
  refine ⟨grownCap w (n + m) cap e, (flat n te.size f).toArray ++ (flat m te.size f').toArray ++ Builtin.zeroCells z.cells (grownCap w (n + m) cap e - (n + m)), ?_, ?_, hnc, fun q hq => ?_⟩
  · have a1 := f1 w.drew rfl
    have a2 := g1 w.drew rfl
    subst hs hx
    simp [Builtin.append_, run_underlying ht, run_underlying ht', sizeOf_run hte, zeroValue, typeInfo, hi, hz, Builtin.lenOf, hnr, h63, h48, Question.forced, a1, a2, newRow, grownCap]
    congr 2; apply Array.ext'; simp
  · have h1 : ((flat n te.size f).toArray ++ (flat m te.size f').toArray ++ Builtin.zeroCells z.cells (grownCap w (n + m) cap e - (n + m))).size = n * te.size + m * te.size + (grownCap w (n + m) cap e - (n + m)) * te.size := by
      simp [flat_length, Builtin.zeroCells, hzs]
    rw [h1, ← Nat.add_mul, ← Nat.add_mul]
    congr 1; omega
  · have e1 : ∀ (q j : Nat), q < n + m → j < te.size → ((flat n te.size f).toArray ++ (flat m te.size f').toArray ++ Builtin.zeroCells z.cells (grownCap w (n + m) cap e - (n + m))).getD (q * te.size + j) undef = if q < n then f q j else f' (q - n) j := by
      intro q j hq hj
      have hm1 : (q + 1) * te.size ≤ (n + m) * te.size := Nat.mul_le_mul_right _ (by omega)
      rw [Nat.add_mul, Nat.add_mul] at hm1
      rw [Array.getD_eq_getD_getElem?, Array.getElem?_append_left (by simp [flat_length]; omega)]
      by_cases hqn : q < n
      · have hm2 : (q + 1) * te.size ≤ n * te.size := Nat.mul_le_mul_right _ (by omega)
        rw [Nat.add_mul] at hm2
        rw [if_pos hqn, Array.getElem?_append_left (by simp [flat_length]; omega)]
        simp [flat_get hqn hj]
      · have hm2 : n * te.size ≤ q * te.size := Nat.mul_le_mul_right _ (by omega)
        have e2 : q * te.size + j - n * te.size = (q - n) * te.size + j := by rw [Nat.sub_mul]; omega
        rw [if_neg hqn, Array.getElem?_append_right (by simp [flat_length]; omega)]
        simp only [List.size_toArray, flat_length, e2]
        simp [flat_get (n := m) (f := f') (show q - n < m by omega) hj]
    simp only [catRow]
    by_cases hqn : q < n
    · rw [if_pos hqn]
      refine ⟨hS.rows q hqn, fun j d hd => ?_⟩
      have hj : j < te.size := by have := (List.getElem?_eq_some_iff.1 hd).1; have := hS.rows q hqn; omega
      rw [e1 q j hq hj, if_pos hqn]
      exact f2 q j d hqn hd
    · rw [if_neg hqn]
      refine ⟨hX.rows _ (by omega), fun j d hd => ?_⟩
      have hj : j < te.size := by have := (List.getElem?_eq_some_iff.1 hd).1; have := hX.rows (q - n) (by omega); omega
      rw [e1 q j hq hj, if_neg hqn]
      exact g2 _ j d (by omega) hd

/-- A slice that the call itself has made, in a new block. -/
theorem sim_newRow {id : Nat} {S1 : St} (h : SimO ow B w0 F ρ S1 a w) (hm : S1.mentions id = false) (hown : ∀ b, own S1.blks ρ b → ow b) (how : ∀ b, ow b → b < w.heap.size) {n sz cap : Nat} {row : Nat → List D} {C : Array Value} {e : TypeId} {w1 : World}
    (hw1 : w1 = w ∨ w1 = w.drew) (hC : cap * sz ≤ C.size) (hn : n ≤ cap) (hr : ∀ i, i < n → (row i).length = sz ∧ ∀ j d, (row i)[j]? = some d → DR w ow d (C.getD (i * sz + j) undef)) :
    Sim B w0 F (ρ.set id ⟨w.heap.size, 0, sz, n, cap, false⟩) ⟨S1.base, S1.nt, S1.tmps, S1.gds, (id, .arr e sz n row) :: S1.blks, S1.frames⟩ a (w1.alloc (.cells C e)) ∧
    VR (w1.alloc (.cells C e)) (own ((id, .arr e sz n row) :: S1.blks) (ρ.set id ⟨w.heap.size, 0, sz, n, cap, false⟩)) (ρ.set id ⟨w.heap.size, 0, sz, n, cap, false⟩) (.osl id 0 n) (.slice (some ⟨w.heap.size, 0, none⟩) n cap) := by
  have hheap : (w1.alloc (.cells C e)).heap = (w.alloc (.cells C e)).heap := by rcases hw1 with rfl | rfl <;> rfl
  have hsame : w1.os = w.os ∧ w1.tape = w.tape ∧ w1.output = w.output := by rcases hw1 with rfl | rfl <;> exact ⟨rfl, rfl, rfl⟩
  refine ⟨sim_new h hm hown (by rw [hheap]; simp) (fun b hb _ => by rw [hheap]; exact Below.heap_alloc w _ b hb) (fun b hb => by rw [hheap]; exact Below.heap_alloc w _ b (Nat.lt_of_lt_of_le hb h.hB)) (fun _ => .inl (Nat.le_refl _)) (fun _ => h.hB)
    hsame.1 hsame.2.1 hsame.2.2 fun keep => ?_, ?_⟩
  · refine .arr C e (by simp [Env.set]) (by simp [Env.set]) (by simp [Env.set]) (by simpa [Env.set] using hn) (fun i hi => (hr i hi).1) ?_ (by simpa [Env.set] using hC) fun i j d hi hd => ?_
    · rw [hheap]; simp only [Env.set, if_true]; exact heap_alloc_new w _
    · simp only [Env.set, if_true, Nat.zero_add]
      exact ((hr i hi).2 j d hd).keep keep
  · have e1 : (Value.slice (some ⟨w.heap.size, 0, none⟩) n cap) = .slice (some ⟨((ρ.set id ⟨w.heap.size, 0, sz, n, cap, false⟩) id).b, ((ρ.set id ⟨w.heap.size, 0, sz, n, cap, false⟩) id).o + 0 * ((ρ.set id ⟨w.heap.size, 0, sz, n, cap, false⟩) id).sz, none⟩) n (((ρ.set id ⟨w.heap.size, 0, sz, n, cap, false⟩) id).cap - 0) := by
      simp [Env.set]
    rw [e1]
    exact .osl (by simp [Env.set]) (by simp [Env.set]) (by simpa [Env.set] using hn)

/-- ... of no elements, wherever it lies. -/
theorem sim_emptyRow {id : Nat} {S1 : St} (h : SimO ow B w0 F ρ S1 a w) (hm : S1.mentions id = false) (hown : ∀ b, own S1.blks ρ b → ow b) {sz : Nat} {row : Nat → List D} {e : TypeId} (ad : Option Addr) :
    Sim B w0 F (ρ.set id ⟨0, 0, sz, 0, 0, true⟩) ⟨S1.base, S1.nt, S1.tmps, S1.gds, (id, .arr e sz 0 row) :: S1.blks, S1.frames⟩ a w ∧
    VR w (own ((id, .arr e sz 0 row) :: S1.blks) (ρ.set id ⟨0, 0, sz, 0, 0, true⟩)) (ρ.set id ⟨0, 0, sz, 0, 0, true⟩) (.osl id 0 0) (.slice ad 0 0) := by
  refine ⟨sim_new h hm hown (Nat.le_refl _) (fun _ _ _ => rfl) (fun _ _ => rfl) (fun h => by cases h) (fun h => by cases h) rfl rfl rfl fun _ => .arr0 (by simp [Env.set]) (by simp [Env.set]) (by simp [Env.set]) rfl, .osl0 rfl (Nat.zero_le _)⟩

end Go.Ab
namespace Go.Ab
open Go.RowKit
variable {P : Program} {tb : Tb} {w : World} {ρ : Env} {a : Act} {B : Nat} {w0 : World} {F : List (Array Value)} {S : St} {K : V → St → Prop}

theorem mentionsL_map {α : Type} (f : α → V) (id : Nat) (h : ∀ x, (f x).mentions id = false) : ∀ l : List α, mentionsL id (l.map f) = false
  | [] => rfl
  | x :: r => by simp only [List.map_cons, mentionsL, h x]; exact mentionsL_map f id h r

theorem ofAtom_mentions (id : Nat) (v : Value) : (ofAtom v).mentions id = false := by
  unfold ofAtom; split <;> rfl
theorem ofConst_mentions (id : Nat) (v : Value) : (ofConst v).mentions id = false := by
  unfold ofConst
  split
  · split
    · simp only [V.mentions]; exact mentionsL_map _ _ (ofAtom_mentions id) _
    · rfl
  · exact ofAtom_mentions id v

theorem ev_mentions {id : Nat} (h : S.mentions id = false) (al : List (Nat × Bool)) (x : Operand) : (S.ev al x).mentions id = false := by
  obtain ⟨h1, h2, _, _⟩ := St.mentions_parts h
  cases x with
  | const v => exact ofConst_mentions id v
  | func f => rfl
  | global g => rfl
  | tmp t =>
    unfold St.ev
    dsimp only
    split
    · rename_i g hg
      split
      · cases hm : g.v.mentions id
        · rfl
        · have := mentionsG_of (lookG_mem hg).1 hm; rw [h2] at this; cases this
      · rfl
    · unfold getT
      split
      · rename_i v hv
        cases hm : v.mentions id
        · rfl
        · have := mentionsT_of hv hm; rw [h1] at this; cases this
      · rfl

theorem cells_mentions {id : Nat} {v : V} (h : v.mentions id = false) : mentionsL id v.cells = false := by
  cases v <;> simp_all [V.cells, V.mentions, mentionsL]

theorem own_lt' (h : Sim B w0 F ρ S a w) {b : Nat} (ho : own S.blks ρ b) : b < w.heap.size := own_lt h.blks ho

theorem setAt_ofFn_len {r : List D} {o : Nat} {ds : List D} {sz : Nat} (h : r.length = sz) : (setAt r o ds).length = sz := by rw [setAt_length, h]

theorem own_killB {id : Nat} {bs : List (Nat × Blk)} {b : Nat} : own (killB id bs) ρ b → own bs ρ b := by
  rintro ⟨i, k, hk, hp, rfl⟩
  obtain ⟨_, k0, hk0, _⟩ := look_killB hk
  exact ⟨i, k0, hk0, hp, rfl⟩

/-- THE EFFECTS. -/
theorem evE_sound (hT : TOk P tb) (h : Sim B w0 F ρ S a w) (o : Oper) (he : evE tb o.dst o.op S K) : Eff P B w0 F a w (execOp a.eval o) K := by
  obtain ⟨dst, op, ty, pos, after, guard⟩ := o
  obtain ⟨base, nt, ts, gs, bs, fs⟩ := S
  have hev := h.evR
  cases op <;> simp only [evE, St.idK_eq] at he <;> first | exact he.no.elim | skip
  case alloc t =>
    split at he
    · rename_i ti dst' hti
      split at he
      · exact he.no.elim
      · rename_i hm
        rw [forceVL_eq] at he
        obtain ⟨i, z, hi, hs1, hby, hz, hzs, hzl, hzr⟩ := (hT.ok _ _ hti).info
        have hl : ListR w (own bs ρ) ρ (ti.zero.map .d) z.cells := by
          refine ⟨by rw [hzs, List.length_map, hzl], fun j hj => ?_, fun j u hj => ?_⟩
          · exact (hzr w (own bs ρ) j _ (List.getElem?_eq_getElem (by omega))).oneCell
          · rw [List.getElem?_map] at hj
            obtain ⟨d, hd, rfl⟩ := Option.map_eq_some_iff.1 hj
            exact .d (hzr w _ j d hd)
        obtain ⟨w', ρ', h1, h2, h3, h4⟩ := eff_newVar (P := P) (t := t) (x := z) (K := K) h hm hl he (mentionsL_map _ _ (fun _ => rfl) _)
        refine ⟨_, _, w', ρ', _, _, ?_, .inl rfl, h2, h3, h4⟩
        simp only [execOp, Instr.alloc, Sem.run_bind, zeroValue, typeInfo, run_program, hi, hz, Result.andThen_ok, Sem.run_pure, h1]
    · exact he.no.elim
  case box t x =>
    split at he
    · rename_i dst'
      split at he
      · exact he.no.elim
      · rename_i hm
        rw [forceVL_eq] at he
        simp only [Bool.or_eq_false_iff, Bool.not_eq_false'] at hm
        have hl := cells_list (hev.at x) hm.2
        obtain ⟨w', ρ', h1, h2, h3, h4⟩ := eff_newVar (P := P) (t := t) (x := a.eval x) (K := K) h hm.1 hl he (cells_mentions (ev_mentions hm.1 _ _))
        refine ⟨_, _, w', ρ', _, _, ?_, .inl rfl, h2, h3, h4⟩
        simp only [execOp, Instr.box, Sem.run_bind, h1, Result.andThen_ok, Sem.run_pure]
    · exact he.no.elim
  case store t p x =>
    split at he
    · rename_i ti id row off hti hp
      have hv := hev.at x
      obtain ⟨h1, h2, h3⟩ := (hev.eq hp).ref_inv
      split at he
      · rename_i t' cs hcs hlk
        simp only [Bool.and_eq_true] at hcs
        have hsz := Nat.eq_of_beq_eq_true hcs.2
        have hl := cells_list hv hcs.1
        split at he
        · rename_i hle
          have hle := Nat.le_of_ble_eq_true hle
          rw [forceVL_eq, forceB_eq] at he
          have hls := hl.size
          cases h.blks id _ hlk with
          | box C g1 g2 g3 g4 g5 g6 g7 g8 =>
          have hr0 : row = 0 := by omega
          subst hr0
          have e : (ρ id).o + 0 * (ρ id).sz + off = off := by omega
          rw [e] at h1
          have hrun := storeVar_run (P := P) (w := w) (hT.ok _ _ hti) g5 (o := off) (x := a.eval x) (by omega) hl.one (by omega)
          have hfit : off + (a.eval x).cells.toList.length ≤ C.toList.length := by simp; omega
          refine ⟨.skip, undef, _, ρ, .any, _, ?_, .inr ⟨rfl, rfl⟩, sim_write h hlk h2 (C.toList.take off ++ (a.eval x).cells.toList ++ C.toList.drop (off + (a.eval x).cells.toList.length)).toArray fun ow' keep => ?_, .any, he⟩
          · simp only [execOp, h1, Sem.run_bind, hrun, Result.andThen_ok, Sem.run_pure]
          · have hs' := splice_size C.toList (a.eval x).cells.toList off hfit
            refine .box _ g1 g2 (by rw [setAt_length]; exact g3) g4 (setRow_heap w _ C _ t' _ g5) (by rw [hs', setAt_length]; simpa using g6) (fun j hj => ?_) fun j u hj => ?_
            · rw [splice_get _ _ _ _ hfit]
              rw [hs'] at hj
              by_cases hc : off ≤ j ∧ j < off + (a.eval x).cells.toList.length
              · rw [if_pos hc]
                have := hl.one (j - off) (by simp at hc; omega)
                simpa using this
              · rw [if_neg hc]
                have := g7 j (by simpa using hj)
                simpa using this
            · rw [splice_get _ _ _ _ hfit]
              rw [setAt_get _ _ _ _ (by omega)] at hj
              have hlen : (a.eval x).cells.toList.length = (St.ev ⟨base, nt, ts, gs, bs, fs⟩ [] x).cells.length := by simpa using hls
              by_cases hc : off ≤ j ∧ j < off + (St.ev ⟨base, nt, ts, gs, bs, fs⟩ [] x).cells.length
              · rw [if_pos hc] at hj
                rw [if_pos (by omega)]
                have := (hl.vals _ _ hj).keep (ρ' := ρ) keep fun _ _ => rfl
                simpa using this
              · rw [if_neg hc] at hj
                rw [if_neg (by omega)]
                have := (g8 _ _ hj).keep (ρ' := ρ) keep fun _ _ => rfl
                simpa using this
        · exact he.no.elim
      · rename_i t' sz n rw' hcs hlk
        simp only [Bool.and_eq_true] at hcs
        have hsz := Nat.eq_of_beq_eq_true hcs.2
        have hl := cells_list hv hcs.1
        have hls := hl.size
        split at he
        · rename_i ds hle hds
          have hle := Nat.le_of_ble_eq_true hle
          rw [forceDL_eq, forceB_eq] at he
          obtain ⟨e1, e2⟩ := toDs_sound hds
          cases h.blks id _ hlk with
          | arr0 g => rw [g] at h2; cases h2
          | arr C et0 g1 g2 g3 g4 g5 g6 g7 g8 =>
          have hm1 : (row + 1) * sz ≤ (ρ id).cap * sz := Nat.mul_le_mul_right _ (by omega)
          rw [Nat.add_mul] at hm1
          rw [g2] at h1
          have hrun := storeVar_run (P := P) (w := w) (hT.ok _ _ hti) g6 (o := (ρ id).o + row * sz + off) (x := a.eval x) (by omega) hl.one (by omega)
          have hfit : (ρ id).o + row * sz + off + (a.eval x).cells.toList.length ≤ C.toList.length := by simp; omega
          have hlen : (a.eval x).cells.toList.length = ds.length := by simpa [e1] using hls
          refine ⟨.skip, undef, _, ρ, .any, _, ?_, .inr ⟨rfl, rfl⟩, sim_write h hlk h2 (C.toList.take ((ρ id).o + row * sz + off) ++ (a.eval x).cells.toList ++ C.toList.drop ((ρ id).o + row * sz + off + (a.eval x).cells.toList.length)).toArray fun ow' keep => ?_, .any, he⟩
          · simp only [execOp, h1, Sem.run_bind, hrun, Result.andThen_ok, Sem.run_pure]
          · have hs' := splice_size C.toList (a.eval x).cells.toList ((ρ id).o + row * sz + off) hfit
            refine .arr _ et0 g1 g2 g3 g4 (fun i hi => ?_) (setRow_heap w _ C _ et0 _ g6) (by rw [hs']; simpa using g7) fun i j d hi hd => ?_
            · by_cases hir : i = row
              · simp only [hir, if_true]; exact setAt_ofFn_len (g5 row (by omega))
              · simp only [hir, if_false]; exact g5 i hi
            · rw [splice_get _ _ _ _ hfit]
              by_cases hir : i = row
              · subst hir
                simp only [if_true] at hd
                have hrl := g5 i hi
                rw [setAt_get _ _ _ _ (by omega)] at hd
                by_cases hc : off ≤ j ∧ j < off + ds.length
                · rw [if_pos hc] at hd
                  rw [if_pos (by omega)]
                  have := hl.vals _ _ (e2 _ _ hd)
                  cases this with | d this =>
                  have := this.keep keep
                  rw [show (ρ id).o + i * sz + j - ((ρ id).o + i * sz + off) = j - off by omega]
                  simpa using this
                · rw [if_neg hc] at hd
                  rw [if_neg (by omega)]
                  have := (g8 i j d hi hd).keep keep
                  simpa using this
              · simp only [hir, if_false] at hd
                have hj := (List.getElem?_eq_some_iff.1 hd).1
                rw [g5 i hi] at hj
                have hdis : ¬ ((ρ id).o + row * sz + off ≤ (ρ id).o + i * sz + j ∧ (ρ id).o + i * sz + j < (ρ id).o + row * sz + off + (a.eval x).cells.toList.length) := by
                  intro hc
                  rcases Nat.lt_or_gt_of_ne hir with hlt | hgt
                  · have : (i + 1) * sz ≤ row * sz := Nat.mul_le_mul_right _ (by omega)
                    rw [Nat.add_mul] at this; omega
                  · have : (row + 1) * sz ≤ i * sz := Nat.mul_le_mul_right _ (by omega)
                    rw [Nat.add_mul] at this; omega
                rw [if_neg hdis]
                have := (g8 i j d hi hd).keep keep
                simpa using this
        · exact he.no.elim
      · exact he.no.elim
    · exact he.no.elim
  case makeSlice t l c =>
    split at he
    · rename_i e s' by' z' q dst' hti
      split at he
      · rename_i k sz byt z q' n m hte hl hc
        have hl := (hev.eq hl).int_inv
        have hc := (hev.eq hc).int_inv
        split at he
        · exact he.no.elim
        · rename_i hm
          obtain ⟨⟨b1, b2, b3, b4⟩, he⟩ := he
          obtain ⟨i, z0, hi, hs1, hby, hz, hzs, hzl, hzr⟩ := (hT.ok _ _ hte).info
          dsimp only at hs1 hby hzs hzl hzr
          have hrun := run_make (P := P) w t e i z0 (kind_slice (hT.ok _ _ hti) rfl) hi hz .i64 .i64 n m b1 b2 (by rw [hby, Int.mul_comm]; omega) (by omega)
          have hsn := sim_newRow (w := w) h.o hm (fun _ h => h) (fun _ ho => own_lt' h ho) (n := n.toNat) (sz := sz) (cap := m.toNat) (row := fun _ => z) (C := madeCells z0.cells (m.toNat * i.size)) (e := e) (.inl rfl)
            (by rw [size_madeCells, hs1]; exact Nat.le_refl _) (by omega) fun q hq => ⟨hzl, fun j d hd => by
              have hj := (List.getElem?_eq_some_iff.1 hd).1
              have hlt : q * sz + j < m.toNat * sz := by
                have : (q + 1) * sz ≤ m.toNat * sz := Nat.mul_le_mul_right _ (by omega)
                rw [Nat.add_mul] at this; omega
              have e2 : (q * sz + j) % sz = j := by rw [Nat.mul_comm, Nat.mul_add_mod, Nat.mod_eq_of_lt (by omega)]
              have e3 : (madeCells z0.cells (m.toNat * i.size)).getD (q * sz + j) undef = z0.cells.getD j undef := by
                simp [madeCells, hs1, hlt, hzs, e2, show j < sz by omega]
              rw [e3]
              exact hzr w _ j d hd⟩
          refine ⟨_, _, _, _, _, _, ?_, .inl rfl, hsn.1, hsn.2, he⟩
          simp only [execOp, hl, hc, Sem.run_bind, hrun, Result.andThen_ok, Sem.run_pure]
      · exact he.no.elim
    · exact he.no.elim
  case buildSlice t len parts =>
    split at he
    · rename_i e s' by' z' q dst' hti
      split at he
      · rename_i k sz byt z q' hte
        split at he
        · rename_i rs hrs hm hle
          split at he
          · rename_i hlen
            have hlen := Nat.eq_of_beq_eq_true hlen
            obtain ⟨hk, hr⟩ := parts_keys hev parts
            obtain ⟨C, h1, h2, h3⟩ := buildSlice_run (P := P) (w := w) (ow := own bs ρ) (ρ := ρ) hT hti rfl hte len (parts.map fun (i, x) => (i, a.eval x)) hk hr hrs hlen (Nat.le_of_ble_eq_true hle)
            have hsn := sim_newRow (w := w) h.o hm (fun _ h => h) (fun _ ho => own_lt' h ho) (n := len) (sz := sz) (cap := len) (row := rowAt rs) (C := C) (e := e) (.inl rfl) (by rw [h2]; exact Nat.le_refl _) (Nat.le_refl _) h3
            refine ⟨_, _, _, _, _, _, ?_, .inl rfl, hsn.1, hsn.2, he⟩
            simp only [execOp, Sem.run_bind, h1, Result.andThen_ok, Sem.run_pure]
          · exact he.no.elim
        · exact he.no.elim
      · exact he.no.elim
    · exact he.no.elim
  case call c =>
    split at he
    case h_2 => exact he.no.elim
    rename_i hcal
    split at he
    case h_2 => exact he.no.elim
    rename_i s x t t' hargs htys
    have hargs : c.args = #[s, x] := by apply Array.ext'; simpa using hargs
    have htys : c.argTypes = #[t, t'] := by apply Array.ext'; simpa using htys
    have hrun : ∀ w', (execOp a.eval ⟨dst, .call c, ty, pos, after, guard⟩).run P w' = ((Builtin.append_ #[t, t'] ty #[a.eval s, a.eval x] >>= fun v => (pure (.value v) : Sem Next)).run P w') := fun w' => by
      simp only [execOp, resolve, hcal, hargs, htys, pure_bind, invoke, builtin, List.map_toArray, List.map_cons, List.map_nil]
    have fin : ∀ {v w' ρ' x' S'}, (Builtin.append_ #[t, t'] ty #[a.eval s, a.eval x]).run P w = .ok v w' → Sim B w0 F ρ' S' a w' → VR w' (own S'.blks ρ') ρ' x' v → K x' S' → Eff P B w0 F a w (execOp a.eval ⟨dst, .call c, ty, pos, after, guard⟩) K :=
      fun h1 h2 h3 h4 => ⟨_, _, _, _, _, _, by rw [hrun, Sem.run_bind, h1]; rfl, .inl rfl, h2, h3, h4⟩
    split at he
    case h_2 => exact he.no.elim
    rename_i e s' by' z' q e' s2 by2 z2 q2 dst' hti hti'
    have hu := kind_slice (hT.ok _ _ hti) rfl
    have hu' := kind_slice (hT.ok _ _ hti') rfl
    split at he
    case h_2 => exact he.no.elim
    rename_i kk sz byt zz qq hte
    have hteok := hT.ok _ _ hte
    split at he
    case h_2 => exact he.no.elim
    rename_i n r m r' hcs hcx
    have hS := contents_sound (P := P) (w := w) (ow := own bs ρ) (ρ := ρ) h.blks (hev.at s) hcs
    have hX := contents_sound (P := P) (w := w) (ow := own bs ρ) (ρ := ρ) h.blks (hev.at x) hcx
    obtain ⟨adx, cx, hxv⟩ := hX.hdr
    split at he
    · rename_i id off len hsv
      rw [forceT_eq, forceG_eq, forceB_eq, forceF_eq] at he
      obtain ⟨hb, he⟩ := he
      have hk := simO_kill h.o id
      have hkm := St.kill_mentions ⟨base, nt, ts, gs, bs, fs⟩ id
      obtain ⟨ad, cap, h1, h2, h3⟩ := (hev.eq hsv).osl_inv
      have hn : n = len := by
        obtain ⟨ad', c', h4⟩ := hS.hdr
        rw [h1] at h4; cases h4; rfl
      subst hn
      rcases Nat.lt_or_ge cap (n + m) with hgrow | hroom
      · obtain ⟨nc, C, g1, g2, g3, g4⟩ := append_grow_run (P := P) (ty := ty) hu hu' hteok h1 hS hX hgrow hb
        have hsn := sim_newRow (w := w) hk hkm (fun _ => own_killB) (fun _ ho => own_lt' h ho) (n := n + m) (sz := sz) (cap := nc) (row := catRow n r r') (C := C) (e := e) (.inr rfl) (by rw [g2]; exact Nat.le_refl _) g3 g4
        exact fin g1 hsn.1 hsn.2 he
      · rcases h3 with ⟨h3, h4⟩ | ⟨h3, h4, h5, h6⟩
        · have hm0 : m = 0 := by omega
          subst hm0 h3 h4
          obtain ⟨f, f1, _, _⟩ := hX.cells
          have hf := f1 w rfl
          have g1 := append_none_run (P := P) (w := w) (ty := ty) hu hu' hteok hxv (by simpa [flat] using hf) (base := ad) (cap := 0)
          have hsn := sim_emptyRow (w := w) hk hkm (fun _ => own_killB) (sz := sz) (row := catRow 0 r r') (e := e) ad
          exact fin (by rw [h1]; exact g1) hsn.1 hsn.2 he
        · obtain ⟨t0, n0, row0, hlk⟩ : ∃ t0 n0 row0, look bs id = some (.arr t0 sz n0 row0) := by
            rw [hsv] at hcs
            simp only [contents] at hcs
            split at hcs
            · rename_i t1 s1 n1 row1 hlk
              split at hcs
              · rename_i hbq
                exact ⟨t1, n1, row1, by rw [← Nat.eq_of_beq_eq_true hbq]; exact hlk⟩
              · cases hcs
            · cases hcs
          cases h.blks id _ hlk with
          | arr0 g => rw [g] at h3; cases h3
          | arr C et0 g1 g2 g3 g4 g5 g6 g7 g8 =>
          obtain ⟨f, f1, f2, f3⟩ := hX.cells
          have hge := h.ge id _ hlk h3
          have hmul : (off + (n + m)) * sz ≤ (ρ id).cap * sz := Nat.mul_le_mul_right _ (by omega)
          rw [Nat.add_mul, Nat.add_mul] at hmul
          subst h5
          rw [g2] at h1
          have hrm := append_room_run (P := P) (w := w) (ty := ty) (te := ⟨kk, sz, byt, zz, qq⟩) hu hu' hteok (n := n) (cap := cap) hxv g6 (o := (ρ id).o + off * sz) (news := flat m sz f) (f1 w rfl)
            (fun u hu => by
              obtain ⟨j, hj, rfl⟩ := List.mem_iff_getElem.1 hu
              rw [flat_length] at hj
              have hsz : 0 < sz := by
                rcases Nat.eq_zero_or_pos sz with h | h
                · rw [h, Nat.mul_zero] at hj; omega
                · exact h
              have hi : j / sz < m := Nat.div_lt_of_lt_mul (by rw [Nat.mul_comm]; exact hj)
              have hj2 : j % sz < sz := Nat.mod_lt _ hsz
              have e0 := flat_get (f := f) hi hj2
              rw [Nat.div_add_mod' j sz] at e0
              rw [(List.getElem?_eq_some_iff.1 e0).2]
              exact f3 _ _ hi hj2) hroom (by rw [flat_length]; dsimp only; omega)
          dsimp only at hrm
          have hfit : (ρ id).o + off * sz + n * sz + (flat m sz f).length ≤ C.toList.length := by rw [flat_length]; simp; omega
          have hnown : ¬ own (killB id bs) ρ (ρ id).b := by
            rintro ⟨i, k, hk, hp, hbi⟩
            obtain ⟨hne, k0, hk0, _⟩ := look_killB hk
            exact hne (h.sep i id _ _ hk0 hlk hp h3 hbi)
          have hsn := sim_new (loc := ⟨(ρ id).b, (ρ id).o + off * sz, sz, n + m, cap, false⟩) (blk := .arr e sz (n + m) (catRow n r r'))
            (w' := w.setRow (ρ id).b (C.toList.take ((ρ id).o + off * sz + n * sz) ++ flat m sz f ++ C.toList.drop ((ρ id).o + off * sz + n * sz + (flat m sz f).length)).toArray) hk hkm (fun _ => own_killB) (by simp)
            (fun b hb0 hb1 => setRow_other w _ b _ fun e => by
              subst e
              rcases hb1 with hb1 | hb1
              · exact hb1 ⟨id, _, hlk, h3, rfl⟩
              · exact hnown hb1)
            (fun b hb0 => setRow_other w _ b _ (by omega)) (fun _ => .inr ⟨⟨id, _, hlk, h3, rfl⟩, hnown⟩) (fun _ => hge) rfl rfl rfl fun keep => by
              have hsz' := splice_size C.toList (flat m sz f) ((ρ id).o + off * sz + n * sz) hfit
              refine .arr _ et0 (by simp [Env.set]) (by simp [Env.set]) (by simp [Env.set]) (by simpa [Env.set] using hroom) (fun i hi => ?_) (by simp only [Env.set, if_true]; exact setRow_heap w _ C _ et0 _ g6) ?_ fun i j d hi hd => ?_
              · simp only [catRow]
                by_cases hin : i < n
                · rw [if_pos hin]; exact hS.rows i hin
                · rw [if_neg hin]; exact hX.rows _ (by omega)
              · rw [hsz']
                simp only [Env.set, if_true]
                have : off * sz + cap * sz = (ρ id).cap * sz := by rw [← Nat.add_mul]; congr 1; omega
                simp; omega
              · rw [splice_get _ _ _ _ hfit]
                have hfl : (flat m sz f).length = m * sz := flat_length
                simp only [Env.set, if_true]
                simp only [catRow] at hd
                by_cases hin : i < n
                · rw [if_pos hin] at hd
                  have hj : j < sz := by have := (List.getElem?_eq_some_iff.1 hd).1; have := hS.rows i hin; omega
                  have hm3 : (i + 1) * sz ≤ n * sz := Nat.mul_le_mul_right _ (by omega)
                  rw [Nat.add_mul] at hm3
                  rw [if_neg (by omega)]
                  obtain ⟨f0, _, h02, _⟩ := hS.cells
                  have hrow : ∃ row0, r = viewRow off row0 ∧ look bs id = some (.arr t0 sz n0 row0) := by
                    rw [hsv] at hcs
                    simp only [contents, hlk] at hcs
                    split at hcs
                    · simp only [Option.some.injEq, Prod.mk.injEq] at hcs
                      exact ⟨_, hcs.2.symm, hlk⟩
                    · cases hcs
                  obtain ⟨row1, hr1, hr2⟩ := hrow
                  rw [hlk] at hr2
                  cases hr2
                  have hview : viewRow off row0 i = row0 (off + i) := by cases off <;> simp [viewRow]
                  rw [hr1, hview] at hd
                  have := (g8 (off + i) j d (by omega) hd).keep keep
                  rw [show (ρ id).o + off * sz + i * sz + j = (ρ id).o + (off + i) * sz + j by rw [Nat.add_mul]; omega]
                  simpa using this
                · rw [if_neg hin] at hd
                  have hj : j < sz := by have := (List.getElem?_eq_some_iff.1 hd).1; have := hX.rows (i - n) (by omega); omega
                  have hm3 : n * sz ≤ i * sz := Nat.mul_le_mul_right _ (by omega)
                  have hm4 : (i + 1) * sz ≤ (n + m) * sz := Nat.mul_le_mul_right _ (by omega)
                  rw [Nat.add_mul, Nat.add_mul] at hm4
                  rw [if_pos (by omega)]
                  have e4 : (ρ id).o + off * sz + i * sz + j - ((ρ id).o + off * sz + n * sz) = (i - n) * sz + j := by rw [Nat.sub_mul]; omega
                  rw [e4, List.getD_eq_getElem?_getD, flat_get (n := m) (by omega) hj]
                  exact (f2 (i - n) j d (by omega) hd).keep keep
          refine fin (by rw [h1]; exact hrm) hsn ?_ he
          have e1 : (Value.slice (some ⟨(ρ id).b, (ρ id).o + off * sz, none⟩) (n + m) cap) = .slice (some ⟨((ρ.set id ⟨(ρ id).b, (ρ id).o + off * sz, sz, n + m, cap, false⟩) id).b, ((ρ.set id ⟨(ρ id).b, (ρ id).o + off * sz, sz, n + m, cap, false⟩) id).o + 0 * ((ρ.set id ⟨(ρ id).b, (ρ id).o + off * sz, sz, n + m, cap, false⟩) id).sz, none⟩) (n + m) (((ρ.set id ⟨(ρ id).b, (ρ id).o + off * sz, sz, n + m, cap, false⟩) id).cap - 0) := by
            simp [Env.set]
          rw [e1]
          exact .osl (by simp [Env.set]) (by simp [Env.set]) (by simpa [Env.set] using hroom)
    · rename_i hsv
      have h1 : a.eval s = .slice none 0 0 := by
        have := hev.eq hsv
        cases this with | d this => generalize a.eval s = y at *; cases this; rfl
      have hn : n = 0 := by
        obtain ⟨ad', c', h4⟩ := hS.hdr
        rw [h1] at h4; cases h4; rfl
      subst hn
      split at he
      · exact he.no.elim
      · rename_i hm
        obtain ⟨hb, he⟩ := he
        rcases Nat.eq_zero_or_pos m with hm0 | hm0
        · subst hm0
          obtain ⟨f, f1, _, _⟩ := hX.cells
          have hf := f1 w rfl
          have g1 := append_none_run (P := P) (w := w) (ty := ty) hu hu' hteok hxv (by simpa [flat] using hf) (base := none) (cap := 0)
          have hsn := sim_emptyRow (w := w) h.o hm (fun _ h => h) (sz := sz) (row := r') (e := e) none
          exact fin (by rw [h1]; exact g1) hsn.1 hsn.2 he
        · obtain ⟨nc, C, g1, g2, g3, g4⟩ := append_grow_run (P := P) (ty := ty) hu hu' hteok h1 hS hX (by omega) hb
          rw [Nat.zero_add] at g1 g3
          have hsn := sim_newRow (w := w) h.o hm (fun _ h => h) (fun _ ho => own_lt' h ho) (n := m) (sz := sz) (cap := nc) (row := r') (C := C) (e := e) (.inr rfl) (by rw [g2]; exact Nat.le_refl _) g3 fun i hi => by
            have := g4 i (by omega)
            simpa [catRow] using this
          exact fin g1 hsn.1 hsn.2 he
    · exact he.no.elim

end Go.Ab
namespace Go.Ab
open Go.RowKit

/-- The values over an array of real ones. -/
def ArgsR (w : World) (ow : Nat → Prop) (ρ : Env) (vs : List V) (vals : Array Value) : Prop :=
  vals.size = vs.length ∧ ∀ j v, vs[j]? = some v → VR w ow ρ v (vals.getD j undef)

/-- A function with a body. -/
structure Callable (P : Program) (f : FuncId) : Prop where
  out : ∃ fn, P.funcs[f]? = some fn ∧ (fn.name == "runtime.NumGoroutine") = false ∧ fn.body.isNone = false

/-- A call that is met: the one who proves says what it does. -/
structure CallP (P : Program) (f : FuncId) (args : List V) (S : St) (K : V → St → Prop) : Prop where
  can : Callable P f
  out : ∀ B w0 F ρ a w vals, Sim B w0 F ρ S a w → ArgsR w (own S.blks ρ) ρ args vals →
    Calls P f vals w fun e w' => ∃ v ρ' x S', e = .returned v ∧ Sim B w0 F ρ' S' a w' ∧ VR w' (own S'.blks ρ') ρ' x v ∧ K x S'

/-- A call under a guard. -/
structure CallG (P : Program) (sc : Prop → Prop) (f : FuncId) (args : List V) (S : St) (K : V → Prop) : Prop where
  can : Callable P f
  out : ∃ x, K x ∧ sc (∀ B w0 F ρ a w vals, Sim B w0 F ρ S a w → ArgsR w (own S.blks ρ) ρ args vals →
    Calls P f vals w fun e w' => ∃ v, e = .returned v ∧ Pure w w' ∧ VR w' (own S.blks ρ) ρ x v)

def WP (P : Program) (c : Code) (S : St) (Q : Exit → St → Prop) : Prop :=
  ∀ B w0 F ρ a w, Sim B w0 F ρ S a w → c.wp P (fun e a' w' => ∃ ρ' S', Sim B w0 F ρ' S' a' w' ∧ Q e S') a w

structure LoopP (P : Program) (c : Code) (S : St) (Q : Exit → St → Prop) : Prop where
  out : WP P (.loop c) S Q

structure DrawP (P : Program) (id : Nat) (ops : Array Oper) (S : St) (K : St → Prop) : Prop where
  out : WP P (.region id ops true) S fun e S' => e = .normal ∧ K S'

def isE : Op → Bool
  | .store .. => true
  | .alloc _ => true
  | .box .. => true
  | .makeSlice .. => true
  | .buildSlice .. => true
  | .call c => (match c.callee with
    | .builtin .append => true
    | _ => false)
  | _ => false

def gdFree (t : Nat) : List Gd → Bool
  | [] => true
  | g :: r => match Nat.beq g.t t, Nat.beq g.key t with
    | false, false => gdFree t r
    | _, _ => false

def St.put (S : St) (dst : Option Nat) (v : V) (K : St → Prop) : Prop := match S, dst with
  | ⟨base, nt, ts, gs, bs, fs⟩, none => K ⟨base, nt, ts, gs, bs, fs⟩
  | ⟨base, nt, ts, gs, bs, fs⟩, some t => match gdFree t gs, Nat.blt t nt with
    | true, true => K ⟨base, nt, (t, v) :: ts, gs, bs, fs⟩
    | _, _ => Stuck "put"

def St.putG (S : St) (dst : Option Nat) (key : Nat) (want : Bool) (v : V) (K : St → Prop) : Prop := match S, dst with
  | ⟨base, nt, ts, gs, bs, fs⟩, none => K ⟨base, nt, ts, gs, bs, fs⟩
  | ⟨base, nt, ts, gs, bs, fs⟩, some t => match gdFree t gs, Nat.blt t nt, Nat.beq key t with
    | true, true, false => K ⟨base, nt, (t, .any) :: ts, ⟨t, key, want, v⟩ :: gs, bs, fs⟩
    | _, _, _ => Stuck "putG"

/-- The guards that hold where this one does. -/
def closure (gs : List Gd) : Nat → Nat → Bool → List (Nat × Bool)
  | 0, k, w => [(k, w)]
  | n + 1, k, w => (k, w) :: match lookG gs k with
    | some g => closure gs n g.key g.want
    | none => []

/-- 'p', where the guards hold. -/
def condP (S : St) (al : List (Nat × Bool)) : List (Nat × Bool) → Prop → Prop
  | [], p => p
  | (k, w) :: r, p => match S.ev al (.tmp k) with
    | .d (.bool b) => (b = w → condP S al r p)
    | _ => condP S al r p

def evOps (P : Program) (tb : Tb) (ops : List Oper) : List Oper → St → (St → Prop) → Prop
  | [], S, K => K S
  | o :: rest, S, K => match o.guard with
    | none => (match isE o.op with
      | true => evE tb o.dst o.op S fun v S => S.put o.dst v fun S => evOps P tb ops rest S K
      | false => (match o.op with
        | .call ⟨.value f, args, _⟩ => (match S.ev [] f with
          | .fn g cap => forceVL (args.toList.map (S.ev []) ++ cap) fun vs => CallP P g vs S fun v S => S.put o.dst v fun S => evOps P tb ops rest S K
          | _ => Stuck "call no function")
        | op => evP tb S.ev (look S.blks) id op fun v => S.put o.dst v fun S => evOps P tb ops rest S K))
    | some (j, want) => (match ops[j]? with
      | some ⟨some key, _, _, _, _, _⟩ => (match o.op with
        | .call ⟨.value f, args, _⟩ => (match S.ev (closure S.gds 9 key want) f with
          | .fn g cap => forceVL (args.toList.map (S.ev (closure S.gds 9 key want)) ++ cap) fun vs =>
              CallG P (condP S (closure S.gds 9 key want) (closure S.gds 9 key want)) g vs S fun v => S.putG o.dst key want v fun S => evOps P tb ops rest S K
          | _ => Stuck "guarded call no function")
        | op => evP tb (fun ex x => S.ev (ex ++ closure S.gds 9 key want) x) (look S.blks) (condP S (closure S.gds 9 key want) (closure S.gds 9 key want)) op fun v => S.putG o.dst key want v fun S => evOps P tb ops rest S K)
      | _ => Stuck "guard")

def St.noGds (S : St) (K : St → Prop) : Prop := match S with
  | ⟨base, nt, ts, _, bs, fs⟩ => K ⟨base, nt, ts, [], bs, fs⟩

def wpc (P : Program) (tb : Tb) : Code → St → (Exit → St → Prop) → Prop
  | .skip, S, Q => Q .normal S
  | .label _, S, Q => Q .normal S
  | .region _ ops false, S, Q => S.noGds fun S => evOps P tb ops.toList ops.toList S fun S => S.noGds fun S => Q .normal S
  | .region id ops true, S, Q => S.noGds fun S => DrawP P id ops S fun S => Q .normal S
  | .seq a b, S, Q => wpc P tb a S fun e S => match e with
    | .normal => wpc P tb b S Q
    | e => Q e S
  | .cond c x y, S, Q => match S.ev [] c with
    | .d (.bool b) => (b = true → wpc P tb x S Q) ∧ (b = false → wpc P tb y S Q)
    | _ => Stuck "cond"
  | .block id c, S, Q => wpc P tb c S fun e S => match e with
    | .exit i => (match Nat.beq i id with
      | true => Q .normal S
      | false => Q (.exit i) S)
    | e => Q e S
  | .loop c, S, Q => LoopP P c S Q
  | .exit id, S, Q => Q (.exit id) S
  | .ret, S, Q => Q .ret S
  | _, _, _ => Stuck "code"

variable {P : Program} {tb : Tb} {w : World} {ρ : Env} {a : Act} {B : Nat} {w0 : World} {F : List (Array Value)} {S : St}

theorem gdFree_spec {t : Nat} : ∀ {gs : List Gd}, gdFree t gs = true → ∀ g ∈ gs, g.t ≠ t ∧ g.key ≠ t
  | g :: r, h, x, hx => by
    simp only [gdFree] at h
    split at h
    · rename_i h1 h2
      rcases List.mem_cons.1 hx with hx | hx
      · subst hx
        exact ⟨fun e => by subst e; simp at h1, fun e => by rw [e] at h2; simp at h2⟩
      · exact gdFree_spec h x hx
    · cases h
  | [], _, _, hx => by simp at hx

theorem put_getD {a : Act} {t u : Nat} {v : Value} : (a.put (some t) v).tmps.getD u undef = if u = t ∧ t < a.tmps.size then v else a.tmps.getD u undef := by
  simp only [Act.put, Array.getD_eq_getD_getElem?, Array.getElem?_setIfInBounds]
  by_cases h : t = u
  · subst h
    by_cases hl : t < a.tmps.size
    · simp [hl]
    · simp [hl]
  · simp [h, Ne.symm h]

theorem sim_put {t : Nat} {v : V} {x : Value} (h : Sim B w0 F ρ S a w) (hv : VR w (own S.blks ρ) ρ v x) (hg : ∀ g ∈ S.gds, g.t ≠ t ∧ g.key ≠ t) (ht : t < S.nt) :
    Sim B w0 F ρ ⟨S.base, S.nt, (t, v) :: S.tmps, S.gds, S.blks, S.frames⟩ (a.put (some t) x) w := by
  have hlt : t < a.tmps.size := by rw [h.nt]; exact ht
  refine ⟨h.below, h.hB, h.defers, by simp [Act.put, h.nt], ⟨fun u y hy => ?_, fun g hgm => ?_⟩, h.blks, h.sep, h.ge, h.frames⟩
  · rw [put_getD]
    rcases look_cons hy with ⟨rfl, rfl⟩ | ⟨hn, hy⟩
    · rw [if_pos ⟨rfl, hlt⟩]; exact hv
    · rw [if_neg (fun e => hn e.1.symm)]; exact h.top.tmps u y hy
  · obtain ⟨h1, h2⟩ := hg g hgm
    have := (h.top.gds g hgm).h
    refine ⟨?_⟩
    rw [put_getD, put_getD, if_neg (fun e => h2 e.1), if_neg (fun e => h1 e.1)]
    exact this

theorem sim_putG {t key : Nat} {want : Bool} {v : V} {x : Value} (h : Sim B w0 F ρ S a w)
    (hv : (a.tmps.getD key undef = .bool want ∧ VR w (own S.blks ρ) ρ v x) ∨ (a.tmps.getD key undef ≠ .bool want ∧ x = undef)) (hg : ∀ g ∈ S.gds, g.t ≠ t ∧ g.key ≠ t) (hk : key ≠ t) (ht : t < S.nt) :
    Sim B w0 F ρ ⟨S.base, S.nt, (t, .any) :: S.tmps, ⟨t, key, want, v⟩ :: S.gds, S.blks, S.frames⟩ (a.put (some t) x) w := by
  have hlt : t < a.tmps.size := by rw [h.nt]; exact ht
  have h1 := sim_put (v := .any) (x := x) h .any hg ht
  refine ⟨h1.below, h1.hB, h1.defers, h1.nt, ⟨h1.top.tmps, fun g hgm => ?_⟩, h1.blks, h1.sep, h1.ge, h1.frames⟩
  rcases List.mem_cons.1 hgm with hgm | hgm
  · subst hgm
    refine ⟨?_⟩
    rw [put_getD, put_getD, if_neg (fun e => hk e.1), if_pos ⟨rfl, hlt⟩]
    exact hv
  · exact h1.top.gds g hgm

theorem put_sound {dst : Option Nat} {v : V} {x : Value} {K : St → Prop} (h : Sim B w0 F ρ S a w) (hv : VR w (own S.blks ρ) ρ v x) (hp : S.put dst v K) : ∃ S', Sim B w0 F ρ S' (a.put dst x) w ∧ K S' := by
  obtain ⟨base, nt, ts, gs, bs, fs⟩ := S
  cases dst with
  | none => exact ⟨_, h, hp⟩
  | some t =>
    simp only [St.put] at hp
    split at hp
    · rename_i h1 h2
      exact ⟨_, sim_put h hv (gdFree_spec h1) (by simpa [Nat.blt_eq] using h2), hp⟩
    · exact hp.no.elim

theorem putG_sound {dst : Option Nat} {key want} {v : V} {x : Value} {K : St → Prop} (h : Sim B w0 F ρ S a w)
    (hv : (a.tmps.getD key undef = .bool want ∧ VR w (own S.blks ρ) ρ v x) ∨ (a.tmps.getD key undef ≠ .bool want ∧ x = undef)) (hp : S.putG dst key want v K) : ∃ S', Sim B w0 F ρ S' (a.put dst x) w ∧ K S' := by
  obtain ⟨base, nt, ts, gs, bs, fs⟩ := S
  cases dst with
  | none => exact ⟨_, h, hp⟩
  | some t =>
    simp only [St.putG] at hp
    split at hp
    · rename_i h1 h2 h3
      exact ⟨_, sim_putG h hv (gdFree_spec h1) (fun e => by subst e; simp at h3) (by simpa [Nat.blt_eq] using h2), hp⟩
    · exact hp.no.elim

theorem sim_noGds (h : Sim B w0 F ρ S a w) : Sim B w0 F ρ ⟨S.base, S.nt, S.tmps, [], S.blks, S.frames⟩ a w :=
  ⟨h.below, h.hB, h.defers, h.nt, ⟨h.top.tmps, fun _ hg => by simp at hg⟩, h.blks, h.sep, h.ge, h.frames⟩

theorem noGds_sound {K : St → Prop} (h : Sim B w0 F ρ S a w) (hk : S.noGds K) : ∃ S', Sim B w0 F ρ S' a w ∧ K S' := ⟨_, sim_noGds h, hk⟩

theorem closure_sound (h : Sim B w0 F ρ S a w) : ∀ (n k : Nat) (b : Bool), a.tmps.getD k undef = .bool b → ∀ k' b', (k', b') ∈ closure S.gds n k b → a.tmps.getD k' undef = .bool b'
  | 0, k, b, h0, k', b', hm => by simp [closure] at hm; obtain ⟨rfl, rfl⟩ := hm; exact h0
  | n + 1, k, b, h0, k', b', hm => by
    simp only [closure, List.mem_cons, Prod.mk.injEq] at hm
    rcases hm with ⟨rfl, rfl⟩ | hm
    · exact h0
    · split at hm
      · rename_i g hg
        obtain ⟨hgm, rfl⟩ := lookG_mem hg
        rcases (h.top.gds g hgm).h with h1 | h1
        · exact closure_sound h n g.key g.want h1.1 k' b' hm
        · rw [h0] at h1; cases h1.2
      · cases hm

theorem condP_sound (h : Sim B w0 F ρ S a w) (al : List (Nat × Bool)) (hal : ∀ k b, (k, b) ∈ al → a.tmps.getD k undef = .bool b) : ∀ (l : List (Nat × Bool)) (p : Prop), (∀ x ∈ l, x ∈ al) → condP S al l p → p
  | [], _, _, hp => hp
  | (k, b) :: r, p, hl, hp => by
    simp only [condP] at hp
    split at hp
    · rename_i c hc
      refine condP_sound h al hal r p (fun x hx => hl x (by simp [hx])) (hp ?_)
      have h1 := h.evR.h al (.tmp k) hal
      rw [hc] at h1
      have h2 := h1.bool_inv
      have h3 : a.eval (.tmp k) = .bool b := hal k b (hl _ (by simp))
      rw [h3] at h2
      cases h2; rfl
    · exact condP_sound h al hal r p (fun x hx => hl x (by simp [hx])) hp

theorem yielded_iff {ops : Array Oper} {j key : Nat} {tmps : Array Value} {want : Bool} {o : Oper} (hj : ops[j]? = some o) (hd : o.dst = some key) :
    (yielded ops tmps j == some want) = true ↔ tmps.getD key undef = .bool want := by
  simp only [yielded, hj, Option.bind_some, hd]
  cases h : tmps[key]? with
  | none => simp [Array.getD_eq_getD_getElem?, h, undef]
  | some v => cases v <;> simp [Array.getD_eq_getD_getElem?, h]

theorem call_run {f : Operand} {args : Array Operand} {tys : Array TypeId} {g : FuncId} {cs : Array Value} {dst ty pos after guard} (hf : a.eval f = .func (.func g) #[] cs) (hc : Callable P g) (w : World) :
    (execOp a.eval ⟨dst, .call ⟨.value f, args, tys⟩, ty, pos, after, guard⟩).run P w = .ok (.enter g (args.map a.eval ++ cs)) w := by
  obtain ⟨fn, h1, h2, h3⟩ := hc.out
  have hc : (callFunc g (args.map a.eval ++ cs)).run P w = .ok (.enter g (args.map a.eval ++ cs)) w := by
    simp only [callFunc, Sem.run_bind, run_program, Result.andThen_ok, h1, h2, h3, Bool.false_eq_true, if_false, Sem.run_pure]
  simpa [execOp, resolve, hf, Deferred.ofValue, invoke] using hc

theorem args_sound {ow : Nat → Prop} {ev : List (Nat × Bool) → Operand → V} {al : List (Nat × Bool)} (hev : ∀ x, VR w ow ρ (ev al x) (a.eval x)) (args : Array Operand) {cap : List V} {cs : Array Value} (hcl : cs.size = cap.length)
    (hcv : ∀ (j : Nat) (u : V), cap[j]? = some u → VR w ow ρ u (cs.getD j undef)) : ArgsR w ow ρ (args.toList.map (ev al) ++ cap) (args.map a.eval ++ cs) := by
  refine ⟨by simp [hcl], fun j v hj => ?_⟩
  rw [Array.getD_eq_getD_getElem?]
  by_cases hlt : j < args.size
  · rw [List.getElem?_append_left (by simpa using hlt)] at hj
    rw [Array.getElem?_append_left (by simpa using hlt), ← Array.getD_eq_getD_getElem?]
    rw [List.getElem?_map] at hj
    obtain ⟨x, hx, rfl⟩ := Option.map_eq_some_iff.1 hj
    have hx' : args[j]? = some x := by simpa using hx
    have : (args.map a.eval).getD j undef = a.eval x := by simp [Array.getD_eq_getD_getElem?, hx']
    rw [this]
    exact hev x
  · rw [List.getElem?_append_right (by simp; omega)] at hj
    rw [Array.getElem?_append_right (by simp; omega), ← Array.getD_eq_getD_getElem?]
    simpa using hcv _ _ (by simpa using hj)

theorem fn_inv {ow : Nat → Prop} {g : FuncId} {cap : List V} {y : Value} (h : VR w ow ρ (.fn g cap) y) : ∃ cs, y = .func (.func g) #[] cs ∧ cs.size = cap.length ∧ ∀ (j : Nat) (u : V), cap[j]? = some u → VR w ow ρ u (cs.getD j undef) := by
  cases h with | fn h1 h2 => exact ⟨_, rfl, h1, h2⟩

theorem evLoad_some {ti : TI} {blk : Nat → Option Blk} {p : V} {K : V → Prop} (h : evLoad ti blk p K) : ∃ x, K x := by
  unfold evLoad at h
  repeat' split at h
  all_goals first | exact h.no.elim | (rw [forceV_eq] at h; exact ⟨_, h⟩)

theorem evInt_some {sc : Prop → Prop} {op k x y} {K : V → Prop} (h : evInt sc op k x y K) : ∃ z, K z := by
  cases op <;> simp only [evInt] at h <;> first | exact h.no.elim | exact ⟨_, h.2⟩ | exact ⟨_, h⟩

theorem evP_some {ev : List (Nat × Bool) → Operand → V} {blk : Nat → Option Blk} {sc : Prop → Prop} {op : Op} {K : V → Prop} (h : evP tb ev blk sc op K) : ∃ x, K x := by
  cases op <;> simp only [evP, forceV_eq, forceVL_eq, forceDL_eq] at h
  all_goals repeat' split at h
  all_goals first
    | exact h.no.elim
    | exact evLoad_some h
    | exact evInt_some h
    | exact h.2.no.elim
    | exact ⟨_, h.2⟩
    | exact ⟨_, h⟩

/-- Runs the operations 'l' of a region in their order. -/
theorem evOps_sound (hT : TOk P tb) (ops : Array Oper) (Q : Exit → St → Prop) (F : List (Array Value)) : ∀ (l : List Nat) (os : List Oper), os.length = l.length → (∀ (i k : Nat), l[i]? = some k → ops[k]? = os[i]?) →
    ∀ (S : St) (ρ : Env) (a : Act) (w : World), Sim B w0 F ρ S a w → evOps P tb ops.toList os S (fun S => Q .normal S) →
    wpOps P ops (fun e a' w' => ∃ ρ' S', Sim B w0 F ρ' S' a' w' ∧ Q e S') l a w
  | [], os, hl, _, S, ρ, a, w, h, he => by
    have : os = [] := by simpa using hl
    subst this
    exact ⟨ρ, S, h, he⟩
  | k :: l, [], hl, _, S, ρ, a, w, h, he => by simp at hl
  | k :: l, o :: os, hl, hi, S, ρ, a, w, h, he => by
    have hk : ops[k]? = some o := by simpa using hi 0 k rfl
    have ih := evOps_sound hT ops Q F l os (by simpa using hl) (fun i k hk => by simpa using hi (i + 1) k (by simpa using hk))
    simp only [wpOps, hk]
    simp only [evOps] at he
    split at he
    · rename_i hg
      have hw : Region.wanted o (yielded ops a.tmps) = true := by simp [Region.wanted, hg]
      rw [if_pos hw]
      refine .inl ?_
      split at he
      · obtain ⟨n, v, w', ρ', x, S', h1, h2, h3, h4, h5⟩ := evE_sound hT h o he
        obtain ⟨S'', h6, h7⟩ := put_sound h3 h4 h5
        unfold Oper.wp
        rw [h1]
        rcases h2 with rfl | ⟨rfl, rfl⟩
        · exact ih S'' ρ' _ w' h6 h7
        · exact ih S'' ρ' _ w' h6 h7
      · split at he
        · rename_i f args tys hop
          split at he
          · rename_i g cap hf
            rw [forceVL_eq] at he
            obtain ⟨cs, hcs, hcl, hcv⟩ := fn_inv (h.evR.eq hf)
            have hargs := args_sound (ev := S.ev) (al := []) h.evR.at args hcl hcv
            have hcall := he.out B w0 F ρ a w _ h hargs
            unfold Oper.wp
            obtain ⟨dst, op, ty, pos, after, guard⟩ := o
            dsimp only at hop
            subst hop
            rw [call_run hcs he.can, Oper.upon_enter]
            refine Calls.mono hcall ?_
            rintro e w' ⟨v, ρ', x, S', rfl, h1, h2, h3⟩
            obtain ⟨S'', h6, h7⟩ := put_sound h1 h2 h3
            exact ih S'' ρ' _ w' h6 h7
          · exact he.no.elim
        · obtain ⟨v, w', x, h1, h2, h3, h4⟩ := evP_sound hT h.evR h.blks (fun _ ho => own_lt' h ho) (fun p hp => hp) o he
          obtain ⟨S'', h6, h7⟩ := put_sound (h.pure h2) h3 h4
          unfold Oper.wp
          rw [h1]
          exact ih S'' ρ _ w' h6 h7
    · rename_i j want hg
      split at he
      case h_2 => exact he.no.elim
      rename_i key op' ty' pos' af' gd' hj
      have hj' : ops[j]? = some ⟨some key, op', ty', pos', af', gd'⟩ := by simpa using hj
      have hy := yielded_iff (tmps := a.tmps) (want := want) hj' rfl
      have hwd : Region.wanted o (yielded ops a.tmps) = (yielded ops a.tmps j == some want) := by simp [Region.wanted, hg]
      by_cases hw : a.tmps.getD key undef = .bool want
      · have hwt : Region.wanted o (yielded ops a.tmps) = true := by rw [hwd]; exact hy.2 hw
        rw [if_pos hwt]
        refine .inl ?_
        have hal := closure_sound h 9 key want hw
        have hsc : ∀ p, condP S (closure S.gds 9 key want) (closure S.gds 9 key want) p → p := fun p => condP_sound h _ hal _ p (fun _ hx => hx)
        have hev' : EvR w (own S.blks ρ) ρ a (fun ex x => S.ev (ex ++ closure S.gds 9 key want) x) := ⟨fun al x hx => h.evR.h _ x fun k g hm => by
          rcases List.mem_append.1 hm with hm | hm
          · exact hx k g hm
          · exact hal k g hm⟩
        split at he
        · rename_i f args tys hop
          split at he
          · rename_i g cap hf
            rw [forceVL_eq] at he
            have hf' := h.evR.h (closure S.gds 9 key want) f hal
            rw [hf] at hf'
            obtain ⟨cs, hcs, hcl, hcv⟩ := fn_inv hf'
            have hargs := args_sound (ev := S.ev) (al := closure S.gds 9 key want) (fun x => h.evR.h _ x hal) args hcl hcv
            obtain ⟨x, hK, hc⟩ := he.out
            have hcall := hsc _ hc B w0 F ρ a w _ h hargs
            unfold Oper.wp
            obtain ⟨dst, op, ty, pos, after, guard⟩ := o
            dsimp only at hop
            subst hop
            rw [call_run hcs he.can, Oper.upon_enter]
            refine Calls.mono hcall ?_
            rintro e w' ⟨v, rfl, h1, h2⟩
            obtain ⟨S'', h6, h7⟩ := putG_sound (h.pure h1) (.inl ⟨hw, h2⟩) hK
            exact ih S'' ρ _ w' h6 h7
          · exact he.no.elim
        · obtain ⟨v, w', x, h1, h2, h3, h4⟩ := evP_sound hT hev' h.blks (fun _ ho => own_lt' h ho) hsc o he
          obtain ⟨S'', h6, h7⟩ := putG_sound (h.pure h2) (.inl ⟨hw, h3⟩) h4
          unfold Oper.wp
          rw [h1]
          exact ih S'' ρ _ w' h6 h7
      · have hwf : ¬ Region.wanted o (yielded ops a.tmps) = true := by rw [hwd]; exact fun e => hw (hy.1 e)
        rw [if_neg hwf]
        split at he
        · rename_i f args tys hop
          split at he
          · rw [forceVL_eq] at he
            obtain ⟨x, hK, hc⟩ := he.out
            obtain ⟨S'', h6, h7⟩ := putG_sound h (.inr ⟨hw, rfl⟩) hK
            exact ih S'' ρ _ w h6 h7
          · exact he.no.elim
        · obtain ⟨x, hK⟩ := evP_some he
          obtain ⟨S'', h6, h7⟩ := putG_sound h (.inr ⟨hw, rfl⟩) hK
          exact ih S'' ρ _ w h6 h7

end Go.Ab
namespace Go.Ab
open Go.RowKit
variable {P : Program} {tb : Tb} {w : World} {ow : Nat → Prop} {ρ : Env} {a : Act} {B : Nat} {w0 : World} {F : List (Array Value)} {S : St}

/-- THE EVALUATOR IS SOUND. -/
theorem wpc_sound (hT : TOk P tb) : ∀ (c : Code) (S : St) (Q : Exit → St → Prop), wpc P tb c S Q → WP P c S Q
  | .skip, S, Q, h => fun B w0 F ρ a w hs => wp_skip ⟨ρ, S, hs, h⟩
  | .label l, S, Q, h => fun B w0 F ρ a w hs => wp_label ⟨ρ, S, hs, h⟩
  | .exit id, S, Q, h => fun B w0 F ρ a w hs => wp_exit ⟨ρ, S, hs, h⟩
  | .ret, S, Q, h => fun B w0 F ρ a w hs => wp_ret ⟨ρ, S, hs, h⟩
  | .region id ops false, S, Q, h => fun B w0 F ρ a w hs => by
    simp only [wpc] at h
    obtain ⟨S1, h1, h2⟩ := noGds_sound hs h
    refine wp_mono (wp_region (evOps_sound (B := B) (w0 := w0) hT ops (fun e S => match e with | .normal => S.noGds fun S => Q .normal S | _ => False) F (List.range ops.size) ops.toList (by simp) (fun i k hk => ?_) S1 ρ a w h1 h2)) ?_
    · have hlt := (List.getElem?_eq_some_iff.1 hk).1
      rw [List.getElem?_range (by simpa using hlt)] at hk
      cases hk
      simp
    · rintro e a' w' ⟨ρ', S', h3, h4⟩
      cases e with
      | normal => exact ⟨ρ', (noGds_sound h3 h4).elim fun S'' h5 => ⟨S'', h5⟩⟩
      | _ => exact h4.elim
  | .region id ops true, S, Q, h => fun B w0 F ρ a w hs => by
    simp only [wpc] at h
    obtain ⟨S1, h1, h2⟩ := noGds_sound hs h
    refine wp_mono (h2.out B w0 F ρ a w h1) ?_
    rintro e a' w' ⟨ρ', S', h3, rfl, h4⟩
    exact ⟨ρ', S', h3, h4⟩
  | .seq x y, S, Q, h => fun B w0 F ρ a w hs => by
    simp only [wpc] at h
    refine wp_seq (wp_mono (wpc_sound hT x S _ h B w0 F ρ a w hs) ?_)
    rintro e a' w' ⟨ρ', S', h1, h2⟩
    cases e with
    | normal => exact wpc_sound hT y S' Q h2 B w0 F ρ' a' w' h1
    | _ => exact ⟨ρ', S', h1, h2⟩
  | .cond c x y, S, Q, h => fun B w0 F ρ a w hs => by
    simp only [wpc] at h
    split at h
    · rename_i b hb
      have hc := (hs.evR.eq hb).bool_inv
      refine wp_cond hc ?_
      cases b with
      | true => exact wpc_sound hT x S Q (h.1 rfl) B w0 F ρ a w hs
      | false => exact wpc_sound hT y S Q (h.2 rfl) B w0 F ρ a w hs
    · exact h.no.elim
  | .block id c, S, Q, h => fun B w0 F ρ a w hs => by
    simp only [wpc] at h
    refine wp_block (wp_mono (wpc_sound hT c S _ h B w0 F ρ a w hs) ?_)
    rintro e a' w' ⟨ρ', S', h1, h2⟩
    cases e with
    | exit i =>
      dsimp only at h2
      simp only [Exit.inBlock]
      split at h2
      · rename_i hb
        rw [if_pos (Nat.eq_of_beq_eq_true hb)]; exact ⟨ρ', S', h1, h2⟩
      · rename_i hb
        rw [if_neg (fun e => by subst e; simp at hb)]; exact ⟨ρ', S', h1, h2⟩
    | _ => exact ⟨ρ', S', h1, h2⟩
  | .loop c, S, Q, h => h.out
  | .rangeFunc .., _, _, h => h.no.elim
  | .scope _, _, _, h => h.no.elim
  | .goto _, _, _, h => h.no.elim
  | .refuse _, _, _, h => h.no.elim

/-! ### Results -/
def resVs (tb : Tb) : List ResultVar → St → (List V → Prop) → Prop
  | [], _, K => K []
  | .tmp t :: r, S, K => forceV (S.ev [] (.tmp t)) fun v => resVs tb r S fun vs => K (v :: vs)
  | .cell x t :: r, S, K => match tb.find t with
    | some ti => evLoad ti (look S.blks) (S.ev [] (.tmp x)) fun v => resVs tb r S fun vs => K (v :: vs)
    | none => Stuck "result type"

def resV (tb : Tb) (rs : List ResultVar) (S : St) (K : V → Prop) : Prop := resVs tb rs S fun vs => match vs with
  | [v] => K v
  | vs => K (.tup vs)

def resOne (tmps : Array Value) : ResultVar → Sem Value
  | .tmp t => pure (tmps.getD t undef)
  | .cell a t => do loadVar t (← asAddr (tmps.getD a undef))

theorem results_eq (fn : Func) (tmps : Array Value) : results fn tmps = (do
  let vs ← fn.results.mapM (resOne tmps)
  pure (if h : vs.size = 1 then vs[0] else .tuple vs)) := rfl

theorem resVs_sound (hT : TOk P tb) (h : Sim B w0 F ρ S a w) : ∀ (rs : List ResultVar) (K : List V → Prop), resVs tb rs S K →
    ∃ vs vals, (rs.mapM (resOne a.tmps)).run P w = .ok vals w ∧ ArgsR w (own S.blks ρ) ρ vs vals.toArray ∧ K vs
  | [], K, hk => ⟨[], [], rfl, ⟨rfl, fun j v hj => by simp at hj⟩, hk⟩
  | .tmp t :: r, K, hk => by
    simp only [resVs, forceV_eq] at hk
    obtain ⟨vs, vals, h1, h2, h3⟩ := resVs_sound hT h r _ hk
    refine ⟨_ :: vs, a.tmps.getD t undef :: vals, ?_, ⟨by simpa using h2.1, fun j v hj => ?_⟩, h3⟩
    · simp only [List.mapM_cons, resOne, Sem.run_bind, Sem.run_pure, Result.andThen_ok, h1]
    · cases j with
      | zero => simp at hj; subst hj; exact h.evR.at (.tmp t)
      | succ j => simpa using h2.2 j v (by simpa using hj)
  | .cell x t :: r, K, hk => by
    simp only [resVs] at hk
    split at hk
    · rename_i ti hti
      have hx := h.evR.at (.tmp x)
      obtain ⟨v, y, h4, h5, h6⟩ := evLoad_sound (P := P) (hT.ok _ _ hti) h.blks hx hk
      obtain ⟨vs, vals, h1, h2, h3⟩ := resVs_sound hT h r _ h6
      refine ⟨y :: vs, v :: vals, ?_, ⟨by simpa using h2.1, fun j u hj => ?_⟩, h3⟩
      · have h7 : (resOne a.tmps (.cell x t)).run P w = .ok v w := by
          have e : a.eval (.tmp x) = a.tmps.getD x undef := rfl
          rw [e] at h4
          simp only [resOne]
          revert h4
          generalize a.tmps.getD x undef = y'
          intro h4
          cases y' with
          | pointer p => cases p <;> simp_all [Instr.loadAt, Instr.sureAddr, asAddr]
          | _ => simp [Instr.loadAt, Instr.sureAddr] at h4
        simp only [List.mapM_cons, Sem.run_bind, h7, Result.andThen_ok, h1, Sem.run_pure]
      · cases j with
        | zero => simp at hj; subst hj; simpa using h5
        | succ j => simpa using h2.2 j u (by simpa using hj)
    · exact hk.no.elim

theorem resV_sound (hT : TOk P tb) (h : Sim B w0 F ρ S a w) (fn : Func) (K : V → Prop) (hk : resV tb fn.results.toList S K) : ∃ x v, (results fn a.tmps).run P w = .ok v w ∧ VR w (own S.blks ρ) ρ x v ∧ K x := by
  obtain ⟨vs, vals, h1, h2, h3⟩ := resVs_sound hT h _ _ hk
  have hr : (results fn a.tmps).run P w = .ok (if h : vals.toArray.size = 1 then vals.toArray[0] else .tuple vals.toArray) w := by
    rw [results_eq, Sem.run_bind, Array.mapM_eq_mapM_toList, Sem.run_map, h1]
    rfl
  have hs := h2.1
  cases vs with
  | nil => 
    have : ¬ vals.toArray.size = 1 := by rw [hs]; simp
    rw [dif_neg this] at hr
    exact ⟨_, _, hr, .tup hs h2.2, h3⟩
  | cons v r =>
    cases r with
    | nil =>
      have h0 : vals.toArray.size = 1 := by rw [hs]; rfl
      rw [dif_pos h0] at hr
      refine ⟨v, _, hr, ?_, h3⟩
      have := h2.2 0 v rfl
      rw [Array.getD_eq_getD_getElem?, Array.getElem?_eq_getElem (by omega)] at this
      exact this
    | cons v' r' =>
      have : ¬ vals.toArray.size = 1 := by rw [hs]; simp
      rw [dif_neg this] at hr
      exact ⟨_, _, hr, .tup hs h2.2, h3⟩

end Go.Ab
