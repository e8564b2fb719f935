/-
  Models and walks beside them; plain facts on loops: a part of the frame in which a given row's proof walks the program; no condition.
-/
import Derived.Test.YtjgjdobkahdgfaaDoorAbz5
import Derived.Test.YtjgjdobkahdgfaaDoorAbz2
set_option linter.all false
namespace Go.Ab
open Go.RowKit
variable {P : Program} {tb : Tb} {S : St} {α β σ : Type}

open Classical in
noncomputable def gd (c : Prop) (m : Option α) : Option α := if c then m else none
theorem gd_some {c : Prop} {m : Option α} {r : α} (h : gd c m = some r) : c ∧ m = some r := by
  unfold gd at h; split at h
  · exact ⟨‹_›, h⟩
  · cases h
theorem gd_pos {c : Prop} {m : Option α} (h : c) : gd c m = m := if_pos h
def bd (m : Option α) (k : α → Option β) : Option β := match m with
  | some x => k x
  | none => none
theorem bd_some {m : Option α} {k : α → Option β} {r : β} (h : bd m k = some r) : ∃ x, m = some x ∧ k x = some r := by
  cases m with
  | none => cases h
  | some x => exact ⟨x, rfl, h⟩
@[simp] theorem bd_val {x : α} {k : α → Option β} : bd (some x) k = k x := rfl
theorem bd_of {m : Option α} {x : α} {k : α → Option β} (h : m = some x) : bd m k = k x := by rw [h]; rfl
theorem ite_t {b : Bool} {x y : Option α} {r : α} (h : (if b = true then x else y) = some r) (e : b = true) : x = some r := by rwa [if_pos e] at h
theorem ite_f {b : Bool} {x y : Option α} {r : α} (h : (if b = true then x else y) = some r) (e : b = false) : y = some r := by rwa [if_neg (by rw [e]; decide)] at h
open Classical in
noncomputable def gcall (c : Prop) [Inhabited α] (m : Option α) : Option α := if c then m else some default
theorem gcall_pos {c : Prop} [Inhabited α] {m : Option α} (h : c) : gcall c m = m := if_pos h
theorem gcall_neg {c : Prop} [Inhabited α] {m : Option α} (h : ¬ c) : gcall c m = some default := if_neg h
theorem gcall_some {c : Prop} [Inhabited α] {m : Option α} {x : α} (h : gcall c m = some x) (hc : c) : m = some x := by rwa [gcall, if_pos hc] at h

def lpN (step : σ → Option (σ ⊕ β)) : Nat → σ → Option β
  | 0, _ => none
  | n + 1, s => match step s with
    | none => none
    | some (.inl s') => lpN step n s'
    | some (.inr b) => some b
theorem lpN_succ {step : σ → Option (σ ⊕ β)} : ∀ {n : Nat} {s : σ} {b : β}, lpN step n s = some b → lpN step (n + 1) s = some b
  | 0, _, _, h => by cases h
  | n + 1, s, b, h => by
    unfold lpN at h ⊢
    split
    · rename_i hs; rw [hs] at h; exact h
    · rename_i s' hs; rw [hs] at h; exact lpN_succ h
    · rename_i b' hs; rw [hs] at h; exact h
theorem lpN_le {step : σ → Option (σ ⊕ β)} {n m : Nat} {s : σ} {b : β} (h : lpN step n s = some b) (hm : n ≤ m) : lpN step m s = some b := by
  induction hm with
  | refl => exact h
  | step _ ih => exact lpN_succ ih
open Classical in
/-- A loop: round by round, until one says so. -/
noncomputable def lp (step : σ → Option (σ ⊕ β)) (s : σ) : Option β := if h : ∃ b, ∃ n, lpN step n s = some b then some (Classical.choose h) else none
theorem lp_iff {step : σ → Option (σ ⊕ β)} {s : σ} {b : β} : lp step s = some b ↔ ∃ n, lpN step n s = some b := by
  unfold lp
  constructor
  · intro h
    split at h
    · rename_i hx; cases h; exact Classical.choose_spec hx
    · cases h
  · rintro ⟨n, hn⟩
    have hx : ∃ b, ∃ n, lpN step n s = some b := ⟨b, n, hn⟩
    rw [dif_pos hx]
    obtain ⟨m, hm⟩ := Classical.choose_spec hx
    have h1 := lpN_le hn (Nat.le_max_left n m)
    have h2 := lpN_le hm (Nat.le_max_right n m)
    rw [h1] at h2
    cases h2; rfl
theorem lp_done {step : σ → Option (σ ⊕ β)} {s : σ} {b : β} (h : step s = some (.inr b)) : lp step s = some b := lp_iff.2 ⟨1, by rw [lpN, h]⟩
theorem lp_more {step : σ → Option (σ ⊕ β)} {s s' : σ} (h : step s = some (.inl s')) : lp step s = lp step s' := by
  cases e : lp step s' with
  | some b => obtain ⟨n, hn⟩ := lp_iff.1 e; exact lp_iff.2 ⟨n + 1, by rw [lpN, h]; exact hn⟩
  | none =>
    cases e2 : lp step s with
    | none => rfl
    | some b =>
      obtain ⟨n, hn⟩ := lp_iff.1 e2
      cases n with
      | zero => cases hn
      | succ n =>
        rw [lpN, h] at hn
        rw [lp_iff.2 ⟨n, hn⟩] at e; cases e
/-- The walk of a loop beside its model. -/
theorem loop_m (hT : TOk P tb) {step : σ → Option (σ ⊕ β)} {s0 : σ} {x : β} {c : Code} {Q : Exit → St → Prop} (hx : lp step s0 = some x) (shape : σ → St) (h0 : LE S (shape s0))
    (round : ∀ s y, step s = some y → (∀ v, y = .inr v → v = x) → wpc P tb c (shape s) fun e S' => match e with
      | .normal => ∃ s', y = .inl s' ∧ LE S' (shape s')
      | e => Q e S') : LoopP P c S Q := by
  obtain ⟨n0, hn0⟩ := lp_iff.1 hx
  refine ⟨wp_le h0 fun B w0 F ρ a w hs => ?_⟩
  refine wp_loop_ghost (fun n a w => ∃ s ρ, lpN step n s = some x ∧ Sim P B w0 F ρ (shape s) a w) n0 ⟨s0, ρ, hn0, hs⟩ ?_
  rintro n a w ⟨s, ρ, hn, hs⟩
  cases n with
  | zero => cases hn
  | succ n =>
    cases hy : step s with
    | none => rw [lpN, hy] at hn; cases hn
    | some y =>
      refine wp_mono (wpc_sound hT c _ _ (round s y hy fun v hv => by rw [lpN, hy, hv] at hn; cases hn; rfl) B w0 F ρ a w hs) ?_
      rintro e a' w' ⟨ρ', S', h1, h2⟩
      cases e with
      | normal =>
        obtain ⟨s', rfl, hle⟩ := h2
        obtain ⟨ρ'', h3⟩ := hle.out B w0 F ρ' a' w' h1
        rw [lpN, hy] at hn
        exact ⟨n, Nat.lt_succ_self n, s', ρ'', hn, h3⟩
      | _ => exact ⟨ρ', S', h1, h2⟩

/-! ### Rows of typed lists -/
@[reducible] def encStr (s : ByteArray) : List D := [.str s]
variable [Inhabited α] {enc : α → List D}

theorem store_rows {xs : List α} {r off : Nat} {ds : List D} {e : α} (h : setAt (rows enc xs r) off ds = enc e) : ∀ i, i < xs.length → rows enc (xs.set r e) i = if i = r then setAt (rows enc xs r) off ds else rows enc xs i := by
  intro i hi
  split
  · rename_i he; subst he
    rw [h]; simp [rows, List.getD_eq_getElem?_getD, hi]
  · rename_i he
    simp [rows, List.getD_eq_getElem?_getD, Ne.symm he]
theorem store_rows' {xs : List α} {n r off : Nat} {ds : List D} {e : α} (hn : n = xs.length) (h : setAt (rows enc xs r) off ds = enc e) : ∀ i, i < n → rows enc (xs.set r e) i = if i = r then setAt (rows enc xs r) off ds else rows enc xs i := by
  subst hn; exact store_rows h
theorem set_len {xs y : List α} {r : Nat} {e : α} (h : xs.set r e = y) : y.length = xs.length := by rw [← h]; simp
theorem store_rows2 {xs y : List α} {n r off : Nat} {ds : List D} {e : α} (hy : xs.set r e = y) (hn : n = xs.length) (h : setAt (rows enc xs r) off ds = enc e) : ∀ i, i < n → rows enc y i = if i = r then setAt (rows enc xs r) off ds else rows enc xs i := by
  subst hy; exact store_rows' hn h
theorem build_rows {ys : List α} : ∀ i, i < ys.length → rows enc ys i = rowAt (ys.map enc) i := by
  intro i hi
  simp [rows, rowAt, List.getD_eq_getElem?_getD, hi]
theorem app_rows {xs ys : List α} {n m : Nat} {r r' : Nat → List D} (hn : n = xs.length) (hm : m = ys.length) (h1 : ∀ i, i < n → r i = rows enc xs i) (h2 : ∀ i, i < m → r' i = rows enc ys i) :
    ∀ i, i < (xs ++ ys).length → rows enc (xs ++ ys) i = catRow n r r' i := by
  intro i hi
  subst hn hm
  simp only [catRow, rows]
  split
  · rename_i hlt
    rw [h1 i hlt]; simp [rows, List.getD_eq_getElem?_getD, List.getElem?_append_left hlt]
  · rename_i hge
    rw [List.length_append] at hi
    rw [h2 _ (by omega)]; simp [rows, List.getD_eq_getElem?_getD, List.getElem?_append_right (Nat.le_of_not_lt hge)]
theorem app_rows0 {ys : List α} {m : Nat} {r' : Nat → List D} (hm : m = ys.length) (h2 : ∀ i, i < m → r' i = rows enc ys i) : ∀ i, i < ys.length → rows enc ys i = r' i := by
  intro i hi; subst hm; rw [h2 i hi]
theorem rows_take {xs : List α} {n : Nat} : ∀ i, i < n → rows enc xs i = rows enc (xs.take n) i := by
  intro i hi
  simp [rows, List.getD_eq_getElem?_getD, hi]
theorem rows_dt {xs : List α} {k n : Nat} : ∀ i, i < n → rows enc xs (i + k) = rows enc ((xs.take (k + n)).drop k) i := by
  intro i hi
  simp [rows, List.getD_eq_getElem?_getD, List.getElem?_drop, Nat.add_comm i k, hi]
theorem rows_vt {xs : List α} {k n : Nat} : ∀ i, i < n → viewRow k (rows enc xs) i = rows enc ((xs.take (k + n)).drop k) i := by
  intro i hi
  rw [viewRow_at, Nat.add_comm]; exact rows_dt i hi

theorem VLe.built {ys : List α} {rs : List (List D)} {n : Nat} (hn : n = ys.length) (h : rs = ys.map enc) : VLe (.d (.sl n (rowAt rs))) (.d (slD enc ys)) :=
  VLe.rows hn fun i hi => by subst hn h; exact (build_rows i hi).symm

/-! ### Calls with parts of slices -/
theorem callW {base nt : Nat} {ts : List (Nat × V)} {gs : List Gd} {bs : List (Nat × Blk)} {fs : List Fr} {f : FuncId} {args args1 args' : List V} {res : V} {nb : List Nb} {K : V → St → Prop} (k : Nat) (h : PureC P f args' res nb)
    (hv : viewL (look bs) args = some args1) (hw : CellsLe args1 args') (hm : (nb.all fun b => !(St.mentions ⟨base, nt, ts, gs, bs, fs⟩ (b.id + k))) = true) (hk : forceV (res.shift k) fun v => forceB (nb.map (Nb.ent k) ++ bs) fun bs => K v ⟨base, nt, ts, gs, bs, fs⟩) :
    CallP P f args ⟨base, nt, ts, gs, bs, fs⟩ K := callC k (h.le hw) hv hm hk
mutual
def V.plain : V → Bool
  | .d _ => true
  | .any => true
  | .rp _ => true
  | .agg vs => plainL vs
  | .tup vs => plainL vs
  | .fn _ vs => plainL vs
  | _ => false
def plainL : List V → Bool
  | [] => true
  | v :: r => v.plain && plainL r
end
mutual
theorem V.plain_ment (v : V) (id : Nat) (h : v.plain = true) : v.mentions id = false := by
  cases v with
  | agg vs => exact plainL_ment vs id h
  | tup vs => exact plainL_ment vs id h
  | fn f vs => exact plainL_ment vs id h
  | ref => cases h
  | osl => cases h
  | _ => rfl
theorem plainL_ment (vs : List V) (id : Nat) (h : plainL vs = true) : mentionsL id vs = false := by
  cases vs with
  | nil => rfl
  | cons v r =>
    simp only [plainL, Bool.and_eq_true] at h
    simp only [mentionsL, V.plain_ment v id h.1]
    exact plainL_ment r id h.2
end
theorem callG_m {S' : St} {al l : List (Nat × Bool)} {f : FuncId} {fn : Func} {args args' : List V} {res : V} {K : V → St → Prop} {key : Nat} {want : Bool} (hf : P.funcs[f]? = some fn) (hn : (fn.name == "runtime.NumGoroutine") = false) (hb : fn.body.isNone = false)
    (hv : viewL (look S'.blks) args = some args') (hfl : flatV res = true) (hm : res.plain = true) (h : condP S al l (PureC P f args' res [])) (hk : K res S') : CallG P (condP S al l) (condN S' key want) f args S' K :=
  callG_if hf hn hb hv hfl (fun id => V.plain_ment res id hm) h hk

/-! ### Blocks renamed -/
mutual
def V.ren (f : Nat → Nat) : V → V
  | .ref i r o => .ref (f i) r o
  | .osl i o l => .osl (f i) o l
  | .agg vs => .agg (renL f vs)
  | .tup vs => .tup (renL f vs)
  | .fn g vs => .fn g (renL f vs)
  | .any => .any
  | .d x => .d x
  | .rp cs => .rp cs
def renL (f : Nat → Nat) : List V → List V
  | [] => []
  | v :: r => v.ren f :: renL f r
end
theorem renL_get {f : Nat → Nat} : ∀ (vs : List V) (j : Nat), (renL f vs)[j]? = (vs[j]?).map (V.ren f)
  | [], j => by simp [renL]
  | v :: r, 0 => by simp [renL]
  | v :: r, j + 1 => by simpa [renL] using renL_get r j
theorem renL_length {f : Nat → Nat} : ∀ (vs : List V), (renL f vs).length = vs.length
  | [] => rfl
  | v :: r => by simp [renL, renL_length r]
def Blk.ren (f : Nat → Nat) : Blk → Blk
  | .box t cs => .box t (renL f cs)
  | .arr t sz n row => .arr t sz n row
def renT (f : Nat → Nat) : List (Nat × V) → List (Nat × V)
  | [] => []
  | (t, v) :: r => (t, v.ren f) :: renT f r
def renG (f : Nat → Nat) : List Gd → List Gd
  | [] => []
  | ⟨t, k, w, v⟩ :: r => ⟨t, k, w, v.ren f⟩ :: renG f r
def renB (f : Nat → Nat) : List (Nat × Blk) → List (Nat × Blk)
  | [] => []
  | (i, b) :: r => (f i, b.ren f) :: renB f r
def renF (f : Nat → Nat) : List Fr → List Fr
  | [] => []
  | ⟨ts, gs⟩ :: r => ⟨renT f ts, renG f gs⟩ :: renF f r
def St.ren (f : Nat → Nat) : St → St
  | ⟨base, nt, ts, gs, bs, fs⟩ => ⟨base, nt, renT f ts, renG f gs, renB f bs, renF f fs⟩

section
variable {w : World} {ow : Nat → Prop} {ρ ρ' : Env} {f : Nat → Nat}
theorem VR.ren {v x} (h : VR w ow ρ v x) (hr : ∀ i, ρ' (f i) = ρ i) : VR w ow ρ' (v.ren f) x := by
  induction h with
  | any => exact .any
  | d h => exact .d h
  | ref h1 h2 => rename_i id row off; rw [← hr id] at *; exact .ref h1 h2
  | osl0 h0 h1 => rename_i id off len ad; rw [← hr id] at *; exact .osl0 h0 h1
  | osl h1 h2 h3 => rename_i id off len; rw [← hr id] at *; exact .osl h1 h2 h3
  | rp vals ho hb hc hd => exact .rp vals ho hb hc hd
  | agg hs h1 hv ih =>
    refine .agg (by rw [renL_length]; exact hs) h1 fun j v hj => ?_
    rw [renL_get] at hj
    obtain ⟨v', hv', rfl⟩ := Option.map_eq_some_iff.1 hj
    exact ih j v' hv'
  | tup hs hv ih =>
    refine .tup (by rw [renL_length]; exact hs) fun j v hj => ?_
    rw [renL_get] at hj
    obtain ⟨v', hv', rfl⟩ := Option.map_eq_some_iff.1 hj
    exact ih j v' hv'
  | fn hs hv ih =>
    refine .fn (by rw [renL_length]; exact hs) fun j v hj => ?_
    rw [renL_get] at hj
    obtain ⟨v', hv', rfl⟩ := Option.map_eq_some_iff.1 hj
    exact ih j v' hv'
theorem BR.ren {id : Nat} {b : Blk} (h : BR w ow ρ id b) (hr : ∀ i, ρ' (f i) = ρ i) : BR w ow ρ' (f id) (b.ren f) := by
  cases h with
  | box C h1 h2 h3 h4 h5 h6 h7 h8 =>
    refine .box C (by rw [hr]; exact h1) (by rw [hr]; exact h2) (by rw [hr, renL_length]; exact h3) (by rw [hr]; exact h4) (by rw [hr]; exact h5) (by rw [renL_length]; exact h6) h7 fun j v hj => ?_
    rw [renL_get] at hj
    obtain ⟨v', hv', rfl⟩ := Option.map_eq_some_iff.1 hj
    exact (h8 j v' hv').ren hr
  | arr0 h1 h2 h3 h4 => exact .arr0 (by rw [hr]; exact h1) (by rw [hr]; exact h2) (by rw [hr]; exact h3) h4
  | arr C et h1 h2 h3 h4 h5 h6 h7 h8 => exact .arr C et (by rw [hr]; exact h1) (by rw [hr]; exact h2) (by rw [hr]; exact h3) (by rw [hr]; exact h4) h5 (by rw [hr]; exact h6) (by rw [hr]; exact h7) fun i j d hi hd => by rw [hr]; exact h8 i j d hi hd
theorem look_renT : ∀ {ts : List (Nat × V)} {t : Nat} {v : V}, look (renT f ts) t = some v → ∃ u, look ts t = some u ∧ v = u.ren f
  | (u, x) :: r, t, v, h => by
    rcases look_cons h with ⟨rfl, rfl⟩ | ⟨hn, h⟩
    · exact ⟨x, look_same, rfl⟩
    · obtain ⟨y, h1, h2⟩ := look_renT h
      exact ⟨y, by rw [look_other hn]; exact h1, h2⟩
  | [], _, _, h => by simp [renT, look] at h
theorem mem_renG : ∀ {gs : List Gd} {g : Gd}, g ∈ renG f gs → ∃ g0 ∈ gs, g = ⟨g0.t, g0.key, g0.want, g0.v.ren f⟩
  | ⟨t, k, w, v⟩ :: r, g, h => by
    rcases List.mem_cons.1 h with h | h
    · exact ⟨⟨t, k, w, v⟩, by simp, h⟩
    · obtain ⟨g0, h1, h2⟩ := mem_renG h; exact ⟨g0, by simp [h1], h2⟩
  | [], _, h => by simp [renG] at h
theorem look_renB (hinj : ∀ i j, f i = f j → i = j) : ∀ {bs : List (Nat × Blk)} {j : Nat} {b : Blk}, look (renB f bs) j = some b → ∃ i c, j = f i ∧ look bs i = some c ∧ b = c.ren f
  | (u, x) :: r, j, b, h => by
    rcases look_cons h with ⟨rfl, rfl⟩ | ⟨hn, h⟩
    · exact ⟨u, x, rfl, look_same, rfl⟩
    · obtain ⟨i, c, rfl, h1, h2⟩ := look_renB hinj h
      exact ⟨i, c, rfl, by rw [look_other fun e => hn (by rw [e])]; exact h1, h2⟩
  | [], _, _, h => by simp [renB, look] at h
theorem renF_get : ∀ {fs : List Fr} {i : Nat} {fr : Fr}, (renF f fs)[i]? = some fr → ∃ fr0, fs[i]? = some fr0 ∧ fr = ⟨renT f fr0.tmps, renG f fr0.gds⟩
  | ⟨ts, gs⟩ :: r, 0, fr, h => by simp [renF] at h; exact ⟨_, rfl, h.symm⟩
  | ⟨ts, gs⟩ :: r, i + 1, fr, h => by obtain ⟨fr0, h1, h2⟩ := renF_get (fs := r) (i := i) (by simpa [renF] using h); exact ⟨fr0, by simpa using h1, h2⟩
  | [], _, _, h => by simp [renF] at h
theorem renF_length : ∀ {fs : List Fr}, (renF f fs).length = fs.length
  | [] => rfl
  | ⟨_, _⟩ :: r => by simp [renF, renF_length (fs := r)]
theorem FrR.ren {fr : Fr} {tm : Array Value} (h : FrR w ow ρ fr tm) (hr : ∀ i, ρ' (f i) = ρ i) : FrR w ow ρ' ⟨renT f fr.tmps, renG f fr.gds⟩ tm := by
  refine ⟨fun t v hv => ?_, fun g hg => ?_⟩
  · obtain ⟨u, h1, rfl⟩ := look_renT hv
    exact (h.tmps t u h1).ren hr
  · obtain ⟨g0, h1, rfl⟩ := mem_renG hg
    rcases (h.gds g0 h1).h with h2 | h2
    · exact ⟨.inl ⟨h2.1, h2.2.ren hr⟩⟩
    · exact ⟨.inr h2⟩
end

theorem le_ren (f : Nat → Nat) (g : Nat → Nat) (hgf : ∀ i, g (f i) = i) (S : St) : LE S (S.ren f) := by
  refine ⟨fun B w0 F ρ a w h => ?_⟩
  obtain ⟨ρ', hr'⟩ : ∃ ρ' : Env, ∀ i, ρ' i = ρ (g i) := ⟨fun i => ρ (g i), fun _ => rfl⟩
  refine ⟨ρ', ?_⟩
  have hinj : ∀ i j, f i = f j → i = j := fun i j e => by rw [← hgf i, e, hgf]
  have hr : ∀ i, ρ' (f i) = ρ i := fun i => by rw [hr', hgf]
  obtain ⟨base, nt, ts, gs, bs, fs⟩ := S
  have hown : ∀ b, own (renB f bs) ρ' b → own bs ρ b := by
    rintro b ⟨i, k, hk, hp, rfl⟩
    obtain ⟨i0, c, rfl, h1, h2⟩ := look_renB hinj hk
    rw [hr] at hp ⊢
    exact ⟨i0, c, h1, hp, rfl⟩
  have keep : Keep w (ownZ B bs ρ) w (ownZ B (renB f bs) ρ') := ⟨Nat.le_refl _, fun b _ ho => ⟨rfl, fun h => ho (h.imp (hown b) fun h => h)⟩⟩
  refine ⟨h.below, h.tab, h.hB, h.defers, h.nt, ?_, ?_, ?_, ?_, ⟨?_, ?_⟩⟩
  · exact (h.top.ren (f := f) (ρ' := ρ') hr).keep keep fun _ _ => rfl
  · intro id b hb
    obtain ⟨i0, c, rfl, h1, rfl⟩ := look_renB hinj hb
    exact ((h.blks i0 c h1).ren (f := f) (ρ' := ρ') hr).keep keep rfl (fun _ => rfl) fun _ _ => rfl
  · intro i j x y hx hy hp hq he
    obtain ⟨i0, c, rfl, h1, _⟩ := look_renB hinj hx
    obtain ⟨j0, d, rfl, h2, _⟩ := look_renB hinj hy
    rw [hr] at hp hq he
    rw [hr] at he
    rw [h.sep i0 j0 c d h1 h2 hp hq he]
  · intro i x hx hp
    obtain ⟨i0, c, rfl, h1, _⟩ := look_renB hinj hx
    rw [hr] at hp ⊢
    exact h.ge i0 c h1 hp
  · dsimp only [St.ren]; rw [renF_length]; exact h.frames.1
  · intro i fr tm hf htm
    obtain ⟨fr0, h1, rfl⟩ := renF_get hf
    exact ((h.frames.2 i fr0 tm h1 htm).ren (f := f) (ρ' := ρ') hr).keep keep fun _ _ => rfl

mutual
def V.inIds (ids : List Nat) : V → Bool
  | .ref i _ _ => memN ids i
  | .osl i _ _ => memN ids i
  | .agg vs => inIdsL ids vs
  | .tup vs => inIdsL ids vs
  | .fn _ vs => inIdsL ids vs
  | _ => true
def inIdsL (ids : List Nat) : List V → Bool
  | [] => true
  | v :: r => v.inIds ids && inIdsL ids r
end
mutual
theorem V.inIds_ok (ids : List Nat) (v : V) (id : Nat) (h : v.inIds ids = true) (hm : v.mentions id = true) : id ∈ ids := by
  cases v with
  | agg vs => exact inIdsL_ok ids vs id h hm
  | tup vs => exact inIdsL_ok ids vs id h hm
  | fn f vs => exact inIdsL_ok ids vs id h hm
  | ref i r o => rw [← Nat.eq_of_beq_eq_true hm]; exact memN_iff.1 h
  | osl i r o => rw [← Nat.eq_of_beq_eq_true hm]; exact memN_iff.1 h
  | any => cases hm
  | d => cases hm
  | rp => cases hm
theorem inIdsL_ok (ids : List Nat) (vs : List V) (id : Nat) (h : inIdsL ids vs = true) (hm : mentionsL id vs = true) : id ∈ ids := by
  cases vs with
  | nil => cases hm
  | cons v r =>
    simp only [inIdsL, Bool.and_eq_true] at h
    simp only [mentionsL] at hm
    split at hm
    · rename_i hv; exact V.inIds_ok ids v id h.1 hv
    · exact inIdsL_ok ids r id h.2 hm
end
theorem ids_of {res : V} {nb : List Nb} (h : res.inIds (nb.map (·.id)) = true) : ∀ id, res.mentions id = true → ∃ b ∈ nb, b.id = id := fun id hm => by
  obtain ⟨b, hb, e⟩ := List.mem_map.1 (V.inIds_ok _ res id h hm)
  exact ⟨b, hb, e⟩

/-! ### A function's end -/
end Go.Ab
namespace Go.Ab
open Go.RowKit
variable {P : Program} {tb : Tb} {w : World} {ρ : Env} {a : Act} {B : Bd} {w0 : World} {F : List (Array Value)} {S : St}

theorem append_osl (hT : TOk P tb) (h : Sim P B w0 F ρ S a w) {t t' ty e e' sz byt by' by2 s' s2 : Nat} {kk : TK} {zz z' z2 : List D} {qq q q2 : Bool} (hti : tb.find t = some ⟨.slice e, s', by', z', q⟩) (hti' : tb.find t' = some ⟨.slice e', s2, by2, z2, q2⟩) (hte : tb.find e = some ⟨kk, sz, byt, zz, qq⟩)
    {xv : V} {vs vx : Value} {id off len n m : Nat} {r r' rw1 : Nat → List D} (hs : VR w (ownZ B S.blks ρ) ρ (.osl id off len) vs) (hx : VR w (ownZ B S.blks ρ) ρ xv vx) (hcs : contents (look S.blks) sz (.osl id off len) = some (n, r)) (hcx : contents (look S.blks) sz xv = some (m, r'))
    (hb : (n + m) * (byt + 1) ≤ 70368744177664) (hrw1 : ∀ i, i < n + m → rw1 i = catRow n r r' i) {S1 : St} {nid : Nat} (hk : SimO P (ownZ B S.blks ρ) B w0 F ρ S1 a w) (hkm : S1.mentions nid = false) (hsub : ∀ b, ownZ B S1.blks ρ b → ownZ B S.blks ρ b)
    (hno : ∀ t0 n0 row0, look S.blks id = some (.arr t0 sz n0 row0) → (ρ id).ph = false → ¬ own S1.blks ρ (ρ id).b) :
    ∃ v w' ρ', (Builtin.append_ #[t, t'] ty #[vs, vx]).run P w = .ok v w' ∧ Sim P B w0 F ρ' ⟨S1.base, S1.nt, S1.tmps, S1.gds, (nid, .arr e sz (n + m) rw1) :: S1.blks, S1.frames⟩ a w' ∧ VR w' (ownZ B ((nid, .arr e sz (n + m) rw1) :: S1.blks) ρ') ρ' (.osl nid 0 (n + m)) v := by
  have hu := kind_slice (hT.ok _ _ hti) rfl
  have hu' := kind_slice (hT.ok _ _ hti') rfl
  have hteok := hT.ok _ _ hte
  have hS := contents_sound (P := P) (w := w) (ow := ownZ B S.blks ρ) (ρ := ρ) h.blks hs hcs
  have hX := contents_sound (P := P) (w := w) (ow := ownZ B S.blks ρ) (ρ := ρ) h.blks hx hcx
  obtain ⟨adx, cx, hxv⟩ := hX.hdr
  obtain ⟨ad, cap, h1, h2, h3⟩ := hs.osl_inv
  have hn : n = len := by
    obtain ⟨ad', c', h4⟩ := hS.hdr
    rw [h1] at h4; cases h4; rfl
  subst hn
  rcases Nat.lt_or_ge cap (n + m) with hgrow | hroom
  · obtain ⟨nc, C, g1, g2, g3, g4⟩ := append_grow_run (P := P) (ty := ty) hu hu' hteok h1 hS hX hgrow hb
    have hsn := sim_newRow (w := w) hk hkm (fun _ h => hsub _ h) (fun _ ho => own_lt' h ho) (n := n + m) (sz := sz) (cap := nc) (row := rw1) (C := C) (e := e) (.inr rfl) (by rw [g2]; exact Nat.le_refl _) g3 fun q hq => by rw [hrw1 q hq]; exact g4 q hq
    exact ⟨_, _, _, g1, hsn.1, hsn.2⟩
  · rcases h3 with ⟨h3, h4⟩ | ⟨h3, h4, h5, h6⟩
    · have hm0 : m = 0 := by omega
      subst hm0 h3 h4
      obtain ⟨f, f1, _, _⟩ := hX.cells
      have hf := f1 w rfl
      have g1 := append_none_run (P := P) (w := w) (ty := ty) hu hu' hteok hxv (by simpa [flat] using hf) (base := ad) (cap := 0)
      have hsn := sim_emptyRow (w := w) hk hkm (fun _ h => hsub _ h) (sz := sz) (row := rw1) (e := e) ad
      exact ⟨_, _, _, by rw [h1]; exact g1, hsn.1, hsn.2⟩
    · obtain ⟨t0, n0, row0, hlk⟩ : ∃ t0 n0 row0, look S.blks id = some (.arr t0 sz n0 row0) := by
        simp only [contents] at hcs
        split at hcs
        · rename_i t1 s1 n1 row1 hlk
          split at hcs
          · rename_i hbq
            exact ⟨t1, n1, row1, by rw [← Nat.eq_of_beq_eq_true hbq]; exact hlk⟩
          · cases hcs
        · cases hcs
      cases h.blks id _ hlk with
      | arr0 g => rw [g] at h3; cases h3
      | arr C et0 g1 g2 g3 g4 g5 g6 g7 g8 =>
      obtain ⟨f, f1, f2, f3⟩ := hX.cells
      have hge := h.ge id _ hlk h3
      have hmul : (off + (n + m)) * sz ≤ (ρ id).cap * sz := Nat.mul_le_mul_right _ (by omega)
      rw [Nat.add_mul, Nat.add_mul] at hmul
      subst h5
      rw [g2] at h1
      have hrm := append_room_run (P := P) (w := w) (ty := ty) (te := ⟨kk, sz, byt, zz, qq⟩) hu hu' hteok (n := n) (cap := cap) hxv g6 (o := (ρ id).o + off * sz) (news := flat m sz f) (f1 w rfl)
        (fun u hu => by
          obtain ⟨j, hj, rfl⟩ := List.mem_iff_getElem.1 hu
          rw [flat_length] at hj
          have hsz : 0 < sz := by
            rcases Nat.eq_zero_or_pos sz with h | h
            · rw [h, Nat.mul_zero] at hj; omega
            · exact h
          have hi : j / sz < m := Nat.div_lt_of_lt_mul (by rw [Nat.mul_comm]; exact hj)
          have hj2 : j % sz < sz := Nat.mod_lt _ hsz
          have e0 := flat_get (f := f) hi hj2
          rw [Nat.div_add_mod' j sz] at e0
          rw [(List.getElem?_eq_some_iff.1 e0).2]
          exact f3 _ _ hi hj2) hroom (by rw [flat_length]; dsimp only; omega)
      dsimp only at hrm
      have hfit : (ρ id).o + off * sz + n * sz + (flat m sz f).length ≤ C.toList.length := by rw [flat_length]; simp; omega
      have hnown : ¬ own S1.blks ρ (ρ id).b := hno _ _ _ hlk h3
      have hsn := sim_new (loc := ⟨(ρ id).b, (ρ id).o + off * sz, sz, n + m, cap, false⟩) (blk := .arr e sz (n + m) rw1)
        (w' := w.setRow (ρ id).b (C.toList.take ((ρ id).o + off * sz + n * sz) ++ flat m sz f ++ C.toList.drop ((ρ id).o + off * sz + n * sz + (flat m sz f).length)).toArray) hk hkm (fun _ h => hsub _ h) (by simp)
        (fun b hb0 hb1 => setRow_other w _ b _ fun e => by
          subst e
          rcases hb1 with hb1 | hb1
          · exact hb1 (.inl ⟨id, _, hlk, h3, rfl⟩)
          · exact hnown hb1)
        (fun b hb0 => setRow_other w _ b _ (fun e => hge (e ▸ hb0))) (fun _ => .inr ⟨.inl ⟨id, _, hlk, h3, rfl⟩, hnown⟩) (fun _ => hge) rfl rfl rfl fun keep => by
          have hsz' := splice_size C.toList (flat m sz f) ((ρ id).o + off * sz + n * sz) hfit
          refine .arr _ et0 (by simp [Env.set]) (by simp [Env.set]) (by simp [Env.set]) (by simpa [Env.set] using hroom) (fun i hi => ?_) (by simp only [Env.set, if_true]; exact setRow_heap w _ C _ et0 _ g6) ?_ fun i j d hi hd => ?_
          · rw [hrw1 i hi]
            simp only [catRow]
            by_cases hin : i < n
            · rw [if_pos hin]; exact hS.rows i hin
            · rw [if_neg hin]; exact hX.rows _ (by omega)
          · rw [hsz']
            simp only [Env.set, if_true]
            have : off * sz + cap * sz = (ρ id).cap * sz := by rw [← Nat.add_mul]; congr 1; omega
            simp; omega
          · rw [splice_get _ _ _ _ hfit]
            have hfl : (flat m sz f).length = m * sz := flat_length
            simp only [Env.set, if_true]
            rw [hrw1 i hi] at hd
            simp only [catRow] at hd
            by_cases hin : i < n
            · rw [if_pos hin] at hd
              have hj : j < sz := by have := (List.getElem?_eq_some_iff.1 hd).1; have := hS.rows i hin; omega
              have hm3 : (i + 1) * sz ≤ n * sz := Nat.mul_le_mul_right _ (by omega)
              rw [Nat.add_mul] at hm3
              rw [if_neg (by omega)]
              obtain ⟨f0, _, h02, _⟩ := hS.cells
              have hrow : ∃ row0, r = viewRow off row0 ∧ look S.blks id = some (.arr t0 sz n0 row0) := by
                simp only [contents, hlk] at hcs
                split at hcs
                · simp only [Option.some.injEq, Prod.mk.injEq] at hcs
                  exact ⟨_, hcs.2.symm, hlk⟩
                · cases hcs
              obtain ⟨row1, hr1, hr2⟩ := hrow
              rw [hlk] at hr2
              cases hr2
              have hview : viewRow off row0 i = row0 (off + i) := by cases off <;> simp [viewRow]
              rw [hr1, hview] at hd
              have := (g8 (off + i) j d (by omega) hd).keep keep
              rw [show (ρ id).o + off * sz + i * sz + j = (ρ id).o + (off + i) * sz + j by rw [Nat.add_mul]; omega]
              simpa using this
            · rw [if_neg hin] at hd
              have hj : j < sz := by have := (List.getElem?_eq_some_iff.1 hd).1; have := hX.rows (i - n) (by omega); omega
              have hm3 : n * sz ≤ i * sz := Nat.mul_le_mul_right _ (by omega)
              have hm4 : (i + 1) * sz ≤ (n + m) * sz := Nat.mul_le_mul_right _ (by omega)
              rw [Nat.add_mul, Nat.add_mul] at hm4
              rw [if_pos (by omega)]
              have e4 : (ρ id).o + off * sz + i * sz + j - ((ρ id).o + off * sz + n * sz) = (i - n) * sz + j := by rw [Nat.sub_mul]; omega
              rw [e4, List.getD_eq_getElem?_getD, flat_get (n := m) (by omega) hj]
              exact (f2 (i - n) j d (by omega) hd).keep keep
      refine ⟨_, _, _, by rw [h1]; exact hrm, hsn, ?_⟩
      have e1 : (Value.slice (some ⟨(ρ id).b, (ρ id).o + off * sz, none⟩) (n + m) cap) = .slice (some ⟨((ρ.set nid ⟨(ρ id).b, (ρ id).o + off * sz, sz, n + m, cap, false⟩) nid).b, ((ρ.set nid ⟨(ρ id).b, (ρ id).o + off * sz, sz, n + m, cap, false⟩) nid).o + 0 * ((ρ.set nid ⟨(ρ id).b, (ρ id).o + off * sz, sz, n + m, cap, false⟩) nid).sz, none⟩) (n + m) (((ρ.set nid ⟨(ρ id).b, (ρ id).o + off * sz, sz, n + m, cap, false⟩) nid).cap - 0) := by
        simp [Env.set]
      rw [e1]
      exact .osl (by simp [Env.set]) (by simp [Env.set]) (by simpa [Env.set] using hroom)

end Go.Ab
namespace Go.Ab
open Go.RowKit
variable {P : Program} {tb : Tb} {w : World} {ow : Nat → Prop} {ρ : Env} {a : Act} {B : Bd} {w0 : World} {F : List (Array Value)} {S : St}

/-- Is the number a block's? -/
def hasB (bs : List (Nat × Blk)) (i : Nat) : Bool := match look bs i with
  | some _ => true
  | none => false
mutual
def V.within (p : Nat → Bool) : V → Bool
  | .ref i _ _ => p i
  | .osl i _ _ => p i
  | .agg vs => withinL p vs
  | .tup vs => withinL p vs
  | .fn _ vs => withinL p vs
  | _ => true
def withinL (p : Nat → Bool) : List V → Bool
  | [] => true
  | v :: r => match v.within p with
    | true => withinL p r
    | false => false
end
def Blk.within (p : Nat → Bool) : Blk → Bool
  | .box _ cs => withinL p cs
  | .arr .. => true
def withinB (p : Nat → Bool) : List (Nat × Blk) → Bool
  | [] => true
  | (_, b) :: r => match b.within p with
    | true => withinB p r
    | false => false

theorem eq_of_beq' {i j : Nat} (h : Nat.beq i j = true) : i = j := Nat.eq_of_beq_eq_true h
mutual
theorem V.within_of {p : Nat → Bool} {id : Nat} (v : V) (h : v.within p = true) (hm : v.mentions id = true) : p id = true := by
  cases v with
  | ref i _ _ => simp only [V.mentions] at hm; rw [← eq_of_beq' hm]; exact h
  | osl i _ _ => simp only [V.mentions] at hm; rw [← eq_of_beq' hm]; exact h
  | agg vs => exact withinL_of vs h hm
  | tup vs => exact withinL_of vs h hm
  | fn f vs => exact withinL_of vs h hm
  | _ => simp [V.mentions] at hm
theorem withinL_of {p : Nat → Bool} {id : Nat} (vs : List V) (h : withinL p vs = true) (hm : mentionsL id vs = true) : p id = true := by
  cases vs with
  | nil => simp [mentionsL] at hm
  | cons v r =>
    simp only [withinL] at h
    split at h
    · rename_i h1
      simp only [mentionsL] at hm
      cases h2 : v.mentions id
      · rw [h2] at hm; exact withinL_of r h hm
      · exact V.within_of v h1 h2
    · cases h
end
theorem Blk.within_of {p : Nat → Bool} {id : Nat} {b : Blk} (h : b.within p = true) (hm : b.mentions id = true) : p id = true := by
  cases b with
  | box t cs => exact withinL_of cs h hm
  | arr => simp [Blk.mentions] at hm
theorem withinB_of {p : Nat → Bool} : ∀ {bs : List (Nat × Blk)} {i : Nat} {b : Blk}, withinB p bs = true → look bs i = some b → b.within p = true
  | (j, x) :: r, i, b, h, hl => by
    simp only [withinB] at h
    split at h
    · rename_i h1
      rcases look_cons hl with ⟨_, rfl⟩ | ⟨_, hl⟩
      · exact h1
      · exact withinB_of h hl
    · cases h
  | [], _, _, _, hl => by simp [look] at hl
theorem hasB_of {bs : List (Nat × Blk)} {i : Nat} (h : hasB bs i = true) : ∃ b, look bs i = some b := by
  unfold hasB at h; split at h
  · exact ⟨_, ‹_›⟩
  · cases h
theorem hasB_look {bs : List (Nat × Blk)} {i : Nat} {b : Blk} (h : look bs i = some b) : hasB bs i = true := by simp [hasB, h]

/-- The same place; or no place at all, before and behind. -/
def Agr (l l' : Loc) : Prop := l' = l ∨ (l.n = 0 ∧ l'.n = 0 ∧ (l.ph = true ∨ l.cap = 0))
theorem VR.agr {v : V} {x : Value} {ρ' : Env} (h : VR w ow ρ v x) (hr : ∀ i, v.mentions i = true → Agr (ρ i) (ρ' i)) : VR w ow ρ' v x := by
  induction h with
  | any => exact .any
  | d h => exact .d h
  | ref h1 h2 =>
    rename_i id row off
    rcases hr id (by simp [V.mentions]) with e | ⟨e, _⟩
    · rw [← e] at h1 h2 ⊢; exact .ref h1 h2
    · omega
  | osl0 h0 h1 =>
    rename_i id off len ad
    rcases hr id (by simp [V.mentions]) with e | ⟨e, _⟩
    · rw [← e] at h1; exact .osl0 h0 h1
    · exact .osl0 h0 (by omega)
  | osl h1 h2 h3 =>
    rename_i id off len
    rcases hr id (by simp [V.mentions]) with e | ⟨e, e1, e2⟩
    · rw [← e] at h1 h2 h3 ⊢; exact .osl h1 h2 h3
    · have hl : len = 0 := by omega
      have ho : off = 0 := by omega
      subst hl ho
      have hc : (ρ id).cap = 0 := e2.elim (fun h => by rw [h1] at h; cases h) fun h => h
      rw [hc]
      exact .osl0 rfl (Nat.zero_le _)
  | rp vals ho hb hc hd => exact .rp vals ho hb hc hd
  | agg hs h1 hv ih => exact .agg hs h1 fun j v hj => ih j v hj fun id hm => hr id (by simpa [V.mentions] using mentionsL_of hj hm)
  | tup hs hv ih => exact .tup hs fun j v hj => ih j v hj fun id hm => hr id (by simpa [V.mentions] using mentionsL_of hj hm)
  | fn hs hv ih => exact .fn hs fun j v hj => ih j v hj fun id hm => hr id (by simpa [V.mentions] using mentionsL_of hj hm)
theorem BR.agr {i : Nat} {b : Blk} {ρ' : Env} (h : BR w ow ρ i b) (hi : ρ' i = ρ i) (hr : ∀ i, b.mentions i = true → Agr (ρ i) (ρ' i)) : BR w ow ρ' i b := by
  cases h with
  | box C h1 h2 h3 h4 h5 h6 h7 h8 =>
    exact .box C (by rw [hi]; exact h1) (by rw [hi]; exact h2) (by rw [hi]; exact h3) (by rw [hi]; exact h4) (by rw [hi]; exact h5) h6 h7 fun j v hj => (h8 j v hj).agr fun i hm => hr i (by simpa [Blk.mentions] using mentionsL_of hj hm)
  | arr0 h1 h2 h3 h4 => exact .arr0 (by rw [hi]; exact h1) (by rw [hi]; exact h2) (by rw [hi]; exact h3) h4
  | arr C et h1 h2 h3 h4 h5 h6 h7 h8 => exact .arr C et (by rw [hi]; exact h1) (by rw [hi]; exact h2) (by rw [hi]; exact h3) (by rw [hi]; exact h4) h5 (by rw [hi]; exact h6) (by rw [hi]; exact h7) fun i j d hi' hd => by rw [hi]; exact h8 i j d hi' hd
theorem FrR.agr {f : Fr} {tm : Array Value} {ρ' : Env} (h : FrR w ow ρ f tm) (hr : ∀ i, (mentionsT i f.tmps = true ∨ mentionsG i f.gds = true) → Agr (ρ i) (ρ' i)) : FrR w ow ρ' f tm := by
  refine ⟨fun t v hv => (h.tmps t v hv).agr fun i hm => hr i (.inl (mentionsT_of hv hm)), fun g hg => ?_⟩
  rcases (h.gds g hg).h with h1 | h1
  · exact ⟨.inl ⟨h1.1, h1.2.agr fun i hm => hr i (.inr (mentionsG_of hg hm))⟩⟩
  · exact ⟨.inr h1⟩

/-- A CONTRACT WITH EFFECTS: the call is handed the blocks 'bs', and leaves 'bs'': what is in both stands where it stood. -/
structure EffC (P : Program) (f : FuncId) (args : List V) (bs : List (Nat × Blk)) (res : V) (bs' : List (Nat × Blk)) : Prop where
  can : Callable P f
  shut : res.within (hasB bs') = true
  shutB : withinB (hasB bs') bs' = true
  out : ∀ (Z : Nat → Prop) w vals ρ0, ArgsR w (fun x => own bs ρ0 x ∨ Z x) ρ0 args vals → (∀ i b, look bs i = some b → BR w (fun x => own bs ρ0 x ∨ Z x) ρ0 i b) →
    (∀ i j x y, look bs i = some x → look bs j = some y → (ρ0 i).ph = false → (ρ0 j).ph = false → (ρ0 i).b = (ρ0 j).b → i = j) →
    (∀ i x, look bs i = some x → (ρ0 i).ph = false → ¬ Z (ρ0 i).b) → (∀ b, Z b → b < w.heap.size) → TabB P (fun b => b < w.heap.size ∧ ¬ own bs ρ0 b) w →
    Calls P f vals w fun e w' => ∃ v ρ, e = .returned v ∧ Kept (fun b => b < w.heap.size ∧ ¬ own bs ρ0 b) w w' ∧ (∀ i x y, look bs i = some x → look bs' i = some y → Agr (ρ0 i) (ρ i)) ∧
      VR w' (fun x => own bs' ρ x ∨ Z x) ρ res v ∧ (∀ i b, look bs' i = some b → BR w' (fun x => own bs' ρ x ∨ Z x) ρ i b) ∧
      (∀ i j x y, look bs' i = some x → look bs' j = some y → (ρ i).ph = false → (ρ j).ph = false → (ρ i).b = (ρ j).b → i = j) ∧
      (∀ i x, look bs' i = some x → (ρ i).ph = false → w.heap.size ≤ (ρ i).b ∨ own bs ρ0 (ρ i).b)

/-! ### The caller's side -/
theorem VR.mono {v : V} {x : Value} {ow' : Nat → Prop} (h : VR w ow ρ v x) (hs : ∀ b, ow' b → ow b) : VR w ow' ρ v x :=
  h.keep ⟨Nat.le_refl _, fun b _ ho => ⟨rfl, fun h => ho (hs b h)⟩⟩ fun _ _ => rfl
theorem BR.mono {i : Nat} {b : Blk} {ow' : Nat → Prop} (h : BR w ow ρ i b) (hs : ∀ b, ow' b → ow b) : BR w ow' ρ i b :=
  h.keep ⟨Nat.le_refl _, fun b _ ho => ⟨rfl, fun h => ho (hs b h)⟩⟩ rfl (fun _ => rfl) fun _ _ => rfl
theorem VR.env {v : V} {x : Value} {ρ' : Env} (h : VR w ow ρ v x) (hr : ∀ i, v.mentions i = true → ρ' i = ρ i) : VR w ow ρ' v x :=
  h.keep ⟨Nat.le_refl _, fun _ _ ho => ⟨rfl, ho⟩⟩ hr
theorem BR.env {i : Nat} {b : Blk} {ρ' : Env} (h : BR w ow ρ i b) (hi : ρ' i = ρ i) (hr : ∀ i, b.mentions i = true → ρ' i = ρ i) : BR w ow ρ' i b :=
  h.keep ⟨Nat.le_refl _, fun _ _ ho => ⟨rfl, ho⟩⟩ hi (fun _ => rfl) hr

theorem VR.unren {f : Nat → Nat} {u : V} {x : Value} (h : VR w ow ρ u x) : ∀ v : V, u = v.ren f → VR w ow (fun i => ρ (f i)) v x := by
  induction h with
  | any => intro v hv; cases v <;> simp only [V.ren] at hv <;> first | exact .any | cases hv
  | d h => intro v hv; cases v <;> simp only [V.ren] at hv <;> first | (cases hv; exact .d h) | cases hv
  | ref h1 h2 => intro v hv; cases v <;> simp only [V.ren] at hv <;> first | (cases hv; exact .ref (ρ := fun i => ρ (f i)) h1 h2) | cases hv
  | osl0 h0 h1 => intro v hv; cases v <;> simp only [V.ren] at hv <;> first | (cases hv; exact .osl0 (ρ := fun i => ρ (f i)) h0 h1) | cases hv
  | osl h1 h2 h3 => intro v hv; cases v <;> simp only [V.ren] at hv <;> first | (cases hv; exact .osl (ρ := fun i => ρ (f i)) h1 h2 h3) | cases hv
  | rp vals ho hb hc hd => intro v hv; cases v <;> simp only [V.ren] at hv <;> first | (cases hv; exact .rp vals ho hb hc hd) | cases hv
  | agg hs h1 hv ih =>
    intro v hv'; cases v <;> simp only [V.ren] at hv' <;> try cases hv'
    rename_i vs
    refine .agg (by rw [renL_length] at hs; exact hs) h1 fun j v hj => ih j (v.ren f) (by rw [renL_get, hj]; rfl) v rfl
  | tup hs hv ih =>
    intro v hv'; cases v <;> simp only [V.ren] at hv' <;> try cases hv'
    rename_i vs
    refine .tup (by rw [renL_length] at hs; exact hs) fun j v hj => ih j (v.ren f) (by rw [renL_get, hj]; rfl) v rfl
  | fn hs hv ih =>
    intro v hv'; cases v <;> simp only [V.ren] at hv' <;> try cases hv'
    rename_i g vs
    refine .fn (by rw [renL_length] at hs; exact hs) fun j v hj => ih j (v.ren f) (by rw [renL_get, hj]; rfl) v rfl
theorem BR.unren {f : Nat → Nat} {i : Nat} {b : Blk} (h : BR w ow ρ (f i) (b.ren f)) : BR w ow (fun i => ρ (f i)) i b := by
  cases b with
  | box t cs =>
    cases h with | box C h1 h2 h3 h4 h5 h6 h7 h8 =>
    rw [renL_length] at h3 h6
    exact .box C h1 h2 h3 h4 h5 h6 h7 fun j v hj => (h8 j (v.ren f) (by rw [renL_get, hj]; rfl)).unren v rfl
  | arr t sz n row =>
    cases h with
    | arr0 h1 h2 h3 h4 => exact .arr0 h1 h2 h3 h4
    | arr C et h1 h2 h3 h4 h5 h6 h7 h8 => exact .arr C et h1 h2 h3 h4 h5 h6 h7 h8

/-- The caller's numbers: what it hands over by the list, what is new behind 'k'. -/
def renN (r : List (Nat × Nat)) (k i : Nat) : Nat := match look r i with
  | some j => j
  | none => i + k
theorem look_delB {j : Nat} : ∀ {bs : List (Nat × Blk)} {i : Nat} {b : Blk}, look (delB bs j) i = some b → i ≠ j ∧ look bs i = some b
  | (u, x) :: r, i, b, h => by
    simp only [delB] at h
    split at h
    · rename_i hb
      have := Nat.eq_of_beq_eq_true hb; subst this
      obtain ⟨h1, h2⟩ := look_delB h
      exact ⟨h1, by rw [look_other (Ne.symm h1)]; exact h2⟩
    · rename_i hb
      rcases look_cons h with ⟨rfl, rfl⟩ | ⟨hn, h⟩
      · exact ⟨fun e => by subst e; simp at hb, look_same⟩
      · obtain ⟨h1, h2⟩ := look_delB h
        exact ⟨h1, by rw [look_other hn]; exact h2⟩
  | [], _, _, h => by simp [delB, look] at h

/-- The blocks behind the call: those handed over are turned or gone .. -/
def effB (f : Nat → Nat) (M : List (Nat × Blk)) (S : List (Nat × Blk)) : List (Nat × Blk) → List (Nat × Blk)
  | [] => S
  | (j, _) :: r => match look M j with
    | some b => updB (effB f M S r) (f j) (b.ren f)
    | none => delB (effB f M S r) (f j)
/-- .. and those that are new stand ahead. -/
def newB (f : Nat → Nat) (bs M : List (Nat × Blk)) (S : List (Nat × Blk)) : List (Nat × Blk) → List (Nat × Blk)
  | [] => S
  | (j, _) :: r => match look bs j with
    | some _ => newB f bs M S r
    | none => match look M j with
      | some b => (f j, b.ren f) :: newB f bs M S r
      | none => newB f bs M S r

theorem look_effB {f : Nat → Nat} {M S : List (Nat × Blk)} : ∀ {bs : List (Nat × Blk)} {i : Nat} {b : Blk}, look (effB f M S bs) i = some b →
    (∃ j b', look M j = some b' ∧ i = f j ∧ b = b'.ren f) ∨ (look S i = some b ∧ ∀ j x, (j, x) ∈ bs → i ≠ f j)
  | [], i, b, h => .inr ⟨h, fun _ _ hm => by simp at hm⟩
  | (j, x) :: r, i, b, h => by
    simp only [effB] at h
    split at h
    · rename_i b' hb'
      rcases look_updB h with ⟨h1, h2, _⟩ | ⟨h1, h2⟩
      · exact .inl ⟨j, b', hb', h1, h2⟩
      · rcases look_effB h2 with h3 | ⟨h3, h4⟩
        · exact .inl h3
        · refine .inr ⟨h3, fun j' x' hm => ?_⟩
          rcases List.mem_cons.1 hm with e | hm
          · cases e; exact h1
          · exact h4 j' x' hm
    · obtain ⟨h1, h2⟩ := look_delB h
      rcases look_effB h2 with h3 | ⟨h3, h4⟩
      · exact .inl h3
      · refine .inr ⟨h3, fun j' x' hm => ?_⟩
        rcases List.mem_cons.1 hm with e | hm
        · cases e; exact h1
        · exact h4 j' x' hm
theorem look_newB {f : Nat → Nat} {bs M S : List (Nat × Blk)} : ∀ {l : List (Nat × Blk)} {i : Nat} {b : Blk}, look (newB f bs M S l) i = some b →
    (∃ j b', look M j = some b' ∧ i = f j ∧ b = b'.ren f) ∨ look S i = some b
  | [], i, b, h => .inr h
  | (j, x) :: r, i, b, h => by
    simp only [newB] at h
    split at h
    · exact look_newB h
    · split at h
      · rename_i b' hb'
        rcases look_cons h with ⟨rfl, rfl⟩ | ⟨_, h⟩
        · exact .inl ⟨j, b', hb', rfl, rfl⟩
        · exact look_newB h
      · exact look_newB h
theorem mem_of_look {α : Type} : ∀ {l : List (Nat × α)} {i : Nat} {x : α}, look l i = some x → (i, x) ∈ l
  | (u, y) :: r, i, x, h => by
    rcases look_cons h with ⟨rfl, rfl⟩ | ⟨_, h⟩
    · simp
    · exact List.mem_cons_of_mem _ (mem_of_look h)
  | [], _, _, h => by simp [look] at h

/-- What is handed over stands in the caller's state (weaker, if need be). -/
def inB (S : List (Nat × Blk)) (f : Nat → Nat) : List (Nat × Blk) → Prop
  | [] => True
  | (j, b) :: r => (match look S (f j) with
    | some b0 => BLe b0 (b.ren f)
    | none => Stuck "no such block") ∧ inB S f r
theorem inB_of {T : List (Nat × Blk)} {f : Nat → Nat} : ∀ {bs : List (Nat × Blk)}, inB T f bs → ∀ j b, (j, b) ∈ bs → ∃ b0, look T (f j) = some b0 ∧ BLe b0 (b.ren f)
  | (j, b) :: r, h, j', b', hm => by
    simp only [inB] at h
    rcases List.mem_cons.1 hm with e | hm
    · cases e
      have h1 := h.1
      split at h1
      · exact ⟨_, ‹_›, h1⟩
      · exact h1.no.elim
    · exact inB_of h.2 j' b' hm
  | [], _, _, _, hm => by simp at hm

def newIds (bs : List (Nat × Blk)) : List (Nat × Blk) → List Nat
  | [] => []
  | (j, _) :: r => match look bs j with
    | some _ => newIds bs r
    | none => j :: newIds bs r
def idsB : List (Nat × Blk) → List Nat
  | [] => []
  | (j, _) :: r => j :: idsB r
def elemN (i : Nat) : List Nat → Bool
  | [] => false
  | j :: r => match Nat.beq i j with
    | true => true
    | false => elemN i r
def apartN (f : Nat → Nat) : List Nat → Bool
  | [] => true
  | j :: r => match elemN (f j) (r.map f) with
    | true => false
    | false => apartN f r
theorem elemN_of {i : Nat} : ∀ {l : List Nat}, i ∈ l → elemN i l = true
  | j :: r, h => by
    simp only [elemN]
    split
    · rfl
    · rename_i hb
      rcases List.mem_cons.1 h with rfl | h
      · simp at hb
      · exact elemN_of h
  | [], h => by simp at h
theorem apartN_inj {f : Nat → Nat} : ∀ {l : List Nat}, apartN f l = true → ∀ i ∈ l, ∀ j ∈ l, f i = f j → i = j
  | x :: r, h, i, hi, j, hj, e => by
    simp only [apartN] at h
    split at h
    · cases h
    · rename_i hb
      have key : ∀ y ∈ r, f x ≠ f y := fun y hy e => by
        have := elemN_of (i := f x) (l := r.map f) (by rw [e]; exact List.mem_map_of_mem hy)
        rw [this] at hb; cases hb
      rcases List.mem_cons.1 hi with h1 | hi' <;> rcases List.mem_cons.1 hj with h2 | hj'
      · rw [h1, h2]
      · subst h1; exact absurd e (key j hj')
      · subst h2; exact absurd e.symm (key i hi')
      · exact apartN_inj h i hi' j hj' e
  | [], _, i, hi, _, _, _ => by simp at hi
theorem mem_idsB {bs : List (Nat × Blk)} : ∀ {i : Nat} {x : Blk}, (i, x) ∈ bs → i ∈ idsB bs := by
  induction bs with
  | nil => intro i x h; simp at h
  | cons p r ih =>
    obtain ⟨j, y⟩ := p
    intro i x h
    simp only [idsB]
    rcases List.mem_cons.1 h with h | h
    · cases h; simp
    · exact List.mem_cons_of_mem _ (ih h)
theorem mem_newIds {bs : List (Nat × Blk)} : ∀ {M : List (Nat × Blk)} {i : Nat} {x : Blk}, (i, x) ∈ M → look bs i = none → i ∈ newIds bs M
  | (j, y) :: r, i, x, h, hn => by
    simp only [newIds]
    rcases List.mem_cons.1 h with h | h
    · cases h; rw [hn]; simp
    · split
      · exact mem_newIds h hn
      · exact List.mem_cons_of_mem _ (mem_newIds h hn)
  | [], _, _, h, _ => by simp at h
/-- The state behind a call by a contract with effects: any list of blocks that says no more than what the call leaves. -/
theorem effSim {f : FuncId} {args args' : List V} {bs bs' : List (Nat × Blk)} {res : V} {vals : Array Value} (g : Nat → Nat) (h : EffC P f args' bs res bs') (hs : Sim P B w0 F ρ S a w) (hv : ArgsR w (ownZ B S.blks ρ) ρ args vals)
    (hw : CellsLe args (renL g args')) (hi : ∀ j b, (j, b) ∈ bs → ∃ b0, look S.blks (g j) = some b0 ∧ BLe b0 (b.ren g))
    (ha : ∀ i ∈ idsB bs ++ newIds bs bs', ∀ j ∈ idsB bs ++ newIds bs bs', g i = g j → i = j) (hm : ∀ j ∈ newIds bs bs', S.mentions (g j) = false) (L : List (Nat × Blk))
    (lookL : ∀ {i b}, look L i = some b → (∃ j b', look bs' j = some b' ∧ i = g j ∧ b = b'.ren g) ∨ (look S.blks i = some b ∧ ∀ j x, look bs j = some x → i ≠ g j)) :
    Calls P f vals w fun e w' => ∃ v ρ1, e = .returned v ∧ Sim P B w0 F ρ1 ⟨S.base, S.nt, S.tmps, S.gds, L, S.frames⟩ a w' ∧ VR w' (ownZ B L ρ1) ρ1 (res.ren g) v := by
  have oldS : ∀ i x, look bs i = some x → ∃ b0, look S.blks (g i) = some b0 ∧ BLe b0 (x.ren g) := fun i x hx => hi i x (mem_of_look hx)
  have own0 : ∀ b, own bs (fun i => ρ (g i)) b → own S.blks ρ b := fun b ⟨i, x, hx, hp, e⟩ => by
    obtain ⟨b0, h1, _⟩ := oldS i x hx
    exact ⟨g i, b0, h1, hp, e⟩
  let Z : Nat → Prop := fun b => ownZ B S.blks ρ b ∧ ¬ own bs (fun i => ρ (g i)) b
  have sub : ∀ b, own bs (fun i => ρ (g i)) b ∨ Z b → ownZ B S.blks ρ b := fun b hb => hb.elim (fun h => .inl (own0 b h)) fun h => h.1
  have inj0 : ∀ i x j y, look bs i = some x → look bs j = some y → g i = g j → i = j := fun i x j y hx hy e => ha i (by simp [mem_idsB (mem_of_look hx)]) j (by simp [mem_idsB (mem_of_look hy)]) e
  obtain ⟨c1, c2⟩ := hw.get
  refine Calls.mono (h.out Z w vals (fun i => ρ (g i)) ⟨by rw [hv.1, c1, renL_length], fun j v hj => ?_⟩ (fun i b hb => ?_) (fun i j x y hx hy hpi hpj e => ?_) (fun i x hx _ hz => ?_) (fun b hb => own_lt' hs hb.1) (hs.tabs fun b hb => ⟨hs.hB b hb, fun ho => by obtain ⟨i, x, hx, hp, rfl⟩ := own0 b ho; exact hs.ge i x hx hp hb⟩)) ?_
  · obtain ⟨u, hu, hle⟩ := c2 j (v.ren g) (by rw [renL_get, hj]; rfl)
    exact ((hle.out _ _ _ _ (hv.2 j u hu)).unren v rfl).mono sub
  · obtain ⟨b0, h1, h2⟩ := oldS i b hb
    exact ((h2.out _ _ _ _ (hs.blks _ _ h1)).unren).mono sub
  · obtain ⟨x0, h1, _⟩ := oldS i x hx
    obtain ⟨y0, h2, _⟩ := oldS j y hy
    exact inj0 i x j y hx hy (hs.sep _ _ _ _ h1 h2 hpi hpj e)
  · rename_i hp
    exact hz.2 ⟨i, x, hx, hp, rfl⟩
  rintro e w' ⟨v, ρ', rfl, kept, same, hres, hblk, hsep, hge⟩
  -- the surroundings behind the call
  have hnew : ∀ j x, look bs' j = some x → look bs j = none → j ∈ newIds bs bs' := fun j x hx hn => mem_newIds (mem_of_look hx) hn
  have inBoth : ∀ j x, look bs' j = some x → j ∈ idsB bs ++ newIds bs bs' := fun j x hx => by
    cases hb : look bs j with
    | none => simp [hnew j x hx hb]
    | some y => simp [mem_idsB (mem_of_look hb)]
  classical
  let ρ1 : Env := fun i => if hx : ∃ j, hasB bs' j = true ∧ g j = i then ρ' hx.choose else ρ i
  have ρ1M : ∀ j x, look bs' j = some x → ρ1 (g j) = ρ' j := fun j x hj => by
    have hx : ∃ j', hasB bs' j' = true ∧ g j' = g j := ⟨j, hasB_look hj, rfl⟩
    simp only [ρ1, dif_pos hx]
    obtain ⟨y, hy⟩ := hasB_of hx.choose_spec.1
    rw [ha _ (inBoth _ y hy) j (inBoth j x hj) hx.choose_spec.2]
  have ρ1old : ∀ i, (∀ j x, look bs' j = some x → g j ≠ i) → ρ1 i = ρ i := fun i hn => by
    simp only [ρ1]
    rw [dif_neg]
    rintro ⟨j, hj, e⟩
    obtain ⟨y, hy⟩ := hasB_of hj
    exact hn j y hy e
  have mentB : ∀ i b, look S.blks i = some b → S.mentions i = true := fun i b hb => by
    cases hc : S.mentions i
    · have := (St.mentions_parts hc).2.2.1
      rw [mentionsB_of (id := i) hb (.inl rfl)] at this; cases this
    · rfl
  have ρ1ment : ∀ i, S.mentions i = true → Agr (ρ i) (ρ1 i) := fun i hi => by
    by_cases hx : ∃ j x, look bs' j = some x ∧ g j = i
    · obtain ⟨j, x, hj, rfl⟩ := hx
      rw [ρ1M j x hj]
      cases hb : look bs j with
      | none =>
        have := hm j (hnew j x hj hb)
        rw [hi] at this; cases this
      | some y => exact same j y x hb hj
    · exact .inl (ρ1old i fun j x hj e => hx ⟨j, x, hj, e⟩)
  have ρ1oth : ∀ i b, look S.blks i = some b → (∀ j x, look bs j = some x → i ≠ g j) → ρ1 i = ρ i := fun i b hb hn => ρ1old i fun j x hj e => by
    cases hbj : look bs j with
    | none =>
      have := hm j (hnew j x hj hbj)
      rw [e, mentB i b hb] at this; cases this
    | some y => exact hn j y hbj e.symm
  have otherB : ∀ i b, look S.blks i = some b → (∀ j x, look bs j = some x → i ≠ g j) → (ρ i).ph = false → ¬ own bs (fun i => ρ (g i)) (ρ i).b := fun i b hb hn hp => by
    rintro ⟨j, x, hx, hpj, e⟩
    obtain ⟨b0, h1, _⟩ := oldS j x hx
    exact hn j x hx (hs.sep _ _ _ _ hb h1 hp hpj e.symm)
  have own1 : ∀ b, ownZ B L ρ1 b → own bs' ρ' b ∨ Z b := fun b hb => by
    rcases hb with ⟨i, x, hx, hp, rfl⟩ | hb
    · rcases lookL hx with ⟨j, b', hj, rfl, _⟩ | ⟨h1, h2⟩
      · rw [ρ1M j b' hj] at hp ⊢
        exact .inl ⟨j, b', hj, hp, rfl⟩
      · rw [ρ1oth i _ h1 h2] at hp ⊢
        exact .inr ⟨.inl ⟨i, x, h1, hp, rfl⟩, otherB i x h1 h2 hp⟩
    · refine .inr ⟨.inr hb, fun ho => ?_⟩
      obtain ⟨i, x, hx, hp, rfl⟩ := own0 b ho
      exact hs.ge i x hx hp (B.sub _ hb)
  have ren1 : ∀ (u : V) (x : Value), u.within (hasB bs') = true → VR w' (fun x => own bs' ρ' x ∨ Z x) ρ' u x → VR w' (ownZ B L ρ1) ρ1 (u.ren g) x := fun u x hu hx => by
    have h1 : VR w' (fun x => own bs' ρ' x ∨ Z x) (fun i => ρ1 (g i)) u x := hx.env fun i hi => by
      obtain ⟨b, hb⟩ := hasB_of (V.within_of u hu hi)
      exact ρ1M i b hb
    exact (h1.ren fun i => rfl).mono own1
  have renB1 : ∀ (i : Nat) (b : Blk), look bs' i = some b → BR w' (ownZ B L ρ1) ρ1 (g i) (b.ren g) := fun i b hb => by
    have h1 : BR w' (fun x => own bs' ρ' x ∨ Z x) (fun i => ρ1 (g i)) i b := (hblk i b hb).env (ρ1M i b hb) fun j hj => by
      obtain ⟨b2, hb2⟩ := hasB_of (Blk.within_of (withinB_of h.shutB hb) hj)
      exact ρ1M j b2 hb2
    exact (h1.ren fun i => rfl).mono own1
  have keep : Keep w (ownZ B S.blks ρ) w' (ownZ B L ρ1) := ⟨kept.size, fun b hb ho => ⟨kept.block b ⟨hb, fun h1 => ho (.inl (own0 b h1))⟩, fun h1 => by
    rcases own1 b h1 with ⟨j, x, hx, hp, rfl⟩ | h2
    · rcases hge j x hx hp with h3 | h3
      · omega
      · exact ho (.inl (own0 _ h3))
    · exact ho h2.1⟩⟩
  refine ⟨v, ρ1, rfl, ⟨⟨kept.os.trans hs.below.os, kept.tape.trans hs.below.tape, kept.output.trans hs.below.output, Nat.le_trans hs.below.size kept.size, fun b hb => ?_⟩, hs.tab, fun b hb => Nat.lt_of_lt_of_le (hs.hB b hb) kept.size, hs.defers, hs.nt, ?_, fun i b hb => ?_, fun i j x y hx hy hpi hpj e => ?_, fun i x hx hp hB => ?_, hs.frames.1, fun i f tm hf ht => ?_⟩, ren1 _ _ h.shut hres⟩
  · rw [kept.block b ⟨hs.hB b hb, fun h1 => ?_⟩]
    · exact hs.below.block b hb
    · obtain ⟨i, x, hx, hp, rfl⟩ := own0 b h1
      exact hs.ge i x hx hp hb
  · refine (hs.top.keep keep fun _ _ => rfl).agr fun i hi => ρ1ment i ?_
    cases hc : S.mentions i
    · obtain ⟨m1, m2, _, _⟩ := St.mentions_parts hc
      dsimp only at hi
      rw [m1, m2] at hi; simp at hi
    · rfl
  · rcases lookL hb with ⟨j, b', hj, rfl, rfl⟩ | ⟨h1, h2⟩
    · exact renB1 j b' hj
    · refine ((hs.blks i b h1).keep keep rfl (fun hp => kept.block _ ⟨(hs.blks i b h1).lt hp, otherB i b h1 h2 hp⟩) fun _ _ => rfl).agr (ρ1oth i b h1 h2) fun j hj => ρ1ment j ?_
      cases hc : S.mentions j
      · have := (St.mentions_parts hc).2.2.1
        rw [mentionsB_of (id := j) h1 (.inr hj)] at this; cases this
      · rfl
  · have key : ∀ i x, look L i = some x → (ρ1 i).ph = false → (∃ j b', look bs' j = some b' ∧ i = g j ∧ ρ1 i = ρ' j) ∨ (look S.blks i = some x ∧ (∀ j x, look bs j = some x → i ≠ g j) ∧ ρ1 i = ρ i) := fun i x hx hp => by
      rcases lookL hx with ⟨j, b', hj, rfl, _⟩ | ⟨h1, h2⟩
      · exact .inl ⟨j, b', hj, rfl, ρ1M j b' hj⟩
      · exact .inr ⟨h1, h2, ρ1oth i _ h1 h2⟩
    have cross : ∀ j b' i x, look bs' j = some b' → (ρ' j).ph = false → look S.blks i = some x → (∀ j x, look bs j = some x → i ≠ g j) → (ρ i).ph = false → (ρ' j).b ≠ (ρ i).b := fun j b' i x hj hpj h1 h2 hpi e => by
      rcases hge j b' hj hpj with h3 | h3
      · have := (hs.blks i x h1).lt hpi; omega
      · rw [e] at h3; exact otherB i x h1 h2 hpi h3
    rcases key i x hx hpi with ⟨j1, b1, g1, rfl, e1⟩ | ⟨g1, g2, e1⟩ <;> rcases key j y hy hpj with ⟨j2, b2, k1, rfl, e2⟩ | ⟨k1, k2, e2⟩
    · rw [e1] at hpi e; rw [e2] at hpj e
      rw [hsep j1 j2 b1 b2 g1 k1 hpi hpj e]
    · rw [e1] at hpi e; rw [e2] at hpj e
      exact absurd e (cross j1 b1 j y g1 hpi k1 k2 hpj)
    · rw [e1] at hpi e; rw [e2] at hpj e
      exact absurd e.symm (cross j2 b2 i x k1 hpj g1 g2 hpi)
    · rw [e1] at hpi e; rw [e2] at hpj e
      exact hs.sep i j x y g1 k1 hpi hpj e
  · rcases lookL hx with ⟨j, b', hj, rfl, _⟩ | ⟨h1, h2⟩
    · rw [ρ1M j b' hj] at hp hB
      rcases hge j b' hj hp with h3 | h3
      · have := hs.hB _ hB; omega
      · obtain ⟨i, x, hx, hp2, e⟩ := own0 _ h3
        rw [← e] at hB
        exact hs.ge i x hx hp2 hB
    · rw [ρ1oth i _ h1 h2] at hp hB
      exact hs.ge i x h1 hp hB
  · refine ((hs.frames.2 i f tm hf ht).keep keep fun _ _ => rfl).agr fun j hj => ρ1ment j ?_
    cases hc : S.mentions j
    · have := (St.mentions_parts hc).2.2.2
      rw [mentionsF_of (id := j) hf hj] at this; cases this
    · rfl

theorem lookEff {S : List (Nat × Blk)} {g : Nat → Nat} {bs bs' : List (Nat × Blk)} {i : Nat} {b : Blk} (hb : look (newB g bs bs' (effB g bs' S bs) bs') i = some b) :
    (∃ j b', look bs' j = some b' ∧ i = g j ∧ b = b'.ren g) ∨ (look S i = some b ∧ ∀ j x, look bs j = some x → i ≠ g j) := by
  rcases look_newB hb with h1 | h1
  · exact .inl h1
  · rcases look_effB h1 with h2 | ⟨h2, h3⟩
    · exact .inl h2
    · exact .inr ⟨h2, fun j x hx => h3 j x (mem_of_look hx)⟩

/-- A CALL BY A CONTRACT WITH EFFECTS. -/
theorem callEff {f : FuncId} {args args' : List V} {bs bs' : List (Nat × Blk)} {res : V} {K : V → St → Prop} (g : Nat → Nat) (h : EffC P f args' bs res bs') (hw : CellsLe args (renL g args')) (hi : inB S.blks g bs)
    (ha : apartN g (idsB bs ++ newIds bs bs') = true) (hm : (newIds bs bs').all (fun j => !(S.mentions (g j))) = true)
    (hk : K (res.ren g) ⟨S.base, S.nt, S.tmps, S.gds, newB g bs bs' (effB g bs' S.blks bs) bs', S.frames⟩) : CallP P f args S K := by
  have hi := inB_of hi
  have ha := apartN_inj ha
  have hm : ∀ j ∈ newIds bs bs', S.mentions (g j) = false := fun j hj => by simpa using List.all_eq_true.1 hm j hj
  refine ⟨h.can, fun B w0 F ρ a w vals hs hv => ?_⟩
  refine Calls.mono (effSim g h hs hv hw hi ha hm _ lookEff) ?_
  rintro e w' ⟨v, ρ1, rfl, h1, h2⟩
  exact ⟨v, ρ1, _, _, rfl, h1, h2, hk⟩

/-! ### A contract made -/
def anch : Blk → Nat → V
  | .box .., j => .ref j 0 0
  | .arr _ _ n _, j => .osl j 0 n
def anchT : Nat → List (Nat × Blk) → List (Nat × V)
  | _, [] => []
  | t, (j, b) :: r => (t, anch b j) :: anchT (t + 1) r
def anchVal (ρ : Env) : Blk → Nat → Value
  | .box .., j => .pointer (some ⟨(ρ j).b, (ρ j).o + 0 * (ρ j).sz + 0, none⟩)
  | .arr _ _ n _, j => match (ρ j).ph with
    | true => .slice none 0 0
    | false => .slice (some ⟨(ρ j).b, (ρ j).o + 0 * (ρ j).sz, none⟩) n ((ρ j).cap - 0)
def sameF : Blk → Blk → Prop
  | .box _ cs, .box _ cs' => cs.length = cs'.length
  | .arr _ sz n _, .arr _ sz' n' _ => sz = sz' ∧ n = n'
  | _, _ => Stuck "another kind of block"
def outB (T : List (Nat × Blk)) : List (Nat × Blk) → Prop
  | [] => True
  | (j, b) :: r => (match look T j with
    | some b0 => BLe b0 b
    | none => Stuck "no such block") ∧ outB T r
theorem outB_of {T : List (Nat × Blk)} : ∀ {M : List (Nat × Blk)}, outB T M → ∀ j b, (j, b) ∈ M → ∃ b0, look T j = some b0 ∧ BLe b0 b
  | (j, b) :: r, h, j', b', hm => by
    simp only [outB] at h
    rcases List.mem_cons.1 hm with e | hm
    · cases e
      have h1 := h.1
      split at h1
      · exact ⟨_, ‹_›, h1⟩
      · exact h1.no.elim
    · exact outB_of h.2 j' b' hm
  | [], _, _, _, hm => by simp at hm
theorem anchT_get : ∀ {bs : List (Nat × Blk)} {t u : Nat} {v : V}, look (anchT t bs) u = some v → ∃ i j b, u = t + i ∧ bs[i]? = some (j, b) ∧ v = anch b j
  | (j, b) :: r, t, u, v, h => by
    rcases look_cons h with ⟨rfl, rfl⟩ | ⟨_, h⟩
    · exact ⟨0, j, b, rfl, rfl, rfl⟩
    · obtain ⟨i, j', b', rfl, h2, h3⟩ := anchT_get h
      exact ⟨i + 1, j', b', by omega, by simpa using h2, h3⟩
  | [], _, _, _, h => by simp [anchT, look] at h
theorem anch_val {j : Nat} {b : Blk} (h : BR w ow ρ j b) : VR w ow ρ (anch b j) (anchVal ρ b j) := by
  cases h with
  | box C h1 h2 h3 h4 => exact .ref h1 (by omega)
  | arr0 h1 h2 h3 h4 => simp only [anch, anchVal, h1]; exact .osl0 h4 (Nat.zero_le _)
  | arr C et h1 h2 h3 h4 => simp only [anch, anchVal, h1]; exact .osl h1 (by omega) (by omega)

theorem anch_agr {j : Nat} {b b' : Blk} {w1 w2 : World} {ow1 ow2 ow3 : Nat → Prop} {ρ' : Env} (h : BR w1 ow1 ρ j b) (h' : BR w2 ow2 ρ' j b') (hs : sameF b b') (ha : VR w2 ow3 ρ' (anch b j) (anchVal ρ b j)) : Agr (ρ j) (ρ' j) := by
  cases h with
  | box C h1 h2 h3 h4 =>
    cases h' with
    | box C' k1 k2 k3 k4 =>
      simp only [sameF] at hs
      left
      simp only [anch, anchVal] at ha
      generalize hx : (Value.pointer (some ⟨(ρ j).b, (ρ j).o + 0 * (ρ j).sz + 0, none⟩)) = x at ha
      cases ha with | ref g1 g2 =>
      simp only [Value.pointer.injEq, Option.some.injEq, Addr.mk.injEq] at hx
      have e1 := hx.1
      cases hl : ρ j; cases hl' : ρ' j
      rw [hl] at h1 h2 h3 h4 e1; rw [hl'] at k1 k2 k3 k4 e1
      simp only at *
      simp only [Loc.mk.injEq]
      exact ⟨e1.symm, by omega, by omega, by omega, by omega, by rw [h1, k1]⟩
    | arr0 => exact hs.no.elim
    | arr => exact hs.no.elim
  | arr0 h1 h2 h3 h4 =>
    right
    cases h' with
    | box => exact hs.no.elim
    | arr0 k1 k2 k3 k4 => exact ⟨by omega, by omega, .inl h1⟩
    | arr C et k1 k2 k3 k4 => simp only [sameF] at hs; exact ⟨by omega, by omega, .inl h1⟩
  | arr C et h1 h2 h3 h4 =>
    have key : ∃ sz' n', (ρ' j).sz = sz' ∧ (ρ' j).n = n' ∧ sz' = (ρ j).sz ∧ n' = (ρ j).n := by
      cases h' with
      | box => exact hs.no.elim
      | arr0 k1 k2 k3 k4 => simp only [sameF] at hs; exact ⟨_, _, k2, k3, by omega, by omega⟩
      | arr C et k1 k2 k3 k4 => simp only [sameF] at hs; exact ⟨_, _, k2, k3, by omega, by omega⟩
    obtain ⟨sz', n', e1, e2, e3, e4⟩ := key
    simp only [anch, anchVal, h1] at ha
    generalize hx : (Value.slice (some ⟨(ρ j).b, (ρ j).o + 0 * (ρ j).sz, none⟩) _ ((ρ j).cap - 0)) = x at ha
    cases ha with
    | osl0 g0 g1 =>
      simp only [Value.slice.injEq] at hx
      right
      exact ⟨by omega, by omega, .inr (by omega)⟩
    | osl g1 g2 g3 =>
      simp only [Value.slice.injEq, Option.some.injEq, Addr.mk.injEq] at hx
      left
      obtain ⟨⟨q1, q2, _⟩, _, q3⟩ := hx
      cases hl : ρ j; cases hl' : ρ' j
      rw [hl] at h1 e3 e4 q1 q2 q3; rw [hl'] at e1 e2 g1 q1 q2 q3
      simp only at *
      simp only [Loc.mk.injEq]
      exact ⟨q1.symm, by omega, by omega, by omega, by omega, by rw [h1, g1]⟩

theorem look_of_get : ∀ {bs : List (Nat × Blk)} {i j : Nat} {b : Blk}, apartN (fun i => i) (idsB bs) = true → bs[i]? = some (j, b) → look bs j = some b
  | (u, x) :: r, 0, j, b, _, h => by simp at h; obtain ⟨rfl, rfl⟩ := h; exact look_same
  | (u, x) :: r, i + 1, j, b, ha, h => by
    have h' : r[i]? = some (j, b) := by simpa using h
    have hm := mem_idsB (List.mem_of_getElem? h')
    have hne : u ≠ j := fun e => by
      subst e
      simp only [idsB, apartN, List.map_id'] at ha
      rw [elemN_of hm] at ha; cases ha
    rw [look_other hne]
    refine look_of_get ?_ h'
    simp only [idsB, apartN] at ha
    split at ha
    · cases ha
    · exact ha
  | [], _, _, _, _, h => by simp at h
theorem anchVals_get {bs : List (Nat × Blk)} {ρ : Env} {i j : Nat} {b : Blk} (h : bs[i]? = some (j, b)) : ((bs.map fun p => anchVal ρ p.2 p.1).toArray).getD i undef = anchVal ρ b j := by
  simp [Array.getD_eq_getD_getElem?, h]

/-- A call by a contract with effects, written out. -/
theorem callE {base nt : Nat} {ts : List (Nat × V)} {gs : List Gd} {blks : List (Nat × Blk)} {fs : List Fr} {f : FuncId} {args args' : List V} {bs M : List (Nat × Blk)} {res : V} {K : V → St → Prop} (r : List (Nat × Nat)) (k : Nat) (h : EffC P f args' bs res M)
    (hw : CellsLe args (renL (renN r k) args')) (hi : inB blks (renN r k) bs) (ha : apartN (renN r k) (idsB bs ++ newIds bs M) = true) (hm : (newIds bs M).all (fun j => !(St.mentions ⟨base, nt, ts, gs, blks, fs⟩ (renN r k j))) = true)
    (hk : forceV (res.ren (renN r k)) fun v => forceB (newB (renN r k) bs M (effB (renN r k) M blks bs) M) fun bs => K v ⟨base, nt, ts, gs, bs, fs⟩) :
    CallP P f args ⟨base, nt, ts, gs, blks, fs⟩ K := by
  rw [forceV_eq, forceB_eq] at hk
  exact callEff (renN r k) h hw hi ha hm hk
end Go.Ab
namespace Go.Ab
open Go.RowKit
variable {P : Program} {tb : Tb} {w : World} {ρ : Env} {a : Act} {B : Bd} {w0 : World} {F : List (Array Value)} {S : St}
  {cs : Nat → Option CS} {m : Nat} {ops : List Oper} {S0 : St} {A : List (List Nat)} {R : List Rs} {ls : List Nat}

/-- A call that writes, in such a region: 'pre' the hidden blocks ahead of it, 'post' behind it, 'nb' what it makes. -/
structure EffD (P : Program) (pre : List (Nat × Blk)) (f : FuncId) (args : List V) (res : V) (nb post : List (Nat × Blk)) : Prop where
  can : Callable P f
  out : ∃ args' bs r M g, EffC P f args' bs r M ∧ CellsLe args (renL g args') ∧ inB pre g bs ∧ apartN g (idsB bs ++ newIds bs M) = true ∧ res = r.ren g ∧
    (∀ i b, look (nb ++ post) i = some b → (∃ j b', look M j = some b' ∧ i = g j ∧ b = b'.ren g) ∨ (look pre i = some b ∧ ∀ j x, look bs j = some x → i ≠ g j)) ∧ (∀ j ∈ newIds bs M, hasB nb (g j) = true ∨ (hasB post (g j) = true ∧ hasB pre (g j) = false))

theorem hasB_newB {g : Nat → Nat} {bs M X : List (Nat × Blk)} : ∀ {l : List (Nat × Blk)} {j : Nat}, j ∈ newIds bs l → (∀ i x, (i, x) ∈ l → ∃ y, look M i = some y) → hasB (newB g bs M X l) (g j) = true
  | (i, x) :: r, j, h, hM => by
    simp only [newIds] at h
    simp only [newB]
    split at h
    · exact hasB_newB h fun i x hx => hM i x (List.mem_cons_of_mem _ hx)
    · obtain ⟨y, hy⟩ := hM i x (by simp)
      rw [hy]
      dsimp only
      by_cases e : g i = g j
      · rw [e]; exact hasB_look look_same
      · rcases List.mem_cons.1 h with h1 | h
        · subst h1; exact absurd rfl e
        · have := hasB_newB (g := g) (bs := bs) (M := M) (X := X) h fun i x hx => hM i x (List.mem_cons_of_mem _ hx)
          obtain ⟨b, hb2⟩ := hasB_of this
          exact hasB_look (b := b) (by rw [look_other e]; exact hb2)
  | [], _, h, _ => by simp [newIds] at h
theorem look_of_mem' {α : Type} : ∀ {l : List (Nat × α)} {i : Nat} {x : α}, (i, x) ∈ l → ∃ y, look l i = some y
  | (u, z) :: r, i, x, h => by
    by_cases e : u = i
    · subst e; exact ⟨z, look_same⟩
    · rcases List.mem_cons.1 h with h1 | h1
      · cases h1; exact absurd rfl e
      · rw [look_other e]; exact look_of_mem' h1
  | [], _, _, h => by simp at h

theorem effD_mk {pre nb post : List (Nat × Blk)} {f : FuncId} {args args' : List V} {bs M : List (Nat × Blk)} {res res' : V} (r : List (Nat × Nat)) (k : Nat) (h : EffC P f args' bs res' M)
    (hw : CellsLe args (renL (renN r k) args')) (hi : inB pre (renN r k) bs) (ha : apartN (renN r k) (idsB bs ++ newIds bs M) = true) (hr : res'.ren (renN r k) = res)
    (hnb : newB (renN r k) bs M [] M = nb) (hpost : effB (renN r k) M pre bs = post) : EffD P pre f args res nb post := by
  subst hr hnb hpost
  refine ⟨h.can, _, _, _, _, renN r k, h, hw, hi, ha, rfl, fun i b hb => ?_, fun j hj => .inl (hasB_newB hj fun i x hx => look_of_mem' hx)⟩
  rw [look_append] at hb
  cases hl : look (newB (renN r k) bs M [] M) i with
  | some b' =>
    rw [hl] at hb; simp at hb; subst hb
    rcases look_newB hl with h1 | h1
    · exact .inl h1
    · simp [look] at h1
  | none =>
    rw [hl] at hb; simp at hb
    rcases look_effB hb with h1 | ⟨h1, h2⟩
    · exact .inl h1
    · exact .inr ⟨h1, fun j x hx => h2 j x (mem_of_look hx)⟩

theorem isEf_of {x : Option CS} (h : isEf x = true) : (∃ res nb post p q, x = some (.eff res nb post p q)) ∨ ∃ pre res post, x = some (.app pre res post) := by
  unfold isEf at h; split at h
  · exact .inl ⟨_, _, _, _, _, rfl⟩
  · exact .inr ⟨_, _, _, rfl⟩
  · cases h
def verOk (S0 : St) (R : List Rs) (T : List (Nat × Blk)) : Bool := (idsB T).all (fun i => !hasB S0.blks i) && R.all fun r => r.nb.all fun p => !mentionsB p.1 T
def St.addB (S : St) (T : List (Nat × Blk)) : St := match S with
  | ⟨base, nt, ts, gs, bs, fs⟩ => ⟨base, nt, ts, gs, bs ++ T, fs⟩
theorem addB_tmps {T : List (Nat × Blk)} : (S0.addB T).tmps = S0.tmps := by cases S0; rfl
theorem stOf_addB {T : List (Nat × Blk)} {E : Nat → Bool} : stOf (S0.addB T) R E = ⟨S0.base, S0.nt, tsOf E 0 R ++ S0.tmps, gsOf E 0 R, bsOf E 0 R ++ (S0.blks ++ T), S0.frames⟩ := by
  obtain ⟨base, nt, ts, gs, bs, fs⟩ := S0; rfl

theorem stOf_add_all {T : List (Nat × Blk)} {E : Nat → Bool} : stOf (S0.addB T) R E = (stOf S0 R E).addB T := by
  obtain ⟨base, nt, ts, gs, bs, fs⟩ := S0
  simp only [stOf, St.addB, List.append_assoc]

theorem evD0_blks {S S' : St} {o : Oper} {j : Nat} {K : Option (Nat × Bool) → V → List (Nat × Blk) → Prop} (he : S'.ev = S.ev) (hg : S'.gds = S.gds) (hbase : S'.base = S.base) (hb : ∀ i b, look S.blks i = some b → look S'.blks i = some b)
    (h : evD0 P tb cs ops j o S K) : evD0 P tb cs ops j o S' K := by
  have hcP : ∀ {al l : List (Nat × Bool)} {p : Prop}, condP S' al l p = condP S al l p := fun {al l p} => condP_congr (fun al x => by rw [he])
  have hcN : ∀ {key : Nat} {want : Bool} {p : Prop}, condN S' key want p = condN S key want p := fun {key want p} => by simp only [condN, he]
  obtain ⟨dst, op, ty, pos, after, guard⟩ := o
  cases guard with
  | none =>
    cases hv : isVC op
    · rw [evD0_other hv] at h ⊢
      cases hN : isN op <;> simp only [hN, he, hbase] at h ⊢
      · exact evP_local (fun _ _ _ => rfl) hb h
      · exact evN_local (fun _ _ => rfl) hb h
    · obtain ⟨f, args, tys, rfl⟩ := isVC_of hv
      simp only [evD0, he] at h ⊢
      split at h
      · rename_i h1 h2
        refine ⟨⟨h.1.can, ?_⟩, h.2⟩
        obtain ⟨args', hv, hp⟩ := h.1.out
        exact ⟨args', viewL_mono hb _ _ hv, hp⟩
      · exact h
      · exact h.no.elim
  | some gdd =>
    obtain ⟨jg, want⟩ := gdd
    simp only [evD0, he, hg] at h ⊢
    split at h
    · rename_i key _ _ _ _ _ hjg
      have hcPf : ∀ (al l : List (Nat × Bool)), condP S' al l = condP S al l := fun al l => funext fun p => hcP
      have hcNf : ∀ (key : Nat) (want : Bool), condN S' key want = condN S key want := fun k w => funext fun p => hcN
      simp only [hcPf, hcNf]
      cases op <;> try simp only at h ⊢
      case call c =>
        obtain ⟨callee, args, tys⟩ := c
        cases callee <;> try simp only at h ⊢
        case value f =>
          split at h
          · refine ⟨⟨h.1.can, condP_mono (fun hx => ?_) h.1.out⟩, h.2⟩
            obtain ⟨args', hv, hp⟩ := hx
            exact ⟨args', viewL_mono hb _ _ hv, hp⟩
          · exact h
          · exact h.no.elim
        all_goals exact evP_local (fun _ _ _ => rfl) hb h
      all_goals exact evP_local (fun _ _ _ => rfl) hb h
    · exact h.no.elim

theorem evA1_local {ev ev' : Operand → V} {vis vis' : Nat → Option Blk} {pre : List (Nat × Blk)} {base : Nat} {dst : Option Nat} {op : Op} {K : V → List (Nat × Blk) → Prop} (hx : ∀ x ∈ op.operands.toList, ev x = ev' x) (hb : ∀ i b, vis i = some b → vis' i = some b)
    (h : evA1 tb ev vis pre base dst op K) : evA1 tb ev' vis' pre base dst op K := by
  cases op <;> simp only [evA1] at h ⊢ <;> first | exact h.no.elim | exact evN_local hx hb h | skip
  case call c =>
    split at h
    · split at h
      · rename_i s x t t' hargs htys
        have e1 : ev s = ev' s := hx s (opnd_arg (by rw [hargs]; simp))
        have e2 : ev x = ev' x := hx x (opnd_arg (by rw [hargs]; simp))
        rw [e1, e2] at h
        split at h
        · split at h
          · split at h
            · rename_i h1 h2
              rw [h1, contents_mono hb h2]
              dsimp only at h ⊢
              split at h
              · exact evN_local hx hb h
              · exact h
              · exact h.no.elim
            · exact h.no.elim
          · exact h.no.elim
        · exact h.no.elim
      · exact h.no.elim
    · exact h.no.elim
  case store t a x =>
    have e1 : ev a = ev' a := hx a (by simp [Op.operands])
    have e2 : ev x = ev' x := hx x (by simp [Op.operands])
    rw [e1, e2] at h
    exact h
theorem evA_local {ev ev' : Operand → V} {vis vis' : Nat → Option Blk} {pre : List (Nat × Blk)} {base : Nat} {dst : Option Nat} {op : Op} {K : V → List (Nat × Blk) → Prop} (hx : ∀ x ∈ op.operands.toList, ev x = ev' x) (hb : ∀ i b, vis i = some b → vis' i = some b)
    (h : evA tb ev vis pre base dst op K) : evA tb ev' vis' pre base dst op K := by
  unfold evA at h ⊢
  split at h
  · refine evP_local (fun x hm _ => hx x hm) (fun i b hi => ?_) h
    cases hl : look pre i with
    | some b' => rw [hl] at hi; simpa using hi
    | none => rw [hl] at hi; simp only [Option.none_or] at hi ⊢; exact hb i b hi
  · exact evA1_local hx hb h
theorem evD_blks {S S' : St} {o : Oper} {j : Nat} {K : Option (Nat × Bool) → V → List (Nat × Blk) → Prop} (he : S'.ev = S.ev) (hg : S'.gds = S.gds) (hbase : S'.base = S.base) (hb : ∀ i b, look S.blks i = some b → look S'.blks i = some b)
    (h : evD P tb cs ops j o S K) : evD P tb cs ops j o S' K := by
  cases ha : isApp (cs j)
  · rw [evD_ne ha] at h ⊢; exact evD0_blks he hg hbase hb h
  · obtain ⟨pre, res, post, hc, hgd, h1, h2⟩ := evD_app ha h
    unfold evD
    rw [hc, hgd]
    simp only [forceV_eq]
    rw [he, hbase]
    exact ⟨evA_local (fun _ _ => rfl) hb h1, h2⟩

theorem Walked.more (W : Walked P tb cs m ops S0 A R) {T : List (Nat × Blk)} (hT : ∀ r ∈ R, ∀ p ∈ r.nb, mentionsB p.1 T = false) : Walked P tb cs m ops (S0.addB T) A R := by
  refine ⟨W.hm, fun j o hj ho => ?_, W.lt, W.dsts, W.ne, W.ids, fun i ri hi p hp => ?_, W.ment, fun i ri hi => ?_, fun i ri t hi ht => ?_, W.len⟩
  · obtain ⟨r, h1, h2, h3, h4, h5, h6⟩ := W.facts j o hj ho
    refine ⟨r, h1, h2, h3, h4, h5, ?_⟩
    have hb0 : (stOf S0 (R.take j) (memN (nth A j))).base = S0.base := by cases S0; rfl
    have hbl : (stOf S0 (R.take j) (memN (nth A j))).blks = bsOf (memN (nth A j)) 0 (R.take j) ++ S0.blks := by cases S0; rfl
    have hev : (stOf (S0.addB T) (R.take j) (memN (nth A j))).ev = (stOf S0 (R.take j) (memN (nth A j))).ev := by
      funext al x; cases S0; cases x <;> rfl
    refine evD_blks (S := stOf S0 (R.take j) (memN (nth A j))) hev (by cases S0; rfl) (by cases S0; rfl) (fun i b hb => ?_) h6
    rw [hbl] at hb
    rw [stOf_addB]
    dsimp only
    rw [← List.append_assoc, look_append, hb]; rfl
  · have h1 := W.new i ri hi p hp
    have h2 := hT ri (List.mem_of_getElem? hi) p hp
    obtain ⟨base, nt, ts, gs, bs, fs⟩ := S0
    obtain ⟨m1, m2, m3, m4⟩ := St.mentions_parts h1
    refine St.mentions_mk m1 m2 ?_ m4
    rw [mentionsB_all] at m3 h2 ⊢
    intro q hq
    rcases List.mem_append.1 hq with hq | hq
    · exact m3 q hq
    · exact h2 q hq
  · have := W.slots i ri hi
    cases S0; exact this
  · rw [addB_tmps]; exact W.mask i ri t hi ht

theorem look_none_of {bs : List (Nat × Blk)} {i : Nat} (h : hasB bs i = false) : look bs i = none := by
  unfold hasB at h; split at h
  · cases h
  · assumption

/-- The step of a call that writes. -/
theorem draw_step_eff (W : Walked P tb cs m ops S0 A R) {opsA : Array Oper} (hops : opsA.toList = ops) {pre post : List (Nat × Blk)} (hv0 : verOk S0 R pre = true) (hv1 : verOk S0 R post = true)
    {E : Nat → Bool} (hE : Closed m A E) {j : Nat} {o : Oper} (hj : j < m) (hjE : E j = false) (ho : ops[j]? = some o) {res : V} {nb : List (Nat × Blk)} {p : FuncId → List V → Prop} {q : Prop} (hcs : cs j = some (.eff res nb post p q)) (hp : ∀ g vs, p g vs → EffD P pre g vs res nb post) (hq : q → LeB pre post)
    (hfr : ∀ id, hasB post id = true → hasB pre id = false → (stOf (S0.addB pre) R E).mentions id = false) (hdst : o.dst ≠ none)
    (hr : ∀ e ∈ edgesOf o.after.toList, E e = true) (h : Sim P B w0 F ρ (stOf (S0.addB (pre)) R E) a w) {next : Act → World → Prop}
    (hn : ∀ ρ' a' w', Sim P B w0 F ρ' (stOf (S0.addB (post)) R (Eadd E j)) a' w' → next a' w') (Q : Exit → Act → World → Prop)
    (hcall : ∃ f args tys, o.op = .call ⟨.value f, args, tys⟩) : wpOp P opsA Q j next a w := by
  have W0 := W
  have hvT : ∀ T, verOk S0 R T = true → ∀ r ∈ R, ∀ p ∈ r.nb, mentionsB p.1 T = false := fun T this r hr p hp => by
    simp only [verOk, Bool.and_eq_true] at this
    have := List.all_eq_true.1 (List.all_eq_true.1 this.2 r hr) p hp
    simpa using this
  have hvS : ∀ T, verOk S0 R T = true → ∀ i b, look T i = some b → look S0.blks i = none := fun T this i b hb => by
    simp only [verOk, Bool.and_eq_true] at this
    have := List.all_eq_true.1 this.1 i (mem_idsB (mem_of_look hb))
    exact look_none_of (by simpa using this)
  have hoA : opsA[j]? = some o := by rw [← hops] at ho; simpa using ho
  have W := W0.more (hvT pre hv0)
  have W1 := W0.more (hvT post hv1)
  obtain ⟨r, hr1, hanc, hrd, hopr, hgd, hev⟩ := W.facts j o hj ho
  have hin := W.ancIn hE hj ho hr
  have hlt : ∀ i ∈ nth A j, i < j := W.ancLt (j + 1) j (by omega) hj
  obtain ⟨t, htd, htn, hkt⟩ := (W.slots j r hr1).resolve_left (fun h => hdst (by rw [← hrd]; exact h.1))
  have hod : o.dst = some t := by rw [← hrd]; exact htd
  have hloc : ∀ x ∈ o.op.operands.toList, ∀ al, (stOf (S0.addB (pre)) (R.take j) (memN (nth A j))).ev al x = (stOf (S0.addB (pre)) R E).ev al x := fun x hx al => ev_loc W hlt hin (hopr x hx) al
  have hkey : ∀ g ∈ gsOf E 0 R, g.t ≠ t ∧ g.key ≠ t := fun g hg => by
    obtain ⟨i, q, g1, g2, g3, g4, g5⟩ := gsOf_mem.1 hg
    rw [Nat.zero_add] at g2
    have hne : i ≠ j := fun e => by subst e; rw [hjE] at g2; cases g2
    refine ⟨fun e => W.ne j i r q hr1 g1 (Ne.symm hne) t htd (by rw [← e]; exact g3), fun e => ?_⟩
    have him : i < m := by rw [← W.hm]; exact (List.getElem?_eq_some_iff.1 g1).1
    obtain ⟨oi, hoi⟩ := W.op him
    obtain ⟨q', f1, _, _, _, f5, f6⟩ := W.facts i oi him hoi
    rw [g1] at f1; cases f1
    obtain ⟨gg, vv, nn, ⟨k1, _, _⟩, k4⟩ := evD_form f6
    rcases k4 with ⟨_, k5⟩ | ⟨jg, want, oj, key, k5, k6, k7, k8⟩
    · rw [← k1, k5] at g4; cases g4
    · rw [← k1, k8] at g4
      simp only [Option.some.injEq, Prod.mk.injEq] at g4
      obtain ⟨oj', key', l1, l2, l3, _⟩ := f5 jg want k5
      rw [k6] at l1; cases l1
      have hEjg := hE i him g2 jg l3
      have hjgne : jg ≠ j := fun e => by subst e; rw [hjE] at hEjg; cases hEjg
      have hjgm : jg < m := by have := W.ancLt (i + 1) i (by omega) him jg l3; omega
      obtain ⟨rj, r1, _, r3, _⟩ := W.facts jg oj hjgm k6
      refine W.ne jg j rj r r1 hr1 hjgne key (by rw [r3]; exact k7) ?_
      rw [g4.1, e]; exact htd
  have hSt := stOf_addB (S0 := S0) (R := R) (T := pre) (E := E)
  have hment : ∀ p ∈ r.nb, (stOf (S0.addB (pre)) R E).mentions p.1 = false := fun p hp => ment_E W hE hr1 hjE hp
  have hbsT : ∀ T, verOk S0 R T = true → ∀ i b, look T i = some b → look (bsOf E 0 R) i = none := fun T hk i b hb => by
    cases hl : look (bsOf E 0 R) i with
    | none => rfl
    | some b' =>
      exfalso
      obtain ⟨q, rq, g1, _, g3⟩ := bsOf_mem.1 (mem_of_look hl)
      have := hvT T hk rq (List.mem_of_getElem? g1) _ g3
      rw [mentionsB_of (id := i) hb (.inl rfl)] at this; cases this
  rw [evD_ne (by rw [hcs]; rfl)] at hev
  have hpT : ∀ i b, look post i = some b → look S0.blks i = none ∧ look (bsOf E 0 R) i = none := fun i b hb => by
    exact ⟨hvS post hv1 i b hb, hbsT post hv1 i b hb⟩
  -- what stands behind the call
  have behind : ∀ {g : FuncId} {vs : List V} {vals : Array Value}, EffD P (pre) g vs res nb post → ArgsR w (ownZ B (stOf (S0.addB (pre)) R E).blks ρ) ρ vs vals → nb = r.nb →
      Calls P g vals w fun e w' => ∃ v ρ1, e = .returned v ∧ Sim P B w0 F ρ1 ⟨S0.base, S0.nt, tsOf E 0 R ++ S0.tmps, gsOf E 0 R, r.nb ++ (bsOf E 0 R ++ (S0.addB post).blks), S0.frames⟩ a w' ∧ VR w' (ownZ B (r.nb ++ (bsOf E 0 R ++ (S0.addB post).blks)) ρ1) ρ1 res v := by
    intro g vs vals hd hv hnb
    obtain ⟨args', bs, r0, M, gm, hc, hw, hi, ha, hres, hL, hN⟩ := hd.out
    have hblk : (S0.addB post).blks = S0.blks ++ post := by cases S0; rfl
    rw [hblk, hres]
    have hi' := inB_of hi
    have hSb : (stOf (S0.addB (pre)) R E).blks = bsOf E 0 R ++ (S0.blks ++ pre) := by rw [hSt]
    have lookT : ∀ i b, look (pre) i = some b → look (stOf (S0.addB (pre)) R E).blks i = some b := fun i b hb => by
      rw [hSb, look_append, hbsT pre hv0 i b hb, look_append, hvS pre hv0 i b hb]
      simpa using hb
    have := effSim (L := r.nb ++ (bsOf E 0 R ++ (S0.blks ++ post))) gm hc h hv hw (fun i b hb => by
        obtain ⟨b0, g1, g2⟩ := hi' i b hb
        exact ⟨b0, lookT _ _ g1, g2⟩) (apartN_inj ha) (fun i hi => by
        rcases hN i hi with hN | ⟨hN1, hN2⟩
        · obtain ⟨b, hb⟩ := hasB_of hN
          rw [hnb] at hb
          exact hment (gm i, b) (mem_of_look hb)
        · exact hfr _ hN1 hN2) (fun {i b} hb => by
        have offT : ∀ j' x, look bs j' = some x → ∃ b0, look (pre) (gm j') = some b0 := fun j' x hx => by
          obtain ⟨b0, g1, _⟩ := hi' j' x (mem_of_look hx)
          exact ⟨b0, g1⟩
        rw [look_append] at hb
        cases h1 : look r.nb i with
        | some b1 =>
          rw [h1] at hb; simp at hb; subst hb
          rcases hL i b1 (by rw [look_append, hnb, h1]; rfl) with h2 | ⟨h2, h3⟩
          · exact .inl h2
          · exact .inr ⟨lookT _ _ h2, h3⟩
        | none =>
          rw [h1] at hb
          simp only [Option.none_or] at hb
          rw [look_append] at hb
          cases h2 : look (bsOf E 0 R) i with
          | some b2 =>
            rw [h2] at hb; simp at hb; subst hb
            refine .inr ⟨by rw [hSb, look_append, h2]; rfl, fun j' x hx e => ?_⟩
            obtain ⟨b0, g1⟩ := offT j' x hx
            rw [← e] at g1
            rw [hbsT pre hv0 i b0 g1] at h2; cases h2
          | none =>
            rw [h2] at hb
            simp only [Option.none_or] at hb
            rw [look_append] at hb
            cases h3 : look S0.blks i with
            | some b3 =>
              rw [h3] at hb; simp at hb; subst hb
              refine .inr ⟨by rw [hSb, look_append, h2, look_append, h3]; rfl, fun j' x hx e => ?_⟩
              obtain ⟨b0, g1⟩ := offT j' x hx
              rw [← e] at g1
              rw [hvS pre hv0 i b0 g1] at h3; cases h3
            | none =>
              rw [h3] at hb
              simp only [Option.none_or] at hb
              rcases hL i b (by rw [look_append, hnb, h1]; simpa using hb) with h4 | ⟨h4, h5⟩
              · exact .inl h4
              · exact .inr ⟨lookT _ _ h4, h5⟩)
    refine Calls.mono this ?_
    rintro e w' ⟨v, ρ1, rfl, g1, g2⟩
    rw [hSt] at g1
    exact ⟨v, ρ1, rfl, g1, g2⟩
  obtain ⟨dst, op, ty, pos, after, guard⟩ := o
  obtain ⟨f, args, tys, hop⟩ := hcall
  dsimp only at hod hopr hloc hgd hop
  subst hod hop
  have add : ∀ {ρ1 w' x}, Sim P B w0 F ρ1 ⟨S0.base, S0.nt, tsOf E 0 R ++ S0.tmps, gsOf E 0 R, r.nb ++ (bsOf E 0 R ++ (S0.addB post).blks), S0.frames⟩ a w' →
      (match r.g with
      | none => VR w' (ownZ B (r.nb ++ (bsOf E 0 R ++ (S0.addB post).blks)) ρ1) ρ1 r.v x
      | some (key, want) => (a.tmps.getD key undef = .bool want ∧ VR w' (ownZ B (r.nb ++ (bsOf E 0 R ++ (S0.addB post).blks)) ρ1) ρ1 r.v x) ∨ (a.tmps.getD key undef ≠ .bool want ∧ x = undef)) →
      Sim P B w0 F ρ1 (stOf (S0.addB post) R (Eadd E j)) (a.put (some t) x) w' := fun h1 h2 => by
    have hk0 : (S0.addB post).base = S0.base ∧ (S0.addB post).nt = S0.nt ∧ (S0.addB post).tmps = S0.tmps ∧ (S0.addB post).frames = S0.frames := by obtain ⟨base, nt, ts, gs, bs, fs⟩ := S0; exact ⟨rfl, rfl, rfl, rfl⟩
    exact sim_add W1 hr1 htd hjE (h := by rw [hk0.1, hk0.2.1, hk0.2.2.1, hk0.2.2.2]; exact h1) h2 hkey
  cases guard with
  | none =>
    have hwd : Region.wanted ⟨some t, .call ⟨.value f, args, tys⟩, ty, pos, after, none⟩ (yielded opsA a.tmps) = true := by simp [Region.wanted]
    refine wpOp_run hoA hwd ?_
    simp only [evD0] at hev
    split at hev
    · rename_i hcs'; rw [hcs] at hcs'; cases hcs'
    · rename_i g cap res' nb' post' p' q' hf hcs'
      rw [hcs] at hcs'
      simp only [Option.some.injEq, CS.eff.injEq] at hcs'
      obtain ⟨e1, e2, e3, e4, e5⟩ := hcs'
      subst e1 e2 e3 e4 e5
      rw [forceV_eq] at hev
      obtain ⟨hpp, k1, k2, k3⟩ := hev
      have hfE : (stOf (S0.addB (pre)) R E).ev [] f = .fn g cap := by rw [← hloc f (mem_operands_call.2 (.inl rfl)) []]; exact hf
      have hargsE : args.toList.map ((stOf (S0.addB (pre)) (R.take j) (memN (nth A j))).ev []) = args.toList.map ((stOf (S0.addB (pre)) R E).ev []) := List.map_congr_left fun x hx => hloc x (mem_operands_call.2 (.inr (by simpa using hx))) []
      rw [hargsE] at hpp
      have hD := hp _ _ hpp
      obtain ⟨fcs, hfv, hcl, hcv⟩ := fn_inv (h.evR.eq hfE)
      have hargs := args_sound (ev := (stOf (S0.addB (pre)) R E).ev) (al := []) h.evR.at args hcl hcv
      unfold Oper.wp
      rw [call_run hfv hD.can, Oper.upon_enter]
      refine Calls.mono (behind hD hargs k3) ?_
      rintro e w' ⟨v, ρ1, rfl, h1, h2⟩
      exact hn ρ1 _ w' (add h1 (by rw [← k1]; rw [← k2]; exact h2))
    · exact hev.no.elim
  | some gdd =>
    obtain ⟨jg, want⟩ := gdd
    obtain ⟨oj, key, l1, l2, l3, l4⟩ := hgd jg want rfl
    have hjgA : opsA[jg]? = some oj := by rw [← hops] at l1; simpa using l1
    have hy := yielded_iff (tmps := a.tmps) (want := want) hjgA l2
    have hwd : Region.wanted ⟨some t, .call ⟨.value f, args, tys⟩, ty, pos, after, some (jg, want)⟩ (yielded opsA a.tmps) = (yielded opsA a.tmps jg == some want) := by simp [Region.wanted]
    have hL : Sim P B w0 F ρ ⟨S0.base, S0.nt, tsOf (memN (nth A j)) 0 (R.take j) ++ S0.tmps, gsOf (memN (nth A j)) 0 (R.take j), bsOf E 0 R ++ (S0.blks ++ pre), S0.frames⟩ a w := by
      rw [hSt] at h
      refine h.congr (fun t v hv => ?_) (fun g hg => ?_) (fun _ _ => Iff.rfl)
      · rw [look_append] at hv ⊢
        cases hl : look (tsOf (memN (nth A j)) 0 (R.take j)) t with
        | some v' =>
          rw [hl] at hv; simp at hv; subst hv
          obtain ⟨i, q, g1, g2, g3, g4⟩ := tsOf_out hl
          rw [Nat.zero_add] at g2
          rw [tsOf_in (pw_of W R fun _ _ h => h) (take_sub g1).2 (by rw [Nat.zero_add]; exact hin i (memN_iff.1 g2)) g3, g4]; rfl
        | none =>
          rw [hl] at hv; simp at hv
          cases hl2 : look (tsOf E 0 R) t with
          | none => simpa using hv
          | some v' =>
            obtain ⟨i, q, g1, g2, g3, g4⟩ := tsOf_out hl2
            have := W.mask i q t g1 g3
            rw [addB_tmps] at this
            rw [this] at hv; cases hv
      · obtain ⟨i, q, g1, g2, g3, g4, g5⟩ := gsOf_mem.1 hg
        rw [Nat.zero_add] at g2
        exact gsOf_mem.2 ⟨i, q, (take_sub g1).2, by rw [Nat.zero_add]; exact hin i (memN_iff.1 g2), g3, g4, g5⟩
    have hLev : ∀ al x, St.ev ⟨S0.base, S0.nt, tsOf (memN (nth A j)) 0 (R.take j) ++ S0.tmps, gsOf (memN (nth A j)) 0 (R.take j), bsOf E 0 R ++ (S0.blks ++ pre), S0.frames⟩ al x = (stOf (S0.addB (pre)) (R.take j) (memN (nth A j))).ev al x := fun al x => by
      rw [stOf_addB]; cases x <;> rfl
    simp only [evD0, l1] at hev
    obtain ⟨odst, oop, oty, opos, oaft, ogd⟩ := oj
    dsimp only at l2 hev
    subst l2
    dsimp only at hev
    split at hev
    · rename_i hcs'; rw [hcs] at hcs'; cases hcs'
    · rename_i g cap res' post' p' q' hf hcs'
      rw [hcs] at hcs'
      simp only [Option.some.injEq, CS.eff.injEq] at hcs'
      obtain ⟨e1, e2, e3, e4, e5⟩ := hcs'
      subst e1 e2 e3 e4 e5
      rw [forceV_eq] at hev
      obtain ⟨⟨hcan, hpp, hqq⟩, k1, k2, k3⟩ := hev
      by_cases hw : a.tmps.getD key undef = .bool want
      · have hwt : Region.wanted ⟨some t, .call ⟨.value f, args, tys⟩, ty, pos, after, some (jg, want)⟩ (yielded opsA a.tmps) = true := by rw [hwd]; exact hy.2 hw
        refine wpOp_run hoA hwt ?_
        have hgds : (stOf (S0.addB (pre)) (R.take j) (memN (nth A j))).gds = gsOf (memN (nth A j)) 0 (R.take j) := by rw [stOf_addB]
        rw [hgds] at hpp hf
        have hal : ∀ k g, (k, g) ∈ closure (gsOf (memN (nth A j)) 0 (R.take j)) 9 key want → a.tmps.getD k undef = .bool g := fun k g hm => closure_sound hL 9 key want hw k g hm
        generalize closure (gsOf (memN (nth A j)) 0 (R.take j)) 9 key want = al at hal hpp hf
        have hpp : p g (args.toList.map ((stOf (S0.addB (pre)) (R.take j) (memN (nth A j))).ev al) ++ cap) := by
          refine condP_sound hL al hal al _ (fun _ hx => hx) ?_
          rw [condP_congr (S' := stOf (S0.addB (pre)) (R.take j) (memN (nth A j))) hLev]
          exact hpp
        have hfE : (stOf (S0.addB (pre)) R E).ev al f = .fn g cap := by rw [← hloc f (mem_operands_call.2 (.inl rfl)) _]; exact hf
        have hargsE : args.toList.map ((stOf (S0.addB (pre)) (R.take j) (memN (nth A j))).ev al) = args.toList.map ((stOf (S0.addB (pre)) R E).ev al) := List.map_congr_left fun x hx => hloc x (mem_operands_call.2 (.inr (by simpa using hx))) _
        rw [hargsE] at hpp
        have hD := hp _ _ hpp
        have hf' := h.evR.h al f hal
        rw [hfE] at hf'
        obtain ⟨fcs, hfv, hcl, hcv⟩ := fn_inv hf'
        have hargs := args_sound (ev := (stOf (S0.addB (pre)) R E).ev) (al := al) (fun x => h.evR.h _ x hal) args hcl hcv
        unfold Oper.wp
        rw [call_run hfv hD.can, Oper.upon_enter]
        refine Calls.mono (behind hD hargs k3) ?_
        rintro e w' ⟨v, ρ1, rfl, h1, h2⟩
        exact hn ρ1 _ w' (add h1 (by rw [← k1]; rw [← k2]; exact .inl ⟨hw, h2⟩))
      · have hwf : Region.wanted ⟨some t, .call ⟨.value f, args, tys⟩, ty, pos, after, some (jg, want)⟩ (yielded opsA a.tmps) = false := by
          rw [hwd]
          cases hb : (yielded opsA a.tmps jg == some want)
          · rfl
          · exact absurd (hy.1 hb) hw
        unfold wpOp
        simp only [hoA, hwf, Bool.false_eq_true, if_false]
        have hqq : q := by
          refine condN_sound hL hw (key := key) (want := want) ?_
          unfold condN at hqq ⊢
          rw [hLev]; exact hqq
        have hle := hq hqq
        refine hn ρ _ w (add ?_ (by rw [← k1]; exact .inr ⟨hw, rfl⟩))
        rw [← k3, List.nil_append]
        have hblk : (S0.addB post).blks = S0.blks ++ post := by cases S0; rfl
        rw [hblk]
        rw [hSt] at h
        -- the blocks are no more than they were
        have lk : ∀ i b, look (bsOf E 0 R ++ (S0.blks ++ post)) i = some b → ∃ c, look (bsOf E 0 R ++ (S0.blks ++ pre)) i = some c ∧ BLe c b := fun i b hb => by
          rw [look_append] at hb ⊢
          cases h1 : look (bsOf E 0 R) i with
          | some b1 => rw [h1] at hb; simp at hb; subst hb; exact ⟨_, rfl, BLe.refl _⟩
          | none =>
            rw [h1] at hb
            simp only [Option.none_or] at hb ⊢
            rw [look_append] at hb ⊢
            cases h2 : look S0.blks i with
            | some b2 => rw [h2] at hb; simp at hb; subst hb; exact ⟨_, rfl, BLe.refl _⟩
            | none =>
              rw [h2] at hb
              simp only [Option.none_or] at hb ⊢
              exact leB_get hle hb
        have hown : ∀ b, own (bsOf E 0 R ++ (S0.blks ++ post)) ρ b → own (bsOf E 0 R ++ (S0.blks ++ pre)) ρ b := by
          rintro b ⟨i, k, hk, hp, rfl⟩
          obtain ⟨c, hc, _⟩ := lk i k hk
          exact ⟨i, c, hc, hp, rfl⟩
        have keep : Keep w (ownZ B (bsOf E 0 R ++ (S0.blks ++ pre)) ρ) w (ownZ B (bsOf E 0 R ++ (S0.blks ++ post)) ρ) := ⟨Nat.le_refl _, fun b _ ho => ⟨rfl, fun h => ho (h.imp (hown b) fun h => h)⟩⟩
        refine ⟨h.below, h.tab, h.hB, h.defers, h.nt, h.top.keep keep fun _ _ => rfl, fun id b hbk => ?_, fun i j x y hx hy => ?_, fun i x hx => ?_, h.frames.1, fun i f' tm hf' htm => (h.frames.2 i f' tm hf' htm).keep keep fun _ _ => rfl⟩
        · obtain ⟨c, hc, hle⟩ := lk id b hbk
          have := hle.out _ _ _ _ (h.blks id c hc)
          exact this.keep keep rfl (fun _ => rfl) fun _ _ => rfl
        · obtain ⟨x', hx', _⟩ := lk i x hx
          obtain ⟨y', hy', _⟩ := lk j y hy
          exact h.sep i j x' y' hx' hy'
        · obtain ⟨x', hx', _⟩ := lk i x hx
          exact h.ge i x' hx'
    · exact hev.no.elim

/-- The state is silent on 'id' till operation j comes. -/
theorem ment_id (W : Walked P tb cs m ops S0 A R) {E : Nat → Bool} (hE : Closed m A E) {j : Nat} (hj : E j = false) {id : Nat} (hnew : S0.mentions id = false)
    (hm : ∀ i q, R[i]? = some q → i ≠ j → j ∉ nth A i → q.v.mentions id = false ∧ ∀ x ∈ q.nb, x.1 ≠ id ∧ x.2.mentions id = false) : (stOf S0 R E).mentions id = false := by
  obtain ⟨m1, m2, m3, m4⟩ := St.mentions_parts hnew
  have hother : ∀ (i : Nat) (q : Rs), R[i]? = some q → E i = true → q.v.mentions id = false ∧ ∀ x ∈ q.nb, x.1 ≠ id ∧ x.2.mentions id = false := fun i q hi hEi => by
    have hne : i ≠ j := fun e => by subst e; rw [hj] at hEi; cases hEi
    have him : i < m := by rw [← W.hm]; exact (List.getElem?_eq_some_iff.1 hi).1
    have hnot : j ∉ nth A i := fun h => by have := hE i him hEi j h; rw [hj] at this; cases this
    exact hm i q hi hne hnot
  obtain ⟨base, nt, ts, gs, bs, fs⟩ := S0
  dsimp only at m1 m2 m3 m4
  refine St.mentions_mk ?_ ?_ ?_ m4
  · refine mentionsT_all.2 fun x hx => ?_
    rcases List.mem_append.1 hx with hx | hx
    · obtain ⟨i, q, h1, h2, h3⟩ := tsOf_mem hx
      rw [Nat.zero_add] at h2
      rw [h3]
      simp only [Rs.shown]
      split
      · exact (hother i q h1 h2).1
      · rfl
    · exact mentionsT_all.1 m1 x hx
  · refine mentionsG_all.2 fun g hg => ?_
    obtain ⟨i, q, h1, h2, _, _, h5⟩ := gsOf_mem.1 hg
    rw [Nat.zero_add] at h2
    rw [h5]
    exact (hother i q h1 h2).1
  · refine mentionsB_all.2 fun x hx => ?_
    rcases List.mem_append.1 hx with hx | hx
    · obtain ⟨i, q, h1, h2, h3⟩ := bsOf_mem.1 hx
      rw [Nat.zero_add] at h2
      exact ⟨((hother i q h1 h2).2 x h3).1, ((hother i q h1 h2).2 x h3).2⟩
    · exact mentionsB_all.1 m3 x hx

theorem mem_delB {j : Nat} {p : Nat × Blk} : ∀ {bs : List (Nat × Blk)}, p ∈ delB bs j → p ∈ bs
  | [], h => by simp [delB] at h
  | (u, x) :: r, h => by
    simp only [delB] at h
    split at h
    · exact List.mem_cons_of_mem _ (mem_delB h)
    · rcases List.mem_cons.1 h with h | h
      · rw [h]; simp
      · exact List.mem_cons_of_mem _ (mem_delB h)
theorem simO_sub {ow : Nat → Prop} {L : List (Nat × Blk)} (h : SimO P ow B w0 F ρ S a w) (hl : ∀ i b, look L i = some b → look S.blks i = some b) : SimO P ow B w0 F ρ ⟨S.base, S.nt, S.tmps, S.gds, L, S.frames⟩ a w :=
  ⟨h.below, h.tab, h.hB, h.defers, h.nt, h.top, fun i b hb => h.blks i b (hl i b hb), fun i j x y hx hy => h.sep i j x y (hl i x hx) (hl j y hy), fun i x hx => h.ge i x (hl i x hx), h.frames⟩
theorem own_sub {L L' : List (Nat × Blk)} (hl : ∀ i b, look L i = some b → look L' i = some b) {b : Nat} (h : own L ρ b) : own L' ρ b := by
  obtain ⟨i, k, hk, hp, e⟩ := h
  exact ⟨i, k, hl i k hk, hp, e⟩

theorem look_updB_eq {id : Nat} {x : Blk} : ∀ {bs : List (Nat × Blk)} {i : Nat}, look (updB bs id x) i = if i = id then (look bs id).map fun _ => x else look bs i
  | [], i => by simp [updB, look]
  | (u, y) :: r, i => by
    simp only [updB]
    split
    · rename_i hb
      have := Nat.eq_of_beq_eq_true hb; subst this
      by_cases e : i = u
      · subst e; rw [look_same, if_pos rfl, look_same]; rfl
      · rw [look_other (Ne.symm e), if_neg e, look_other (Ne.symm e)]
    · rename_i hb
      have hne : u ≠ id := fun e => by subst e; simp at hb
      by_cases e : u = i
      · subst e; rw [look_same, if_neg hne, look_same]
      · rw [look_other e, look_updB_eq, look_other hne, look_other e]
theorem evA1_dst {ev : Operand → V} {vis : Nat → Option Blk} {pre : List (Nat × Blk)} {base : Nat} {dst : Option Nat} {op : Op} {K : V → List (Nat × Blk) → Prop} (h : evA1 tb ev vis pre base dst op K) (hs : ¬ ∃ tt aa xx, op = .store tt aa xx) : dst ≠ none := by
  intro e
  subst e
  cases op <;> simp only [evA1, evN] at h <;> first | exact h.no.elim | exact absurd ⟨_, _, _, rfl⟩ hs | skip
  all_goals (repeat' split at h)
  all_goals first
    | exact h.no.elim
    | contradiction
    | (simp_all; done)
/-- A row made or grown among the hidden ones. -/
theorem evA1_sound (hT : TOk P tb) {S : St} {X pre post : List (Nat × Blk)} {res : V} {dst : Option Nat} {op : Op} {ty pos after guard} (h : Sim P B w0 F ρ S a w) (hX : S.blks = X ++ pre) (hdis : ∀ i b, look pre i = some b → look X i = none)
    (hm : ∀ t, dst = some t → S.mentions (St.idOf S.base t) = false) (he : evA1 tb (S.ev []) (look X) pre S.base dst op (fun v post' => v = res ∧ post' = post)) :
    ∃ n v w' ρ', (execOp a.eval ⟨dst, op, ty, pos, after, guard⟩).run P w = .ok n w' ∧ (n = .value v ∨ (n = .skip ∧ v = undef)) ∧ Sim P B w0 F ρ' ⟨S.base, S.nt, S.tmps, S.gds, X ++ post, S.frames⟩ a w' ∧ VR w' (ownZ B (X ++ post) ρ') ρ' res v := by
  have lookX : ∀ i b, look X i = some b → look S.blks i = some b := fun i b hb => by rw [hX, look_append, hb]; rfl
  have lookP : ∀ i b, look pre i = some b → look S.blks i = some b := fun i b hb => by rw [hX, look_append, hdis i b hb]; simpa using hb
  have lookP' := lookP
  by_cases hst : ∃ tt aa xx, op = .store tt aa xx
  · obtain ⟨tt, aa, xx, rfl⟩ := hst
    simp only [evA1] at he
    split at he
    case h_2 => exact he.no.elim
    rename_i ti id row off hti hpa
    have hiff : ∀ (blk : Blk) {b0 : Blk}, look pre id = some b0 → updB pre id blk = post → ∀ i y, look (X ++ post) i = some y ↔ look (updB S.blks id blk) i = some y := fun blk b0 hlk k2 i y => by
      rw [← k2, hX]
      by_cases e : i = id
      · subst e
        simp [look_append, look_updB_eq, hdis _ _ hlk, hlk]
      · simp only [look_append, look_updB_eq, if_neg e]
    split at he
    · rename_i t' cs1 hsz hlk
      split at he
      case h_2 => exact he.no.elim
      rename_i hle
      rw [forceVL_eq] at he
      obtain ⟨k1, k2⟩ := he
      have hE : evE tb dst (.store tt aa xx) S (fun v S' => v = .any ∧ S' = ⟨S.base, S.nt, S.tmps, S.gds, updB S.blks id (.box t' (setAt cs1 off (S.ev [] xx).cells)), S.frames⟩) := by
        obtain ⟨base, nt, ts, gs, bs, fs⟩ := S
        simp only [evE, hti]
        rw [hpa]
        simp only [hsz, lookP _ _ hlk, hle, forceVL_eq, forceB_eq]
        exact ⟨trivial, trivial⟩
      obtain ⟨n, v, w', ρ', x, S', g1, g2, g3, g4, rfl, rfl⟩ := evE_sound hT h ⟨dst, .store tt aa xx, ty, pos, after, guard⟩ hE
      refine ⟨n, v, w', ρ', g1, g2, g3.congr (fun _ _ h => h) (fun _ h => h) fun i y => hiff _ hlk k2 i y, ?_⟩
      rw [← k1]; exact .any
    · rename_i t' sz n0 rw0 hsz hlk
      split at he
      case h_2 => exact he.no.elim
      rename_i ds hle hds
      obtain ⟨rw1, hrw1, k1, k2⟩ := he
      have hE : evE tb dst (.store tt aa xx) S (fun v S' => v = .any ∧ S' = ⟨S.base, S.nt, S.tmps, S.gds, updB S.blks id (.arr t' sz n0 rw1), S.frames⟩) := by
        obtain ⟨base, nt, ts, gs, bs, fs⟩ := S
        simp only [evE, hti]
        rw [hpa]
        simp only [hsz, lookP _ _ hlk, hle, hds, forceB_eq]
        exact ⟨rw1, hrw1, trivial, rfl⟩
      obtain ⟨n, v, w', ρ', x, S', g1, g2, g3, g4, rfl, rfl⟩ := evE_sound hT h ⟨dst, .store tt aa xx, ty, pos, after, guard⟩ hE
      refine ⟨n, v, w', ρ', g1, g2, g3.congr (fun _ _ h => h) (fun _ h => h) fun i y => hiff _ hlk k2 i y, ?_⟩
      rw [← k1]; exact .any
    · exact he.no.elim
  cases dst with
  | none =>
    exact absurd rfl (evA1_dst he fun e => hst e)
  | some t =>
  have hm := hm t rfl
  have hnid : ∀ b, look S.blks (St.idOf S.base t) = some b → False := fun b hb => by
    have := (St.mentions_parts hm).2.2.1
    rw [mentionsB_of hb (.inl rfl)] at this; cases this
  -- the blocks in another order
  have front : ∀ {ρ' w'} {b : Blk} {rest : List (Nat × Blk)} {v}, (∀ i x, look (X ++ rest) i = some x → True) → Sim P B w0 F ρ' ⟨S.base, S.nt, S.tmps, S.gds, (St.idOf S.base t, b) :: (X ++ rest), S.frames⟩ a w' →
      VR w' (ownZ B ((St.idOf S.base t, b) :: (X ++ rest)) ρ') ρ' res v → post = (St.idOf S.base t, b) :: rest →
      Sim P B w0 F ρ' ⟨S.base, S.nt, S.tmps, S.gds, X ++ post, S.frames⟩ a w' ∧ VR w' (ownZ B (X ++ post) ρ') ρ' res v := fun {ρ' w' b rest v} _ h1 h2 h3 => by
    have hXn : look X (St.idOf S.base t) = none := by
      cases hl : look X (St.idOf S.base t) with
      | none => rfl
      | some b => exact (hnid b (lookX _ _ hl)).elim
    have iff : ∀ i x, look (X ++ post) i = some x ↔ look ((St.idOf S.base t, b) :: (X ++ rest)) i = some x := fun i x => by
      rw [h3]
      by_cases e : St.idOf S.base t = i
      · subst e; rw [look_same, look_append, hXn, look_same]; rfl
      · rw [look_other e, look_append, look_append, look_other e]
    refine ⟨h1.congr (fun _ _ h => h) (fun _ h => h) fun i x => iff i x, h2.mono fun b hb => hb.elim (fun ho => .inl (own_sub (fun i x hx => (iff i x).1 hx) ho)) .inr⟩
  have newCase : ∀ {op' : Op}, evN tb (S.ev []) (look X) S.base (some t) op' (fun id v b => v = res ∧ (id, b) :: pre = post) →
      ∃ n v w' ρ', (execOp a.eval ⟨some t, op', ty, pos, after, guard⟩).run P w = .ok n w' ∧ (n = .value v ∨ (n = .skip ∧ v = undef)) ∧ Sim P B w0 F ρ' ⟨S.base, S.nt, S.tmps, S.gds, X ++ post, S.frames⟩ a w' ∧ VR w' (ownZ B (X ++ post) ρ') ρ' res v := fun {op'} hk => by
    have h2 := evN_evE (fun t' ht => by cases ht; exact hm) (evN_id (evN_local (fun _ _ => rfl) lookX hk))
    obtain ⟨n, v, w', ρ', x, S', g1, g2, g3, g4, g5⟩ := evE_sound hT h ⟨some t, op', ty, pos, after, guard⟩ h2
    obtain ⟨i, b, ⟨hi, k1, k2⟩, rfl⟩ := g5
    subst hi k1
    have g3' : Sim P B w0 F ρ' ⟨S.base, S.nt, S.tmps, S.gds, (St.idOf S.base t, b) :: (X ++ pre), S.frames⟩ a w' := by rw [← hX]; exact g3
    have g4' : VR w' (ownZ B ((St.idOf S.base t, b) :: (X ++ pre)) ρ') ρ' x v := by rw [← hX]; exact g4
    obtain ⟨f1, f2⟩ := front (fun _ _ _ => trivial) g3' g4' k2.symm
    exact ⟨n, v, w', ρ', g1, g2, f1, f2⟩
  cases op <;> simp only [evA1] at he <;> first | exact he.no.elim | exact newCase he | skip
  case store => exact absurd ⟨_, _, _, rfl⟩ hst
  case call c =>
    split at he
    case h_2 => exact he.no.elim
    rename_i hcal
    split at he
    case h_2 => exact he.no.elim
    rename_i s x ty1 ty2 hargs htys
    have hargs : c.args = #[s, x] := by apply Array.ext'; simpa using hargs
    have htys : c.argTypes = #[ty1, ty2] := by apply Array.ext'; simpa using htys
    have hrun : ∀ w', (execOp a.eval ⟨some t, .call c, ty, pos, after, guard⟩).run P w' = ((Builtin.append_ #[ty1, ty2] ty #[a.eval s, a.eval x] >>= fun v => (pure (.value v) : Sem Next)).run P w') := fun w' => by
      simp only [execOp, resolve, hcal, hargs, htys, pure_bind, invoke, builtin, List.map_toArray, List.map_cons, List.map_nil]
    split at he
    case h_2 => exact he.no.elim
    rename_i e s' by' z' q e' s2 by2 z2 q2 dst' hti hti' hd
    cases hd
    split at he
    case h_2 => exact he.no.elim
    rename_i kk sz byt zz qq hte
    split at he
    case h_2 => exact he.no.elim
    rename_i n r m r' hcs hcx
    split at he
    · exact newCase he
    case h_3 => exact he.no.elim
    rename_i id off len hsv
    obtain ⟨hb, n1, rw1, hn1, hrw1, he⟩ := he
    rw [St.idK_eq] at he
    obtain ⟨k1, k2⟩ := he
    subst hn1
    have hev := h.evR
    have hs := hev.eq hsv
    rw [hsv] at hcs
    have hlkid : ∀ b, look S.blks id = some b → look X id = none := fun b hb => by
      simp only [contents] at hcs
      split at hcs
      · rename_i hl; exact hdis _ _ hl
      · cases hcs
    have hsub : ∀ i b, look (X ++ delB pre id) i = some b → i ≠ id ∧ look S.blks i = some b := fun i b hb => by
      rw [look_append] at hb
      cases hl : look X i with
      | some b' =>
        rw [hl] at hb; simp at hb; subst hb
        refine ⟨fun e => ?_, lookX _ _ hl⟩
        subst e
        rw [hlkid _ (lookX _ _ hl)] at hl; cases hl
      | none =>
        rw [hl] at hb
        simp only [Option.none_or] at hb
        obtain ⟨h1, h2⟩ := look_delB hb
        exact ⟨h1, lookP _ _ h2⟩
    have hk := simO_sub h.o (L := X ++ delB pre id) fun i b hb => (hsub i b hb).2
    obtain ⟨v, w', ρ', g1, g2, g3⟩ := append_osl hT h (ty := ty) (nid := St.idOf S.base t) hti hti' hte hs (hev.at x) (contents_mono lookP hcs) (contents_mono lookX hcx) hb hrw1 hk (by
        obtain ⟨m1, m2, m3, m4⟩ := St.mentions_parts hm
        refine St.mentions_mk m1 m2 ?_ m4
        rw [hX, mentionsB_all] at m3
        rw [mentionsB_all]
        intro p hp
        rcases List.mem_append.1 hp with hp | hp
        · exact m3 p (List.mem_append_left _ hp)
        · exact m3 p (List.mem_append_right _ (mem_delB hp)))
      (fun b hb => hb.elim (fun ho => .inl (own_sub (fun i x hx => (hsub i x hx).2) ho)) .inr) (fun t0 n0 row0 hl hp => by
        rintro ⟨i, k, hk, hpi, e⟩
        obtain ⟨hne, hk2⟩ := hsub i k hk
        exact hne (h.sep i id _ _ hk2 hl hpi hp e))
    subst k1
    obtain ⟨f1, f2⟩ := front (rest := delB pre id) (fun _ _ _ => trivial) g2 g3 k2.symm
    exact ⟨_, v, w', ρ', by rw [hrun, Sem.run_bind, g1]; rfl, .inl rfl, f1, f2⟩

/-- An operation among the hidden blocks. -/
theorem evA_sound (hT : TOk P tb) {S : St} {X pre post : List (Nat × Blk)} {res : V} {dst : Option Nat} {op : Op} {ty pos after guard} (h : Sim P B w0 F ρ S a w) (hX : S.blks = X ++ pre) (hdis : ∀ i b, look pre i = some b → look X i = none)
    (hm : ∀ t, dst = some t → isHP op = false → S.mentions (St.idOf S.base t) = false) (he : evA tb (S.ev []) (look X) pre S.base dst op (fun v post' => v = res ∧ post' = post)) :
    ∃ n v w' ρ', (execOp a.eval ⟨dst, op, ty, pos, after, guard⟩).run P w = .ok n w' ∧ (n = .value v ∨ (n = .skip ∧ v = undef)) ∧ Sim P B w0 F ρ' ⟨S.base, S.nt, S.tmps, S.gds, X ++ post, S.frames⟩ a w' ∧ VR w' (ownZ B (X ++ post) ρ') ρ' res v := by
  unfold evA at he
  split at he
  · obtain ⟨v, w', x, g1, g2, g3, rfl, rfl⟩ := evP_sound hT (ev := fun _ x => S.ev [] x) (ow := ownZ B S.blks ρ) (ρ := ρ) ⟨fun _ x _ => h.evR.at x⟩ (fun i b hi => h.blks i b (by
        rw [hX, look_append]
        cases hl : look pre i with
        | some b' => rw [hl] at hi; simp only [Option.some_or, Option.some.injEq] at hi; subst hi; rw [hdis _ _ hl]; rfl
        | none => rw [hl] at hi; simp only [Option.none_or] at hi; rw [hi]; rfl)) (fun _ hb => own_lt' h hb) (fun _ h => h) ⟨dst, op, ty, pos, after, guard⟩ he
    have h2 := h.pure g2
    obtain ⟨base, nt, ts, gs, bs, fs⟩ := S
    dsimp only at hX
    subst hX
    exact ⟨_, v, w', ρ, g1, .inl rfl, h2, g3⟩
  · exact evA1_sound hT h hX hdis (fun t ht => hm t ht (by assumption)) he

/-- The step of a row made or grown. -/
theorem draw_step_app (hT : TOk P tb) (W : Walked P tb cs m ops S0 A R) {opsA : Array Oper} (hops : opsA.toList = ops) {pre post : List (Nat × Blk)} (hv0 : verOk S0 R pre = true) (hv1 : verOk S0 R post = true)
    {E : Nat → Bool} (hE : Closed m A E) {j : Nat} {o : Oper} (hj : j < m) (hjE : E j = false) (ho : ops[j]? = some o) {res : V} (hcs : cs j = some (.app pre res post))
    (hnid : ∀ t, o.dst = some t → isHP o.op = false → S0.mentions (St.idOf S0.base t) = false ∧ mentionsB (St.idOf S0.base t) pre = false ∧ ∀ i q, R[i]? = some q → i ≠ j → j ∉ nth A i → q.v.mentions (St.idOf S0.base t) = false ∧ ∀ x ∈ q.nb, x.1 ≠ St.idOf S0.base t ∧ x.2.mentions (St.idOf S0.base t) = false)
    (hr : ∀ e ∈ edgesOf o.after.toList, E e = true) (h : Sim P B w0 F ρ (stOf (S0.addB pre) R E) a w) {next : Act → World → Prop}
    (hn : ∀ ρ' a' w', Sim P B w0 F ρ' (stOf (S0.addB post) R (Eadd E j)) a' w' → next a' w') (Q : Exit → Act → World → Prop) : wpOp P opsA Q j next a w := by
  have W0 := W
  have hvT : ∀ T, verOk S0 R T = true → ∀ r ∈ R, ∀ p ∈ r.nb, mentionsB p.1 T = false := fun T this r hr p hp => by
    simp only [verOk, Bool.and_eq_true] at this
    have := List.all_eq_true.1 (List.all_eq_true.1 this.2 r hr) p hp
    simpa using this
  have hvS : ∀ T, verOk S0 R T = true → ∀ i b, look T i = some b → look S0.blks i = none := fun T this i b hb => by
    simp only [verOk, Bool.and_eq_true] at this
    have := List.all_eq_true.1 this.1 i (mem_idsB (mem_of_look hb))
    exact look_none_of (by simpa using this)
  have hoA : opsA[j]? = some o := by rw [← hops] at ho; simpa using ho
  have W1 := W0.more (hvT post hv1)
  have hvT := hvT pre hv0
  have hvS := hvS pre hv0
  have W := W0.more hvT
  obtain ⟨r, hr1, hanc, hrd, hopr, hgd, hev⟩ := W0.facts j o hj ho
  have hin := W.ancIn hE hj ho hr
  have hlt : ∀ i ∈ nth A j, i < j := W.ancLt (j + 1) j (by omega) hj
  have hloc : ∀ x ∈ o.op.operands.toList, ∀ al, (stOf S0 (R.take j) (memN (nth A j))).ev al x = (stOf S0 R E).ev al x := fun x hx al => ev_loc W0 hlt hin (hopr x hx) al
  have hblk : ∀ id b, look (stOf S0 (R.take j) (memN (nth A j))).blks id = some b → look (stOf S0 R E).blks id = some b := fun id b hb => blk_loc W0 hin hb
  obtain ⟨pre', res', post', hcs', hg, hA, k1, k2, k3⟩ := evD_app (by rw [hcs]; rfl) hev
  rw [hcs] at hcs'
  simp only [Option.some.injEq, CS.app.injEq] at hcs'
  obtain ⟨e1, e2, e3⟩ := hcs'
  subst e1 e2 e3
  have hbase : ∀ (R' : List Rs) (E' : Nat → Bool), (stOf S0 R' E').base = S0.base := fun R' E' => by obtain ⟨base, nt, ts, gs, bs, fs⟩ := S0; rfl
  have hblks : (stOf S0 R E).blks = bsOf E 0 R ++ S0.blks := by obtain ⟨base, nt, ts, gs, bs, fs⟩ := S0; rfl
  have hA2 := evA_local (ev' := (stOf S0 R E).ev []) (vis' := look (bsOf E 0 R ++ S0.blks)) (fun x hx => hloc x hx []) (fun i b hb => by rw [← hblks]; exact hblk i b hb) hA
  have hS2 : stOf (S0.addB pre) R E = (stOf S0 R E).addB pre := stOf_add_all
  rw [hS2] at h
  have hev2 : ((stOf S0 R E).addB pre).ev = (stOf S0 R E).ev := by
    funext al x
    generalize stOf S0 R E = S9
    obtain ⟨base, nt, ts, gs, bs, fs⟩ := S9
    cases x <;> rfl
  have hm2 : ∀ t, o.dst = some t → isHP o.op = false → ((stOf S0 R E).addB pre).mentions (St.idOf ((stOf S0 R E).addB pre).base t) = false := fun t ht hhp => by
    obtain ⟨n1, n2, n3⟩ := hnid t ht hhp
    have hm1 := ment_id W0 hE hjE n1 n3
    have hb2 : ((stOf S0 R E).addB pre).base = S0.base := by
      rw [← hbase R E]; generalize stOf S0 R E = S9; obtain ⟨base, nt, ts, gs, bs, fs⟩ := S9; rfl
    rw [hb2]
    obtain ⟨m1, m2, m3, m4⟩ := St.mentions_parts hm1
    have e1 : ((stOf S0 R E).addB pre).tmps = (stOf S0 R E).tmps ∧ ((stOf S0 R E).addB pre).gds = (stOf S0 R E).gds ∧ ((stOf S0 R E).addB pre).blks = (stOf S0 R E).blks ++ pre ∧ ((stOf S0 R E).addB pre).frames = (stOf S0 R E).frames := by
      generalize stOf S0 R E = S9; obtain ⟨base, nt, ts, gs, bs, fs⟩ := S9; exact ⟨rfl, rfl, rfl, rfl⟩
    refine St.mentions_mk (by rw [e1.1]; exact m1) (by rw [e1.2.1]; exact m2) ?_ (by rw [e1.2.2.2]; exact m4)
    rw [e1.2.2.1]
    rw [mentionsB_all] at m3 n2 ⊢
    intro p hp
    rcases List.mem_append.1 hp with hp | hp
    · exact m3 p hp
    · exact n2 p hp
  have hb2 : ((stOf S0 R E).addB pre).base = S0.base := by
    rw [← hbase R E]; generalize stOf S0 R E = S9; obtain ⟨base, nt, ts, gs, bs, fs⟩ := S9; rfl
  have hX : ((stOf S0 R E).addB pre).blks = (bsOf E 0 R ++ S0.blks) ++ pre := by
    rw [← hblks]; generalize stOf S0 R E = S9; obtain ⟨base, nt, ts, gs, bs, fs⟩ := S9; rfl
  have hdis : ∀ i b, look pre i = some b → look (bsOf E 0 R ++ S0.blks) i = none := fun i b hb => by
    rw [look_append, hvS i b hb]
    cases hl : look (bsOf E 0 R) i with
    | none => rfl
    | some b' =>
      exfalso
      obtain ⟨q, rq, g1, _, g3⟩ := bsOf_mem.1 (mem_of_look hl)
      have := hvT rq (List.mem_of_getElem? g1) _ g3
      rw [mentionsB_of (id := i) hb (.inl rfl)] at this; cases this
  obtain ⟨n, v, w', ρ', g1, g0, g2, g3⟩ := evA_sound (ty := o.type) (pos := o.pos) (after := o.after) (guard := none) hT h hX hdis hm2 (by rw [hev2, hb2]; rw [hbase] at hA2; exact hA2)
  have hoe : o = ⟨o.dst, o.op, o.type, o.pos, o.after, none⟩ := by rw [← hg]
  have hwd : Region.wanted o (yielded opsA a.tmps) = true := by rw [hoe]; simp [Region.wanted]
  refine wpOp_run hoA hwd ?_
  have hshape : (⟨((stOf S0 R E).addB pre).base, ((stOf S0 R E).addB pre).nt, ((stOf S0 R E).addB pre).tmps, ((stOf S0 R E).addB pre).gds, (bsOf E 0 R ++ S0.blks) ++ post, ((stOf S0 R E).addB pre).frames⟩ : St) = ⟨S0.base, S0.nt, tsOf E 0 R ++ S0.tmps, gsOf E 0 R, r.nb ++ (bsOf E 0 R ++ (S0.addB post).blks), S0.frames⟩ := by
    rw [← k3]
    obtain ⟨base, nt, ts, gs, bs, fs⟩ := S0
    simp only [stOf, St.addB, List.append_assoc, List.nil_append]
  have hbl : (bsOf E 0 R ++ S0.blks) ++ post = r.nb ++ (bsOf E 0 R ++ (S0.addB post).blks) := by
    rw [← k3]
    obtain ⟨base, nt, ts, gs, bs, fs⟩ := S0
    simp only [St.addB, List.append_assoc, List.nil_append]
  rw [hshape] at g2
  rw [hbl] at g3
  have fin : next (a.put o.dst v) w' := by
    rcases W0.slots j r hr1 with ⟨hdn, hnb⟩ | ⟨t, htd, htn, hkt⟩
    · have hod : o.dst = none := by rw [← hrd]; exact hdn
      rw [hod]
      refine hn ρ' _ w' ?_
      rw [stOf_none hr1 hdn hnb]
      rw [hnb] at g2
      have e : stOf (S0.addB post) R E = ⟨S0.base, S0.nt, tsOf E 0 R ++ S0.tmps, gsOf E 0 R, [] ++ (bsOf E 0 R ++ (S0.addB post).blks), S0.frames⟩ := by obtain ⟨base, nt, ts, gs, bs, fs⟩ := S0; rfl
      rw [e]; exact g2
    · have hod : o.dst = some t := by rw [← hrd]; exact htd
      have hkey : ∀ g ∈ gsOf E 0 R, g.t ≠ t ∧ g.key ≠ t := fun g hg => by
        obtain ⟨i, q, g1, g2, g3, g4, g5⟩ := gsOf_mem.1 hg
        rw [Nat.zero_add] at g2
        have hne : i ≠ j := fun e => by subst e; rw [hjE] at g2; cases g2
        refine ⟨fun e => W.ne j i r q hr1 g1 (Ne.symm hne) t htd (by rw [← e]; exact g3), fun e => ?_⟩
        have him : i < m := by rw [← W.hm]; exact (List.getElem?_eq_some_iff.1 g1).1
        obtain ⟨oi, hoi⟩ := W.op him
        obtain ⟨q', f1, _, _, _, f5, f6⟩ := W.facts i oi him hoi
        rw [g1] at f1; cases f1
        obtain ⟨gg, vv, nn, ⟨k1, _, _⟩, k4⟩ := evD_form f6
        rcases k4 with ⟨_, k5⟩ | ⟨jg, want, oj, key, k5, k6, k7, k8⟩
        · rw [← k1, k5] at g4; cases g4
        · rw [← k1, k8] at g4
          simp only [Option.some.injEq, Prod.mk.injEq] at g4
          obtain ⟨oj', key', l1, l2, l3, _⟩ := f5 jg want k5
          rw [k6] at l1; cases l1
          have hEjg := hE i him g2 jg l3
          have hjgne : jg ≠ j := fun e => by subst e; rw [hjE] at hEjg; cases hEjg
          have hjgm : jg < m := by have := W.ancLt (i + 1) i (by omega) him jg l3; omega
          obtain ⟨rj, r1, _, r3, _⟩ := W.facts jg oj hjgm k6
          refine W.ne jg j rj r r1 hr1 hjgne key (by rw [r3]; exact k7) ?_
          rw [g4.1, e]; exact htd
      have hk0 : (S0.addB post).base = S0.base ∧ (S0.addB post).nt = S0.nt ∧ (S0.addB post).tmps = S0.tmps ∧ (S0.addB post).frames = S0.frames := by obtain ⟨base, nt, ts, gs, bs, fs⟩ := S0; exact ⟨rfl, rfl, rfl, rfl⟩
      rw [hod]
      exact hn ρ' _ w' (sim_add W1 hr1 htd hjE (h := by rw [hk0.1, hk0.2.1, hk0.2.2.1, hk0.2.2.2]; exact g2) (x := v) (by rw [← k1]; rw [← k2]; exact g3) hkey)
  unfold Oper.wp
  rw [hoe, g1]
  rcases g0 with rfl | ⟨rfl, rfl⟩
  · exact fin
  · exact fin

def delIds (ids : List Nat) : List (Nat × Blk) → List (Nat × Blk)
  | [] => []
  | (i, b) :: r => match memN ids i with
    | true => delIds ids r
    | false => (i, b) :: delIds ids r
def pickIds (bs : List (Nat × Blk)) : List Nat → List (Nat × Blk)
  | [] => []
  | i :: r => match look bs i with
    | some b => (i, b) :: pickIds bs r
    | none => pickIds bs r
theorem look_del {ids : List Nat} {i : Nat} : ∀ {bs : List (Nat × Blk)}, look (delIds ids bs) i = if memN ids i = true then none else look bs i
  | [] => by simp [delIds, look]
  | (u, b) :: r => by
    simp only [delIds]
    split
    · rename_i h
      rw [look_del]
      split
      · rfl
      · rename_i h2
        rw [look_other]; intro e; subst e; exact h2 h
    · rename_i h
      by_cases e : u = i
      · subst e
        rw [look_same, h, look_same]; simp
      · rw [look_other e, look_del, look_other e]
theorem look_pick {bs : List (Nat × Blk)} {i : Nat} : ∀ {ids : List Nat}, look (pickIds bs ids) i = if memN ids i = true then look bs i else none
  | [] => by simp [pickIds, look, memN]
  | u :: r => by
    have ih := look_pick (bs := bs) (i := i) (ids := r)
    by_cases e : u = i
    · subst e
      have h1 : memN (u :: r) u = true := by simp [memN]
      simp only [h1, if_true]
      simp only [pickIds]
      cases h : look bs u with
      | some b => exact look_same
      | none => simp only [ih, h]; split <;> rfl
    · have hb : Nat.beq u i = false := by
        cases hb : Nat.beq u i
        · rfl
        · exact absurd (Nat.eq_of_beq_eq_true hb) e
      have h1 : memN (u :: r) i = memN r i := by simp only [memN, hb]
      rw [h1]
      simp only [pickIds]
      split
      · rw [look_other e, ih]
      · exact ih

def S0h (dsts : List (Option Nat)) (ids : List Nat) (S : St) : St := match S with
  | ⟨base, nt, ts, _, bs, fs⟩ => ⟨base, nt, maskT dsts ts, [], delIds ids bs, fs⟩
def efCall (ops : List Oper) (cs : Nat → Option CS) (m : Nat) : Bool := (List.range m).all fun j => match isEf (cs j) && !isApp (cs j), ops[j]? with
  | true, some ⟨_, .call ⟨.value _, _, _⟩, _, _, _, _⟩ => true
  | true, _ => false
  | false, _ => true
theorem efCall_of (h : efCall ops cs m = true) {j : Nat} {o : Oper} (hj : j < m) (h1 : (isEf (cs j) && !isApp (cs j)) = true) (ho : ops[j]? = some o) : ∃ f args tys, o.op = .call ⟨.value f, args, tys⟩ := by
  have := List.all_eq_true.1 h j (by simpa using hj)
  rw [h1, ho] at this
  split at this
  · rename_i h2 ; cases h2; exact ⟨_, _, _, rfl⟩
  · cases this
  · rename_i h2; cases h2


/-! ### Hidden blocks: each is touched by some of the operations alone -/
def pstOf (cs : Nat → Option CS) (j : Nat) : List (Nat × Blk) := match cs j with
  | some (.eff _ _ post _ _) => post
  | some (.app _ _ post) => post
  | _ => []
/-- The hidden blocks where the operations of E below n are done. 'pr': what an operation finds; 'ro': what it finds and leaves. -/
def hid (cs : Nat → Option CS) (pr : Nat → List (Nat × Blk)) (ro : Nat → List Nat) (T0 : List (Nat × Blk)) (E : Nat → Bool) : Nat → List (Nat × Blk)
  | 0 => T0
  | n + 1 => match E n && isEf (cs n) with
    | true => delIds (ro n) (pstOf cs n) ++ delIds (idsB (delIds (ro n) (pr n))) (hid cs pr ro T0 E n)
    | false => hid cs pr ro T0 E n
def tchR (cs : Nat → Option CS) (pr : Nat → List (Nat × Blk)) (j id : Nat) : Bool := isEf (cs j) && (hasB (pr j) id || hasB (pstOf cs j) id)
def tchW (cs : Nat → Option CS) (pr : Nat → List (Nat × Blk)) (ro : Nat → List Nat) (j id : Nat) : Bool := tchR cs pr j id && !memN (ro j) id

theorem memN_idsB : ∀ {T : List (Nat × Blk)} {id : Nat}, memN (idsB T) id = hasB T id
  | [], id => rfl
  | (i, b) :: r, id => by
    have ih := memN_idsB (T := r) (id := id)
    unfold hasB at ih ⊢
    simp only [idsB, memN, look]
    cases hb : Nat.beq i id
    · exact ih
    · rfl
theorem hasB_del {ids : List Nat} {T : List (Nat × Blk)} {id : Nat} : hasB (delIds ids T) id = (hasB T id && !memN ids id) := by
  unfold hasB
  rw [look_del]
  cases memN ids id
  · simp
  · simp
theorem hasB_none {T : List (Nat × Blk)} {id : Nat} (h : hasB T id = false) : look T id = none := look_none_of h
theorem hasB_true {T : List (Nat × Blk)} {id : Nat} {b : Blk} (h : look T id = some b) : hasB T id = true := by simp [hasB, h]
variable {pr : Nat → List (Nat × Blk)} {ro : Nat → List Nat} {T0 : List (Nat × Blk)}

theorem hid_skip {E : Nat → Bool} {n id : Nat} (h : tchW cs pr ro n id = false) : look (hid cs pr ro T0 E (n + 1)) id = look (hid cs pr ro T0 E n) id := by
  simp only [hid]
  split
  · rename_i hb
    simp only [Bool.and_eq_true] at hb
    simp only [tchW, tchR, hb.2, Bool.true_and] at h
    rw [look_append, look_del, look_del, memN_idsB, hasB_del]
    cases hm : memN (ro n) id
    · rw [hm] at h
      simp only [Bool.not_false, Bool.and_true, Bool.or_eq_false_iff] at h
      simp [hasB_none h.2, h.1]
    · simp
  · rfl
theorem hid_congr {E E' : Nat → Bool} {id : Nat} : ∀ {n : Nat}, (∀ i, i < n → tchW cs pr ro i id = true → E i = E' i) → look (hid cs pr ro T0 E n) id = look (hid cs pr ro T0 E' n) id
  | 0, _ => rfl
  | n + 1, h => by
    have ih := hid_congr (n := n) fun i hi => h i (by omega)
    cases ht : tchW cs pr ro n id
    · rw [hid_skip ht, hid_skip ht, ih]
    · have e := h n (by omega) ht
      simp only [hid, e]
      split
      · rw [look_append, look_append, look_del (bs := hid cs pr ro T0 E n), look_del (bs := hid cs pr ro T0 E' n), ih]
      · exact ih
theorem hid_at {E : Nat → Bool} {n id : Nat} (hE : E n = true) (ht : tchW cs pr ro n id = true) : look (hid cs pr ro T0 E (n + 1)) id = look (pstOf cs n) id := by
  simp only [tchW, tchR, Bool.and_eq_true, Bool.not_eq_true'] at ht
  obtain ⟨⟨h1, h2⟩, h3⟩ := ht
  simp only [hid, hE, h1, Bool.and_self]
  rw [look_append, look_del, look_del, memN_idsB, hasB_del, h3]
  simp only [Bool.false_eq_true, if_false, Bool.not_false, Bool.and_true]
  cases hl : look (pstOf cs n) id with
  | some b => rfl
  | none =>
    have : hasB (pstOf cs n) id = false := by simp [hasB, hl]
    rw [this, Bool.or_false] at h2
    rw [h2]; simp
theorem hid_above {E : Nat → Bool} {n id : Nat} : ∀ {d : Nat}, (∀ i, n ≤ i → i < n + d → E i = true → tchW cs pr ro i id = false) → look (hid cs pr ro T0 E (n + d)) id = look (hid cs pr ro T0 E n) id
  | 0, _ => rfl
  | d + 1, h => by
    have ih := hid_above (d := d) fun i h1 h2 => h i h1 (by omega)
    show look (hid cs pr ro T0 E ((n + d) + 1)) id = _
    cases hE : E (n + d)
    · simp only [hid, hE, Bool.false_and]; exact ih
    · rw [hid_skip (h (n + d) (by omega) (by omega) hE)]; exact ih
theorem mem_delIds {ids : List Nat} {p : Nat × Blk} : ∀ {bs : List (Nat × Blk)}, p ∈ delIds ids bs → p ∈ bs
  | [], h => by simp [delIds] at h
  | (u, x) :: r, h => by
    simp only [delIds] at h
    split at h
    · exact List.mem_cons_of_mem _ (mem_delIds h)
    · rcases List.mem_cons.1 h with h | h
      · rw [h]; simp
      · exact List.mem_cons_of_mem _ (mem_delIds h)
theorem hid_mem {E : Nat → Bool} {p : Nat × Blk} : ∀ {n : Nat}, p ∈ hid cs pr ro T0 E n → p ∈ T0 ∨ ∃ k, k < n ∧ E k = true ∧ isEf (cs k) = true ∧ p ∈ pstOf cs k
  | 0, h => .inl h
  | n + 1, h => by
    simp only [hid] at h
    split at h
    · rename_i hb
      simp only [Bool.and_eq_true] at hb
      rcases List.mem_append.1 h with h | h
      · exact .inr ⟨n, by omega, hb.1, hb.2, mem_delIds h⟩
      · rcases hid_mem (mem_delIds h) with h | ⟨k, h1, h2⟩
        · exact .inl h
        · exact .inr ⟨k, by omega, h2⟩
    · rcases hid_mem h with h | ⟨k, h1, h2⟩
      · exact .inl h
      · exact .inr ⟨k, by omega, h2⟩
theorem hid_E {E E' : Nat → Bool} : ∀ {n : Nat}, (∀ i, i < n → isEf (cs i) = true → E i = E' i) → hid cs pr ro T0 E n = hid cs pr ro T0 E' n
  | 0, _ => rfl
  | n + 1, h => by
    have ih := hid_E (n := n) fun i hi => h i (by omega)
    simp only [hid]
    cases hf : isEf (cs n)
    · simp only [Bool.and_false]; exact ih
    · rw [h n (by omega) hf, ih]

/-- No other operation knows of what one makes. -/
def freshG (cs : Nat → Option CS) (pr : Nat → List (Nat × Blk)) (mem : Nat → Nat → Bool) (S0 : St) (R : List Rs) (T0 : List (Nat × Blk)) (m j id : Nat) : Bool :=
  !S0.mentions id && (!mentionsB id T0 && (!mentionsB id (pr j) && ((List.range m).all (fun i => Nat.beq i j || (mem i j || (!isEf (cs i) || !mentionsB id (pstOf cs i)))) &&
    allI (fun i q => Nat.beq i j || (mem i j || (!q.v.mentions id && q.nb.all fun x => !Nat.beq x.1 id && !x.2.mentions id))) 0 R)))
def apartG (cs : Nat → Option CS) (pr : Nat → List (Nat × Blk)) (ro : Nat → List Nat) (i j : Nat) : Bool :=
  (idsB (pr i) ++ idsB (pstOf cs i)).all (fun id => memN (ro i) id || !tchR cs pr j id) && (idsB (pr j) ++ idsB (pstOf cs j)).all (fun id => memN (ro j) id || !tchR cs pr i id)
def oneG (cs : Nat → Option CS) (pr : Nat → List (Nat × Blk)) (ro : Nat → List Nat) (mem : Nat → Nat → Bool) (S0 : St) (R : List Rs) (T0 : List (Nat × Blk)) (m j : Nat) : Bool := match isEf (cs j) with
  | false => true
  | true => verOk S0 R (pr j) && (verOk S0 R (pstOf cs j) && ((List.range j).all (fun i => match isEf (cs i) with
    | false => true
    | true => mem j i || apartG cs pr ro i j) && (idsB (pstOf cs j)).all (fun id => hasB (pr j) id || freshG cs pr mem S0 R T0 m j id)))
def dstG (cs : Nat → Option CS) (pr : Nat → List (Nat × Blk)) (mem : Nat → Nat → Bool) (S0 : St) (R : List Rs) (T0 : List (Nat × Blk)) (ops : List Oper) (m : Nat) : Bool :=
  allI (fun j r => match isApp (cs j), ops[j]?, r.dst with
    | true, some o, some t => isHP o.op || freshG cs pr mem S0 R T0 m j (St.idOf S0.base t)
    | _, _, _ => true) 0 R
def chkG (cs : Nat → Option CS) (pr : Nat → List (Nat × Blk)) (ro : Nat → List Nat) (mem : Nat → Nat → Bool) (S0 : St) (R : List Rs) (T0 : List (Nat × Blk)) (ops : List Oper) (m : Nat) : Bool :=
  verOk S0 R T0 && ((List.range m).all (oneG cs pr ro mem S0 R T0 m) && dstG cs pr mem S0 R T0 ops m)

/-- What each operation finds is what those ahead of it have left. -/
def chainG (P : Program) (cs : Nat → Option CS) (pr : Nat → List (Nat × Blk)) (ro : Nat → List Nat) (T0 : List (Nat × Blk)) (mks : List (List Bool)) : Nat → Prop
  | 0 => True
  | n + 1 => (match cs n with
    | some (.eff res nb post p q) => (∀ g vs, p g vs → EffD P (pr n) g vs res nb post) ∧ (q → LeB (pr n) post) ∧ pickIds (hid cs pr ro T0 (fun i => nthB (nthL mks n) i) n) (idsB (pr n)) = pr n ∧ pickIds post (ro n) = pickIds (pr n) (ro n)
    | some (.app pre _ post) => pre = pr n ∧ pickIds (hid cs pr ro T0 (fun i => nthB (nthL mks n) i) n) (idsB (pr n)) = pr n ∧ pickIds post (ro n) = pickIds (pr n) (ro n)
    | _ => True) ∧ chainG P cs pr ro T0 mks n
theorem chainG_get {mks : List (List Bool)} : ∀ {m : Nat}, chainG P cs pr ro T0 mks m → ∀ {j : Nat}, j < m → match cs j with
    | some (.eff res nb post p q) => (∀ g vs, p g vs → EffD P (pr j) g vs res nb post) ∧ (q → LeB (pr j) post) ∧ pickIds (hid cs pr ro T0 (fun i => nthB (nthL mks j) i) j) (idsB (pr j)) = pr j ∧ pickIds post (ro j) = pickIds (pr j) (ro j)
    | some (.app pre _ post) => pre = pr j ∧ pickIds (hid cs pr ro T0 (fun i => nthB (nthL mks j) i) j) (idsB (pr j)) = pr j ∧ pickIds post (ro j) = pickIds (pr j) (ro j)
    | _ => True
  | m + 1, h, j, hj => by
    by_cases e : j = m
    · subst e; exact h.1
    · exact chainG_get h.2 (by omega)
theorem chainG_pick {mks : List (List Bool)} {m : Nat} (h : chainG P cs pr ro T0 mks m) {j : Nat} (hj : j < m) (hf : isEf (cs j) = true) :
    pickIds (hid cs pr ro T0 (fun i => nthB (nthL mks j) i) j) (idsB (pr j)) = pr j ∧ pickIds (pstOf cs j) (ro j) = pickIds (pr j) (ro j) := by
  have := chainG_get h hj
  rcases isEf_of hf with ⟨res, nb, post, p, q, e⟩ | ⟨pre, res, post, e⟩
  · rw [e] at this
    simp only [pstOf, e]
    exact this.2.2
  · rw [e] at this
    simp only [pstOf, e]
    exact this.2

theorem verOk_T {T : List (Nat × Blk)} (h : verOk S0 R T = true) : (∀ i b, (i, b) ∈ T → hasB S0.blks i = false) ∧ ∀ r ∈ R, ∀ p ∈ r.nb, mentionsB p.1 T = false := by
  simp only [verOk, Bool.and_eq_true] at h
  refine ⟨fun i b hb => by simpa using List.all_eq_true.1 h.1 i (mem_idsB hb), fun r hr p hp => by simpa using List.all_eq_true.1 (List.all_eq_true.1 h.2 r hr) p hp⟩
theorem verOk_mk {T : List (Nat × Blk)} (h1 : ∀ i b, (i, b) ∈ T → hasB S0.blks i = false) (h2 : ∀ r ∈ R, ∀ p ∈ r.nb, mentionsB p.1 T = false) : verOk S0 R T = true := by
  simp only [verOk, Bool.and_eq_true]
  refine ⟨List.all_eq_true.2 fun i hi => ?_, List.all_eq_true.2 fun r hr => List.all_eq_true.2 fun p hp => by simpa using h2 r hr p hp⟩
  have : hasB T i = true := by rw [← memN_idsB]; exact memN_iff.2 hi
  obtain ⟨b, hb⟩ := hasB_of this
  simpa using h1 i b (mem_of_look hb)

def evDrawG (P : Program) (tb : Tb) (cs : Nat → Option CS) (pr : Nat → List (Nat × Blk)) (ro : Nat → List Nat) (mks : List (List Bool)) (m : Nat) (ids : List Nat) (ops : List Oper) (S : St) (K : St → Prop) : Prop :=
  match edgesLt 0 ops with
  | true => stK (S0h ((ops.take m).map (·.dst)) ids S) fun S0 => evM P tb cs ops ((ops.take m).map (·.dst)) S0 (ops.take m) 0 [] [] fun ancs R =>
      match chkAll S0 ancs R && (List.range m).all (fun j => (List.range m).all fun i => nthB (nthL mks j) i == memN (nth ancs j) i) && chkG cs pr ro (fun i j => nthB (nthL mks i) j) S0 R (pickIds S.blks ids) ops m with
      | true => stK (St.addB (stOf S0 R fun _ => true) (hid cs pr ro (pickIds S.blks ids) (fun _ => true) m)) fun S1 => evOps P tb ops (ops.drop m) S1 fun S => S.noGds K
      | false => Stuck "drawn region what is made is named too early"
  | false => Stuck "drawn region its end is not forced"

/-- A REGION WHOSE ORDER GO LEAVES OPEN, with operations that write: what two of them touch that are not in order is apart. -/
theorem draw_ruleG (hT : TOk P tb) (hmx : P.follows .mixedOrders = true) {id : Nat} {opsA : Array Oper} {S : St} {K : St → Prop} (cs : Nat → Option CS) (pr : Nat → List (Nat × Blk)) (ro : Nat → List Nat) (mks : List (List Bool)) (m : Nat) (ls ids : List Nat) (hml : m ≤ opsA.size)
    (hec : efCall opsA.toList cs m = true) (hfa : ForcedA m ls opsA.toList) (hdc : dstChk opsA.toList cs m = true) (hch : chainG P cs pr ro (pickIds S.blks ids) mks m)
    (hls : ∀ i ∈ ls, ∃ t s k, Light opsA i t s k ∧ ∀ j o, opsA[j]? = some o → j ≠ i → i ∈ edgesOf o.after.toList ∨ (∃ oi, opsA[i]? = some oi ∧ j ∈ edgesOf oi.after.toList) ∨ Comm opsA t s o)
    (h : evDrawG P tb cs pr ro mks m ids opsA.toList S K) : DrawP P id opsA S K := by
  refine ⟨fun B w0 F ρ a w hs => ?_⟩
  unfold evDrawG at h
  split at h
  case h_2 => exact h.no.elim
  rename_i hfe
  rw [stK_eq] at h
  obtain ⟨A, R, h1, h2, _, _, h5, h6⟩ := evM_facts _ 0 _ _ _ rfl rfl h
  split at h5
  case h_2 => exact h5.no.elim
  rename_i hchk
  simp only [Bool.and_eq_true] at hchk
  obtain ⟨⟨hchk, hmk⟩, hg⟩ := hchk
  rw [stK_eq] at h5
  generalize hT0 : pickIds S.blks ids = T0 at *
  have hS0 : S0h ((opsA.toList.take m).map (·.dst)) ids S = S0of ((opsA.toList.take m).map (·.dst)) ⟨S.base, S.nt, S.tmps, S.gds, delIds ids S.blks, S.frames⟩ := by
    obtain ⟨base, nt, ts, gs, bs, fs⟩ := S; rfl
  rw [hS0] at h5 h6 hchk hg
  have W := walked_of (by simpa using h2) (by simpa using hml) h6 hfe hchk
  generalize hs0 : S0of ((opsA.toList.take m).map (·.dst)) (⟨S.base, S.nt, S.tmps, S.gds, delIds ids S.blks, S.frames⟩ : St) = S0 at *
  -- what was checked
  have hmk : ∀ {j i : Nat}, j < m → i < m → (nthB (nthL mks j) i = true ↔ i ∈ nth A j) := fun {j i} hj hi => by
    have := List.all_eq_true.1 (List.all_eq_true.1 hmk j (by simpa using hj)) i (by simpa using hi)
    rw [beq_iff_eq.1 this]
    exact memN_iff
  simp only [chkG, Bool.and_eq_true] at hg
  obtain ⟨hv0, hone, hdst⟩ := hg
  have hone : ∀ {j : Nat}, j < m → isEf (cs j) = true → verOk S0 R (pr j) = true ∧ verOk S0 R (pstOf cs j) = true ∧ (∀ i, i < j → isEf (cs i) = true → i ∈ nth A j ∨ apartG cs pr ro i j = true) ∧
      ∀ id, hasB (pstOf cs j) id = true → hasB (pr j) id = false → freshG cs pr (fun i j => nthB (nthL mks i) j) S0 R T0 m j id = true := fun {j} hj hf => by
    have := List.all_eq_true.1 hone j (by simpa using hj)
    simp only [oneG, hf, Bool.and_eq_true] at this
    obtain ⟨k1, k2, k3, k4⟩ := this
    refine ⟨k1, k2, fun i hi hfi => ?_, fun id h1 h2 => ?_⟩
    · have := List.all_eq_true.1 k3 i (by simpa using hi)
      rw [hfi] at this
      simp only [Bool.or_eq_true] at this
      exact this.imp (fun h => (hmk hj (by omega)).1 h) fun h => h
    · have := List.all_eq_true.1 k4 id (by obtain ⟨b, hb⟩ := hasB_of h1; exact mem_idsB (mem_of_look hb))
      rw [h2, Bool.false_or] at this
      exact this
  have hsym : ∀ {i j : Nat}, i < m → j < m → i ≠ j → isEf (cs i) = true → isEf (cs j) = true → i ∈ nth A j ∨ j ∈ nth A i ∨ apartG cs pr ro i j = true := fun {i j} hi hj hne hfi hfj => by
    rcases Nat.lt_or_gt_of_ne hne with hlt | hgt
    · exact ((hone hj hfj).2.2.1 i hlt hfi).imp (fun h => h) fun h => .inr h
    · rcases (hone hi hfi).2.2.1 j hgt hfj with h | h
      · exact .inr (.inl h)
      · refine .inr (.inr ?_)
        simp only [apartG, Bool.and_eq_true] at h ⊢
        exact ⟨h.2, h.1⟩
  have hidsR : ∀ {j id : Nat}, tchR cs pr j id = true → id ∈ idsB (pr j) ++ idsB (pstOf cs j) := fun {j id} h => by
    simp only [tchR, Bool.and_eq_true, Bool.or_eq_true] at h
    rcases h.2 with h | h
    · exact List.mem_append_left _ (memN_iff.1 (by rw [memN_idsB]; exact h))
    · exact List.mem_append_right _ (memN_iff.1 (by rw [memN_idsB]; exact h))
  have hapart : ∀ {i j id : Nat}, apartG cs pr ro i j = true → (tchW cs pr ro i id = true → tchR cs pr j id = false) ∧ (tchW cs pr ro j id = true → tchR cs pr i id = false) := fun {i j id} h => by
    simp only [apartG, Bool.and_eq_true] at h
    constructor
    · intro hw
      simp only [tchW, Bool.and_eq_true, Bool.not_eq_true'] at hw
      have := List.all_eq_true.1 h.1 id (hidsR hw.1)
      rw [hw.2, Bool.false_or] at this
      simpa using this
    · intro hw
      simp only [tchW, Bool.and_eq_true, Bool.not_eq_true'] at hw
      have := List.all_eq_true.1 h.2 id (hidsR hw.1)
      rw [hw.2, Bool.false_or] at this
      simpa using this
  have htEf : ∀ {j id : Nat}, tchR cs pr j id = true → isEf (cs j) = true := fun {j id} h => by
    simp only [tchR, Bool.and_eq_true] at h; exact h.1
  have htWR : ∀ {j id : Nat}, tchW cs pr ro j id = true → tchR cs pr j id = true := fun {j id} h => by
    simp only [tchW, Bool.and_eq_true] at h; exact h.1
  have hidOk : ∀ E : Nat → Bool, verOk S0 R (hid cs pr ro T0 E m) = true := fun E => by
    have a0 := verOk_T hv0
    refine verOk_mk (fun i b hb => ?_) fun r hr p hp => mentionsB_all.2 fun q hq => ?_
    · rcases hid_mem hb with h | ⟨k, hk, _, hf, h⟩
      · exact a0.1 i b h
      · exact (verOk_T (hone hk hf).2.1).1 i b h
    · rcases hid_mem hq with h | ⟨k, hk, _, hf, h⟩
      · exact mentionsB_all.1 (a0.2 r hr p hp) q h
      · exact mentionsB_all.1 ((verOk_T (hone hk hf).2.1).2 r hr p hp) q h
  have hdrew : Pure w { w with drawn := w.drawn + 1 } := ⟨rfl, rfl, rfl, Nat.le_refl _, fun _ _ => rfl⟩
  have hE0 : (fun i => (Array.replicate opsA.size false).getD i false) = fun _ => false := by
    funext i; rw [Array.getD_eq_getD_getElem?, Array.getElem?_replicate]; split <;> rfl
  have hhid0 : hid cs pr ro T0 (fun _ => false) m = T0 := by
    have key : ∀ n, hid cs pr ro T0 (fun _ => false) n = T0 := fun n => by
      induction n with
      | zero => rfl
      | succ n ih => simp only [hid, Bool.false_and]; exact ih
    exact key m
  have hst0 : stOf (S0.addB T0) R (fun _ => false) = S0.addB T0 := by
    have hg : (S0.addB T0).gds = [] := by rw [← hs0]; rfl
    generalize S0.addB T0 = S1 at hg
    obtain ⟨base, nt, ts, gs, bs, fs⟩ := S1
    dsimp only at hg
    subst hg
    obtain ⟨g1, g2, g3⟩ := tsOf_false (E := fun _ => false) (R := R) (i0 := 0) (fun _ _ => rfl)
    unfold stOf
    rw [g1, g2, g3]; rfl
  have hsim0 : Sim P B w0 F ρ (stOf (S0.addB T0) R fun _ => false) a { w with drawn := w.drawn + 1 } := by
    rw [hst0, ← hs0, ← hT0]
    have := hs.pure hdrew
    obtain ⟨base, nt, ts, gs, bs, fs⟩ := S
    refine this.congr (fun t v hv => maskT_some hv) (fun g hg => by simp at hg) (fun i b => ?_)
    show look (delIds ids bs ++ pickIds bs ids) i = some b ↔ _
    rw [look_append, look_del, look_pick]
    split <;> simp
  refine wp_mono (Q := fun e a' w' => ∃ ρ' S', Sim P B w0 F ρ' S' a' w' ∧ e = .normal ∧ S'.noGds K) (wp_region_any hmx ?_) (fun e a' w' h => by
    obtain ⟨ρ', S', g1, g2, g3⟩ := h
    obtain ⟨S'', g4, g5⟩ := noGds_sound g1 g3
    exact ⟨ρ', S'', g4, g2, g5⟩)
  have hun : unl (Array.replicate opsA.size false) = opsA.size := by
    simp [unl, List.countP_replicate]
  refine any_MG W hfa hfe (fun e a w ⟨_, S', _, h⟩ => h.1) (fun E a w => ∃ ρ, Sim P B w0 F ρ (stOf (S0.addB (hid cs pr ro T0 E m)) R E) a w) hls ?_ ?_
    opsA.size (Array.replicate opsA.size false) (by simp) hun (fun i hi => by rw [congrFun hE0 i] at hi; cases hi) (by rw [hE0]; exact fun i _ hi => by cases hi) a { w with drawn := w.drawn + 1 }
    ⟨ρ, by rw [hE0, hhid0]; exact hsim0⟩
  · rintro E j o hc hj hjE ho hr a w ⟨ρ, h⟩ next hn
    have hin := W.ancIn hc hj ho hr
    by_cases hjf : isEf (cs j) = true
    · obtain ⟨v1, v2, _, v4⟩ := hone hj hjf
      obtain ⟨pk, pkr⟩ := chainG_pick hch hj hjf
      -- those that come later know nothing of what this one touches
      have later : ∀ {i id : Nat}, i < m → i ≠ j → E i = true → tchW cs pr ro i id = true → tchR cs pr j id = true → i < j ∧ i ∈ nth A j := fun {i id} hi hne hEi hw hr' => by
        rcases hsym hi hj hne (htEf (htWR hw)) hjf with h | h | h
        · exact ⟨W.ancLt (j + 1) j (by omega) hj i h, h⟩
        · have := hc i hi hEi j h; rw [hjE] at this; cases this
        · have := (hapart (id := id) h).1 hw; rw [hr'] at this; cases this
      have atj : ∀ {id : Nat}, tchR cs pr j id = true → look (hid cs pr ro T0 E m) id = look (hid cs pr ro T0 (fun i => nthB (nthL mks j) i) j) id := fun {id} ht => by
        obtain ⟨d, hd⟩ := Nat.exists_eq_add_of_le (Nat.le_of_lt hj)
        rw [hd, hid_above fun i h1 h2 h3 => ?_, hid_congr fun i h1 h2 => ?_]
        · rcases hsym (by omega) hj (by omega) (htEf (htWR h2)) hjf with h | h | h
          · rw [hin i h, (hmk hj (by omega)).2 h]
          · have := W.ancLt (i + 1) i (by omega) (by omega) j h; omega
          · have := (hapart (id := id) h).1 h2; rw [ht] at this; cases this
        · cases hw : tchW cs pr ro i id
          · rfl
          · have hne : i ≠ j := fun e => by subst e; rw [hjE] at h3; cases h3
            have := (later (by omega) hne h3 hw ht).1; omega
      have lookpr : ∀ {id : Nat}, hasB (pr j) id = true → look (hid cs pr ro T0 E m) id = look (pr j) id := fun {id} hb => by
        rw [atj (by simp only [tchR, hjf, hb, Bool.true_or, Bool.and_self])]
        have := congrArg (fun T => look T id) pk
        simp only [look_pick, memN_idsB, hb, if_true] at this
        exact this
      have fresh : ∀ {id : Nat}, freshG cs pr (fun i j => nthB (nthL mks i) j) S0 R T0 m j id = true → S0.mentions id = false ∧ mentionsB id (pr j) = false ∧ mentionsB id (hid cs pr ro T0 E m) = false ∧
          ∀ i q, R[i]? = some q → i ≠ j → j ∉ nth A i → q.v.mentions id = false ∧ ∀ x ∈ q.nb, x.1 ≠ id ∧ x.2.mentions id = false := fun {id} hf => by
        simp only [freshG, Bool.and_eq_true, Bool.not_eq_true'] at hf
        obtain ⟨f1, f2, f3, f4, f5⟩ := hf
        have nb : ∀ {i : Nat}, i ≠ j → Nat.beq i j = false := fun {i} h => by
          cases hb : Nat.beq i j
          · rfl
          · exact absurd (Nat.eq_of_beq_eq_true hb) h
        refine ⟨f1, f3, mentionsB_all.2 fun p hp => ?_, fun i q hi hne hnot => ?_⟩
        · rcases hid_mem hp with h | ⟨k, hk, hEk, hfk, h⟩
          · exact mentionsB_all.1 f2 p h
          · have hne : k ≠ j := fun e => by subst e; rw [hjE] at hEk; cases hEk
            have hnm : nthB (nthL mks k) j = false := by
              cases hb : nthB (nthL mks k) j
              · rfl
              · have := hc k hk hEk j ((hmk hk hj).1 hb); rw [hjE] at this; cases this
            have := List.all_eq_true.1 f4 k (by simpa using hk)
            rw [nb hne, hnm, hfk] at this
            simp only [Bool.not_true, Bool.false_or, Bool.not_eq_true'] at this
            exact mentionsB_all.1 this p h
        · have hi' : i < m := by rw [← W.hm]; exact (List.getElem?_eq_some_iff.1 hi).1
          have hnm : nthB (nthL mks i) j = false := by
            cases hb : nthB (nthL mks i) j
            · rfl
            · exact absurd ((hmk hi' hj).1 hb) hnot
          have := allI_spec f5 i q hi
          rw [Nat.zero_add, nb hne, hnm] at this
          simp only [Bool.false_or, Bool.and_eq_true, Bool.not_eq_true'] at this
          refine ⟨this.1, fun x hx => ?_⟩
          have := List.all_eq_true.1 this.2 x hx
          simp only [Bool.and_eq_true, Bool.not_eq_true'] at this
          exact ⟨fun e => by rw [e] at this; simp at this, this.2⟩
      have none_of : ∀ {id : Nat} {T : List (Nat × Blk)}, mentionsB id T = false → look T id = none := fun {id T} hm => by
        cases hl : look T id with
        | none => rfl
        | some b => exact absurd rfl (mentionsB_all.1 hm _ (mem_of_look hl)).1
      have looknew : ∀ {id : Nat}, hasB (pstOf cs j) id = true → hasB (pr j) id = false → look (hid cs pr ro T0 E m) id = none := fun {id} h1 h2 => none_of (fresh (v4 id h1 h2)).2.2.1
      -- the others
      generalize hrest : delIds (idsB (pr j) ++ idsB (pstOf cs j)) (hid cs pr ro T0 E m) = rest
      have lookrest : ∀ id, look rest id = if tchR cs pr j id = true then none else look (hid cs pr ro T0 E m) id := fun id => by
        rw [← hrest, look_del]
        have : memN (idsB (pr j) ++ idsB (pstOf cs j)) id = tchR cs pr j id := by
          rw [Bool.eq_iff_iff, memN_iff]
          refine ⟨fun h => ?_, hidsR⟩
          simp only [tchR, hjf, Bool.true_and, Bool.or_eq_true]
          exact (List.mem_append.1 h).imp (fun h => by rw [← memN_idsB]; exact memN_iff.2 h) fun h => by rw [← memN_idsB]; exact memN_iff.2 h
        rw [this]
      have memrest : ∀ p ∈ rest, p ∈ hid cs pr ro T0 E m := fun p hp => by rw [← hrest] at hp; exact mem_delIds hp
      have hvr := verOk_T (hidOk E)
      have hresT : ∀ r ∈ R, ∀ p ∈ r.nb, mentionsB p.1 rest = false := fun r hr p hp => mentionsB_all.2 fun q hq => mentionsB_all.1 (hvr.2 r hr p hp) q (memrest q hq)
      have W' := W.more hresT
      have hadd : ∀ T, (S0.addB rest).addB T = S0.addB (rest ++ T) := fun T => by
        obtain ⟨base, nt, ts, gs, bs, fs⟩ := S0; simp only [St.addB, List.append_assoc]
      have hblr : (S0.addB rest).blks = S0.blks ++ rest := by obtain ⟨base, nt, ts, gs, bs, fs⟩ := S0; rfl
      have vok : ∀ T, verOk S0 R T = true → (∀ i b, (i, b) ∈ T → tchR cs pr j i = true) → verOk (S0.addB rest) R T = true := fun T hT ht => by
        have k := verOk_T hT
        refine verOk_mk (fun i b hb => ?_) k.2
        have h1 := k.1 i b hb
        have h2 := lookrest i
        rw [ht i b hb, if_pos rfl] at h2
        unfold hasB at h1 ⊢
        rw [hblr, look_append, h2]
        simpa using h1
      have hvp := vok _ v1 fun i b hb => by
        have := hasB_true (look_of_mem' hb).choose_spec
        simp only [tchR, hjf, this, Bool.true_or, Bool.and_self]
      have hvq := vok _ v2 fun i b hb => by
        have := hasB_true (look_of_mem' hb).choose_spec
        simp only [tchR, hjf, this, Bool.or_true, Bool.and_self]
      have e1 : ∀ id, look (rest ++ pr j) id = look (hid cs pr ro T0 E m) id := fun id => by
        rw [look_append, lookrest]
        cases ht : tchR cs pr j id
        · simp only [Bool.false_eq_true, if_false]
          have : hasB (pr j) id = false := by
            simp only [tchR, hjf, Bool.true_and, Bool.or_eq_false_iff] at ht; exact ht.1
          rw [hasB_none this]; simp
        · simp only [if_true, Option.none_or]
          cases hp : hasB (pr j) id
          · rw [hasB_none hp]
            simp only [tchR, hjf, Bool.true_and, hp, Bool.false_or] at ht
            exact (looknew ht hp).symm
          · exact (lookpr hp).symm
      have e2 : ∀ id, look (rest ++ pstOf cs j) id = look (hid cs pr ro T0 (Eadd E j) m) id := fun id => by
        rw [look_append, lookrest]
        have hne : ∀ {i : Nat}, i ≠ j → Eadd E j i = E i := fun {i} h => by
          simp only [Eadd]
          cases hb : Nat.beq i j
          · simp
          · exact absurd (Nat.eq_of_beq_eq_true hb) h
        cases ht : tchR cs pr j id
        · simp only [Bool.false_eq_true, if_false]
          have : hasB (pstOf cs j) id = false := by
            simp only [tchR, hjf, Bool.true_and, Bool.or_eq_false_iff] at ht; exact ht.2
          rw [hasB_none this, Option.or_none]
          refine hid_congr fun i hi hw => ?_
          by_cases e : i = j
          · subst e; rw [htWR hw] at ht; cases ht
          · rw [hne e]
        · simp only [if_true, Option.none_or]
          cases hw : tchW cs pr ro j id
          · -- it is found and left
            have hro : memN (ro j) id = true := by
              simp only [tchW, ht, Bool.true_and, Bool.not_eq_false'] at hw; exact hw
            have h1 : look (hid cs pr ro T0 (Eadd E j) m) id = look (hid cs pr ro T0 E m) id := hid_congr fun i hi hw' => by
              by_cases e : i = j
              · subst e; rw [hw'] at hw; cases hw
              · rw [hne e]
            rw [h1]
            have h2 := congrArg (fun T => look T id) pkr
            simp only [look_pick, hro, if_true] at h2
            rw [h2]
            cases hp : hasB (pr j) id
            · simp only [tchR, hjf, Bool.true_and, hp, Bool.false_or] at ht
              rw [hasB_none hp, looknew ht hp]
            · exact (lookpr hp).symm
          · obtain ⟨d, hd⟩ := Nat.exists_eq_add_of_le (show j + 1 ≤ m from hj)
            rw [hd, hid_above fun i h1 h2 h3 => ?_, hid_at (by rw [Eadd_iff]; exact .inr rfl) hw]
            cases hwi : tchW cs pr ro i id
            · rfl
            · have hne' : i ≠ j := by omega
              rw [hne hne'] at h3
              have := (later (by omega) hne' h3 hwi ht).1; omega
      have hsim : Sim P B w0 F ρ (stOf ((S0.addB rest).addB (pr j)) R E) a w := by
        rw [hadd, stOf_addB]
        rw [stOf_addB] at h
        exact h.congr (fun _ _ h => h) (fun _ h => h) fun i b => by rw [look_append, look_append S0.blks, e1, look_append (bsOf E 0 R), look_append S0.blks]
      have hnext : ∀ ρ' a' w', Sim P B w0 F ρ' (stOf ((S0.addB rest).addB (pstOf cs j)) R (Eadd E j)) a' w' → next a' w' := fun ρ' a' w' h' => by
        refine hn a' w' ⟨ρ', ?_⟩
        rw [hadd, stOf_addB] at h'
        rw [stOf_addB]
        exact h'.congr (fun _ _ h => h) (fun _ h => h) fun i b => by rw [look_append (bsOf (Eadd E j) 0 R), look_append S0.blks, ← e2, look_append (bsOf (Eadd E j) 0 R), look_append S0.blks]
      have hment : ∀ {id : Nat}, freshG cs pr (fun i j => nthB (nthL mks i) j) S0 R T0 m j id = true → (S0.addB rest).mentions id = false ∧ mentionsB id (pr j) = false ∧ ∀ i q, R[i]? = some q → i ≠ j → j ∉ nth A i → q.v.mentions id = false ∧ ∀ x ∈ q.nb, x.1 ≠ id ∧ x.2.mentions id = false := fun {id} hf => by
        obtain ⟨f1, f2, f3, f4⟩ := fresh hf
        refine ⟨?_, f2, f4⟩
        obtain ⟨m1, m2, m3, m4⟩ := St.mentions_parts f1
        obtain ⟨base, nt, ts, gs, bs, fs⟩ := S0
        refine St.mentions_mk m1 m2 (mentionsB_all.2 fun p hp => ?_) m4
        rcases List.mem_append.1 hp with hp | hp
        · exact mentionsB_all.1 m3 p hp
        · exact mentionsB_all.1 f3 p (memrest p hp)
      have hcg := chainG_get hch hj
      rcases isEf_of hjf with ⟨res, nb, post, p, q, hh⟩ | ⟨pre, res, post, hh⟩
      · rw [hh] at hcg
        obtain ⟨hp, hq, _⟩ := hcg
        have hpst : pstOf cs j = post := by simp only [pstOf, hh]
        rw [hpst] at hvq hnext v4
        refine draw_step_eff W' rfl hvp hvq hc hj hjE ho hh hp hq (fun id k1 k2 => ?_) (dstChk_of hdc hj ho (by rw [hh]; rfl)) hr hsim hnext _ (efCall_of hec hj (by rw [hh]; rfl) ho)
        obtain ⟨f1, f2, f3⟩ := hment (v4 id k1 k2)
        have W2 := W'.more (verOk_T hvp).2
        refine ment_id W2 hc hjE ?_ f3
        obtain ⟨m1, m2, m3, m4⟩ := St.mentions_parts f1
        generalize S0.addB rest = S9 at m1 m2 m3 m4
        obtain ⟨base, nt, ts, gs, bs, fs⟩ := S9
        refine St.mentions_mk m1 m2 (mentionsB_all.2 fun p hp => ?_) m4
        rcases List.mem_append.1 hp with hp | hp
        · exact mentionsB_all.1 m3 p hp
        · exact mentionsB_all.1 f2 p hp
      · rw [hh] at hcg
        obtain ⟨rfl, _⟩ := hcg
        have hpst : pstOf cs j = post := by simp only [pstOf, hh]
        rw [hpst] at hvq hnext
        refine draw_step_app hT W' rfl hvp hvq hc hj hjE ho hh (fun t ht hhp => ?_) hr hsim hnext _
        obtain ⟨r, hr1, _, hrd, _⟩ := W.facts j o hj ho
        have := allI_spec hdst j r hr1
        have hap : isApp (cs j) = true := by rw [hh]; rfl
        rw [Nat.zero_add, hap, ho, hrd, ht] at this
        dsimp only at this
        rw [hhp, Bool.false_or] at this
        have hb : (S0.addB rest).base = S0.base := by obtain ⟨base, nt, ts, gs, bs, fs⟩ := S0; rfl
        rw [hb]
        exact hment this
    · have hjf' : isEf (cs j) = false := by cases hx : isEf (cs j) <;> simp_all
      refine draw_step hT (W.more (verOk_T (hidOk E)).2) rfl hc hj hjE ho hjf' (dstChk_of hdc hj ho (isEf_app hjf')) hr h (fun ρ' a' w' h' => hn a' w' ⟨ρ', ?_⟩) _
      have : hid cs pr ro T0 (Eadd E j) m = hid cs pr ro T0 E m := hid_E fun i hi hf => by
        have : i ≠ j := fun e => hjf (e ▸ hf)
        rw [Bool.eq_iff_iff, Eadd_iff]; simp [this]
      rw [this]; exact h'
  · rintro E a w hall ⟨ρ, h⟩
    rw [stOf_congr (E' := fun _ => true) (fun i hi => hall i (by rw [← W.hm]; exact hi)), hid_E (E' := fun _ => true) (fun i hi _ => hall i hi), stOf_add_all] at h
    refine evOps_sound hT opsA (fun e S' => e = .normal ∧ S'.noGds K) F _ (opsA.toList.drop m) (by simp) (fun i k hk => ?_) _ ρ a w h (by simpa using h5)
    rw [List.getElem?_eq_some_iff] at hk
    obtain ⟨_, hk⟩ := hk
    simp at hk
    subst hk
    simp

/-- What is left to check stands by itself: it is computed apart from the walk. -/
noncomputable def evDrawH (P : Program) (tb : Tb) (cs : Nat → Option CS) (pr : Nat → List (Nat × Blk)) (ro : Nat → List Nat) (m : Nat) (mks : List (List Bool)) (ids : List Nat) (ops : List Oper) (S : St) (K : St → Prop) : Prop :=
  stK (S0h ((ops.take m).map (·.dst)) ids S) fun S0 => evMF P tb cs ops S0 (ops.take m) mks 0 [] fun R =>
      (chkDynM S0 mks R && chkG cs pr ro (fun i j => nthB (nthL mks i) j) S0 R (pickIds S.blks ids) ops m) = true ∧
      stK (St.addB (stM S0 R (List.replicate m true)) (hid cs pr ro (pickIds S.blks ids) (fun _ => true) m)) fun S1 => evOps P tb ops (ops.drop m) S1 fun S => S.noGds K

theorem draw_gk (hT : TOk P tb) (hmx : P.follows .mixedOrders = true) {id : Nat} {opsA : Array Oper} {S : St} {K : St → Prop} (cs : Nat → Option CS) (pr : Nat → List (Nat × Blk)) (ro : Nat → List Nat) (m : Nat) (ls : List Nat) (mks mkt : List (List Bool)) (ids : List Nat) (hml : m ≤ opsA.size)
    (hec : (efCall opsA.toList cs m && dstChk opsA.toList cs m) = true) (hch : chainG P cs pr ro (pickIds S.blks ids) mks m) (hst : statOkL m ls opsA.toList mks mkt = true) (h : evDrawH P tb cs pr ro m mks ids opsA.toList S K) : DrawP P id opsA S K := by
  simp only [statOkL, Bool.and_eq_true] at hst
  obtain ⟨⟨hf1, hf2, hf3, he, hl0⟩, hl, hs2, hd⟩ := hst
  simp only [Bool.and_eq_true] at hec
  refine draw_ruleG hT hmx cs pr ro mks m ls ids hml hec.1 (forcedM_ok hf1 hf2 (Nat.eq_of_beq_eq_true hf3)) hec.2 hch (fun i hi => lightOk_ok (List.all_eq_true.1 hl0 i hi)) ?_
  have hl := Nat.eq_of_beq_eq_true hl
  obtain ⟨hs, hA⟩ := statGo2_ok (opsA.toList.take m) mks [] [] 0 hs2 rfl rfl (fun i k => rfl)
  unfold evDrawG
  simp only [he]
  unfold evDrawH at h
  rw [stK_eq] at h ⊢
  have hlen : (opsA.toList.take m).length = m := by simp; omega
  have hA' : ∀ i k, nthB (nthL mks i) k = memN (nth (ancsGo (opsA.toList.take m) []) i) k := fun i k => by
    have := hA i k
    rwa [List.nil_append, hlen, List.take_of_length_le (by omega)] at this
  have hchk : ∀ S0 R, chkDynM S0 mks R = chkDyn S0 (ancsGo (opsA.toList.take m) []) R := fun S0 R => by
    simp only [chkDynM, chkDyn, hA']
  have hmk : (List.range m).all (fun j => (List.range m).all fun i => nthB (nthL mks j) i == memN (nth (ancsGo (opsA.toList.take m) []) j) i) = true :=
    List.all_eq_true.2 fun j _ => List.all_eq_true.2 fun i _ => by rw [hA']; simp
  have key := evMF_eq (P := P) (tb := tb) (cs := cs) (ops := opsA.toList) (dsts := (opsA.toList.take m).map (·.dst)) (S0 := S0h ((opsA.toList.take m).map (·.dst)) ids S)
    (K := fun A R => match chkAll (S0h ((opsA.toList.take m).map (·.dst)) ids S) A R && (List.range m).all (fun j => (List.range m).all fun i => nthB (nthL mks j) i == memN (nth A j) i) && chkG cs pr ro (fun i j => nthB (nthL mks i) j) (S0h ((opsA.toList.take m).map (·.dst)) ids S) R (pickIds S.blks ids) opsA.toList m with
      | true => stK (St.addB (stOf (S0h ((opsA.toList.take m).map (·.dst)) ids S) R fun _ => true) (hid cs pr ro (pickIds S.blks ids) (fun _ => true) m)) fun S1 => evOps P tb opsA.toList (opsA.toList.drop m) S1 fun S => S.noGds K
      | false => Stuck "drawn region what is made is named too early")
    (K' := fun R => (chkDynM (S0h ((opsA.toList.take m).map (·.dst)) ids S) mks R && chkG cs pr ro (fun i j => nthB (nthL mks i) j) (S0h ((opsA.toList.take m).map (·.dst)) ids S) R (pickIds S.blks ids) opsA.toList m) = true ∧
      stK (St.addB (stM (S0h ((opsA.toList.take m).map (·.dst)) ids S) R (List.replicate m true)) (hid cs pr ro (pickIds S.blks ids) (fun _ => true) m)) fun S1 => evOps P tb opsA.toList (opsA.toList.drop m) S1 fun S => S.noGds K) (D := (opsA.toList.take m).map (·.dst)) (opsA.toList.take m) mks 0 [] [] hs rfl (by simp) (fun R' hR' => by
        rw [hchk, hmk, Bool.and_true, ← chkDyn_eq hR' hd, stM_eq (E := fun _ => true) fun i hi => nthB_rep ?_]
        · cases (chkDyn (S0h ((opsA.toList.take m).map (·.dst)) ids S) (ancsGo (opsA.toList.take m) []) R' && chkG cs pr ro (fun i j => nthB (nthL mks i) j) (S0h ((opsA.toList.take m).map (·.dst)) ids S) R' (pickIds S.blks ids) opsA.toList m)
          · exact propext ⟨fun h => Bool.noConfusion h.1, fun h => (Stuck.no h).elim⟩
          · exact propext ⟨fun h => h.2, fun h => ⟨rfl, h⟩⟩
        · have := congrArg List.length hR'
          simp at this
          omega)
  exact Eq.mp key h

theorem chainG_nil {mks : List (List Bool)} : chainG P cs pr ro T0 mks 0 := trivial
theorem chainG_pure {mks : List (List Bool)} (h : isEf (cs m) = false) (k : chainG P cs pr ro T0 mks m) : chainG P cs pr ro T0 mks (m + 1) := by
  refine ⟨?_, k⟩
  split
  · rename_i h1; rw [h1] at h; cases h
  · rename_i h1; rw [h1] at h; cases h
  · trivial
theorem chainG_app {mks : List (List Bool)} {pre post : List (Nat × Blk)} {res : V} (h : cs m = some (.app pre res post)) (h1 : pre = pr m) (h2 : pickIds (hid cs pr ro T0 (fun i => nthB (nthL mks m) i) m) (idsB (pr m)) = pr m) (h3 : pickIds post (ro m) = pickIds (pr m) (ro m))
    (k : chainG P cs pr ro T0 mks m) : chainG P cs pr ro T0 mks (m + 1) := by
  refine ⟨?_, k⟩
  rw [h]; exact ⟨h1, h2, h3⟩
theorem chainG_eff {mks : List (List Bool)} {res : V} {nb post : List (Nat × Blk)} {p : FuncId → List V → Prop} {q : Prop} (h : cs m = some (.eff res nb post p q)) (h1 : ∀ g vs, p g vs → EffD P (pr m) g vs res nb post) (h2 : q → LeB (pr m) post)
    (h3 : pickIds (hid cs pr ro T0 (fun i => nthB (nthL mks m) i) m) (idsB (pr m)) = pr m) (h4 : pickIds post (ro m) = pickIds (pr m) (ro m)) (k : chainG P cs pr ro T0 mks m) : chainG P cs pr ro T0 mks (m + 1) := by
  refine ⟨?_, k⟩
  rw [h]; exact ⟨h1, h2, h3, h4⟩

end Go.Ab
namespace Go.Ab
open Go.RowKit
variable {P : Program} {tb : Tb} {w : World} {ow : Nat → Prop} {ρ : Env} {a : Act} {B : Bd} {w0 : World} {F : List (Array Value)} {S : St}

def frzSt : List Nat → St → (St → Prop) → Prop
  | [], S, K => K S
  | id :: r, ⟨base, nt, ts, gs, bs, fs⟩, K => match look bs id with
    | some (.arr _ _ _ row) => forceT (frzT id row ts) fun ts => forceG (frzG id row gs) fun gs => forceB (frzB id row bs) fun bs => forceF (frzF id row fs) fun fs => frzSt r ⟨base, nt, ts, gs, bs, fs⟩ K
    | _ => Stuck "freeze no such row"
theorem drawFz {id : Nat} {opsA : Array Oper} {K : St → Prop} : ∀ (l : List Nat) {S : St}, frzSt l S (fun S => DrawP P id opsA S K) → DrawP P id opsA S K
  | [], _, h => h
  | i :: r, ⟨base, nt, ts, gs, bs, fs⟩, h => by
    simp only [frzSt] at h
    split at h
    · rename_i row hb
      rw [forceT_eq, forceG_eq, forceB_eq, forceF_eq] at h
      have h1 := drawFz r h
      exact ⟨fun B w0 F ρ a w hs => h1.out B w0 F ρ a w (hs.frz hb).1⟩
    · exact h.no.elim

/-- Blocks that say no more. -/
theorem sim_leB {L : List (Nat × Blk)} (h : Sim P B w0 F ρ S a w) (lk : ∀ i b, look L i = some b → ∃ c, look S.blks i = some c ∧ BLe c b) : Sim P B w0 F ρ ⟨S.base, S.nt, S.tmps, S.gds, L, S.frames⟩ a w := by
  have hown : ∀ b, own L ρ b → own S.blks ρ b := by
    rintro b ⟨i, k, hk, hp, rfl⟩
    obtain ⟨c, hc, _⟩ := lk i k hk
    exact ⟨i, c, hc, hp, rfl⟩
  have keep : Keep w (ownZ B S.blks ρ) w (ownZ B L ρ) := ⟨Nat.le_refl _, fun b _ ho => ⟨rfl, fun h => ho (h.imp (hown b) fun h => h)⟩⟩
  refine ⟨h.below, h.tab, h.hB, h.defers, h.nt, h.top.keep keep fun _ _ => rfl, fun id b hbk => ?_, fun i j x y hx hy => ?_, fun i x hx => ?_, h.frames.1, fun i f' tm hf' htm => (h.frames.2 i f' tm hf' htm).keep keep fun _ _ => rfl⟩
  · obtain ⟨c, hc, hle⟩ := lk id b hbk
    have := hle.out _ _ _ _ (h.blks id c hc)
    exact this.keep keep rfl (fun _ => rfl) fun _ _ => rfl
  · obtain ⟨x', hx', _⟩ := lk i x hx
    obtain ⟨y', hy', _⟩ := lk j y hy
    exact h.sep i j x' y' hx' hy'
  · obtain ⟨x', hx', _⟩ := lk i x hx
    exact h.ge i x' hx'

/-- A call under a guard, by a contract with effects. -/
theorem callG_e {base nt : Nat} {ts : List (Nat × V)} {gs : List Gd} {blks : List (Nat × Blk)} {fs : List Fr} {al l : List (Nat × Bool)} {key : Nat} {want : Bool} {f : FuncId} {fn : Func} {args args' : List V} {bs M : List (Nat × Blk)} {res : V} {K : V → St → Prop} {S0 : St}
    (r : List (Nat × Nat)) (k : Nat) (hf : P.funcs[f]? = some fn) (hn : (fn.name == "runtime.NumGoroutine") = false) (hb : fn.body.isNone = false) (h : condP S0 al l (EffC P f args' bs res M))
    (hw : CellsLe args (renL (renN r k) args')) (hi : inB blks (renN r k) bs) (ha : apartN (renN r k) (idsB bs ++ newIds bs M) = true) (hm : (newIds bs M).all (fun j => !(St.mentions ⟨base, nt, ts, gs, blks, fs⟩ (renN r k j))) = true)
    (hN : condN S0 key want (LeB blks (newB (renN r k) bs M (effB (renN r k) M blks bs) M)))
    (hk : forceV (res.ren (renN r k)) fun v => forceB (newB (renN r k) bs M (effB (renN r k) M blks bs) M) fun bs => K v ⟨base, nt, ts, gs, bs, fs⟩) :
    CallG P (condP S0 al l) (condN S0 key want) f args ⟨base, nt, ts, gs, blks, fs⟩ K := by
  rw [forceV_eq, forceB_eq] at hk
  have hi := inB_of hi
  have ha := apartN_inj ha
  have hm : ∀ j ∈ newIds bs M, St.mentions ⟨base, nt, ts, gs, blks, fs⟩ (renN r k j) = false := fun j hj => by simpa using List.all_eq_true.1 hm j hj
  have mono : ∀ {p q : Prop}, (p → q) → condN S0 key want p → condN S0 key want q := fun {p q} hpq hp => by
    unfold condN at hp ⊢
    split
    · rename_i hb; rw [hb] at hp; exact fun e => hpq (hp e)
    · rename_i hno
      split at hp
      · rename_i b hb; exact absurd hb (hno b)
      · exact hpq hp
  refine ⟨⟨fn, hf, hn, hb⟩, _, _, hk, condP_mono (fun h B w0 F ρ a w vals hs hv => ?_) h, mono (fun hle B w0 F ρ a w hs => ⟨ρ, sim_leB hs fun i b hb => leB_get hle hb⟩) hN⟩
  refine Calls.mono (effSim (renN r k) h hs hv hw hi ha hm _ lookEff) ?_
  rintro e w' ⟨v, ρ1, rfl, h1, h2⟩
  exact ⟨v, ρ1, rfl, h1, h2⟩

noncomputable def gcallE {α σ : Type} (c : Prop) [Decidable c] [Inhabited α] (m : Option (α × σ)) (s : σ) : Option (α × σ) := if c then m else some (default, s)
theorem gcallE_some {α σ : Type} {c : Prop} [Decidable c] [Inhabited α] {m : Option (α × σ)} {s : σ} {x : α × σ} (h : gcallE c m s = some x) (hc : c) : m = some x := by rwa [gcallE, if_pos hc] at h
theorem gcallE_none {α σ : Type} {c : Prop} [Decidable c] [Inhabited α] {m : Option (α × σ)} {s : σ} {x : α × σ} (h : gcallE c m s = some x) (hc : ¬ c) : x = (default, s) := by rw [gcallE, if_neg hc] at h; exact (Option.some.inj h).symm
theorem gcallE_pos {α σ : Type} {c : Prop} [Decidable c] [Inhabited α] {m : Option (α × σ)} {s : σ} (hc : c) : gcallE c m s = m := by rw [gcallE, if_pos hc]
theorem gcallE_neg {α σ : Type} {c : Prop} [Decidable c] [Inhabited α] {m : Option (α × σ)} {s : σ} (hc : ¬ c) : gcallE c m s = some (default, s) := by rw [gcallE, if_neg hc]

/-! ### A function's end -/
/-- What is left to check in a drawn region stands by itself: it is computed apart from the walk. -/
noncomputable def evDrawK (P : Program) (tb : Tb) (cs : Nat → Option CS) (m : Nat) (mks : List (List Bool)) (ops : List Oper) (S : St) (K : St → Prop) : Prop :=
  stK (S0of ((ops.take m).map (·.dst)) S) fun S0 => evMF P tb cs ops S0 (ops.take m) mks 0 [] fun R =>
      chkDynM S0 mks R = true ∧ stK (stM S0 R (List.replicate m true)) fun S1 => evOps P tb ops (ops.drop m) S1 fun S => S.noGds K
theorem evDrawK_eq {cs : Nat → Option CS} {m : Nat} {mks : List (List Bool)} {ops : List Oper} {S : St} {K : St → Prop} : evDrawK P tb cs m mks ops S K = evDrawF P tb cs m mks ops S K := by
  unfold evDrawK evDrawF
  congr 1; funext S0; congr 1; funext R
  cases chkDynM S0 mks R
  · exact propext ⟨fun h => Bool.noConfusion h.1, fun h => (Stuck.no h).elim⟩
  · exact propext ⟨fun h => h.2, fun h => ⟨rfl, h⟩⟩
theorem draw_k (hT : TOk P tb) (hmx : P.follows .mixedOrders = true) {id : Nat} {opsA : Array Oper} {S : St} {K : St → Prop} (cs : Nat → Option CS) (m : Nat) (ls : List Nat) (mks mkt : List (List Bool)) (hml : m ≤ opsA.size) (hno : (noEff cs m && dstChk opsA.toList cs m) = true)
    (hst : statOkL m ls opsA.toList mks mkt = true) (h : evDrawK P tb cs m mks opsA.toList S K) : DrawP P id opsA S K :=
  draw_l hT hmx cs m ls mks mkt hml hno hst (evDrawK_eq ▸ h)

def nbsOf (nb : List Nb) : List (Nat × Blk) := nb.map fun b => (b.id, .arr b.t b.sz b.n b.row)
theorem look_nbs : ∀ {nb : List Nb} {i : Nat} {b : Blk}, look (nbsOf nb) i = some b → ∃ x ∈ nb, x.id = i ∧ b = .arr x.t x.sz x.n x.row
  | x :: r, i, b, h => by
    simp only [nbsOf, List.map_cons] at h
    rcases look_cons h with ⟨e, rfl⟩ | ⟨_, h⟩
    · exact ⟨x, by simp, e, rfl⟩
    · obtain ⟨y, h1, h2⟩ := look_nbs (nb := r) h
      exact ⟨y, List.mem_cons_of_mem _ h1, h2⟩
  | [], _, _, h => by simp [nbsOf, look] at h
/-- A contract of a call that reads alone, as one with effects. -/
theorem PureC.eff {f : FuncId} {args : List V} {res : V} {nb : List Nb} (h : PureC P f args res nb) (s1 : res.within (hasB (nbsOf nb)) = true) (s2 : withinB (hasB (nbsOf nb)) (nbsOf nb) = true) : EffC P f args [] res (nbsOf nb) := by
  refine ⟨h.can, s1, s2, fun Z w vals ρ0 hv _ _ _ hlt ht => ?_⟩
  refine Calls.mono (h.out w vals ρ0 ⟨hv.1, fun j v hj => (hv.2 j v hj).mono fun b hb => hb.elim⟩ (ht.mono fun _ h => h.1)) ?_
  rintro e w' ⟨v, ρ, rfl, g1, g2, g3, g4, g5⟩
  refine ⟨v, ρ, rfl, ⟨g1.os, g1.tape, g1.output, g1.size, fun k hk => g1.old k hk.1⟩, fun i x y hx => by simp [look] at hx, g2.flat h.flat, fun i b hb => ?_, fun i j x y hx hy hp hq e => ?_, fun i x hx hp => ?_⟩
  · obtain ⟨x, hx, rfl, rfl⟩ := look_nbs hb
    have := BR.shiftFlat (k := 0) (ρ' := ρ) (w' := w') (ow' := fun x => own (nbsOf nb) ρ x ∨ Z x) (g3 x hx) (h.rows x hx) rfl rfl
    exact this
  · obtain ⟨x', hx', rfl, _⟩ := look_nbs hx
    obtain ⟨y', hy', rfl, _⟩ := look_nbs hy
    exact g4 x' hx' y' hy' hp hq e
  · obtain ⟨x', hx', rfl, _⟩ := look_nbs hx
    exact .inl (g5 x' hx' hp)

end Go.Ab
namespace Go.Ab

def allR (n : Nat) (p : Nat → Bool) : Bool := (List.range n).all p
theorem allR_get {n i : Nat} {p : Nat → Bool} (h : allR n p = true) (hi : i < n) : p i = true := List.all_eq_true.1 h i (List.mem_range.2 hi)
theorem allR_of {n : Nat} {p : Nat → Bool} (h : ∀ i, i < n → p i = true) : allR n p = true := List.all_eq_true.2 fun i hi => h i (List.mem_range.1 hi)
theorem wrap_succ {n i : Nat} (h : i < n) (hn : n ≤ 9223372036854775807) : IntKind.i64.wrap ((i : Int) + 1) = ((i + 1 : Nat) : Int) := by
  rw [wrap_i64 (by omega) (by omega)]; simp
theorem wrap_pred {n i : Nat} (h : i < n) (h0 : 0 < i) (hn : n ≤ 9223372036854775807) : IntKind.i64.wrap ((i : Int) - 1) = ((i - 1 : Nat) : Int) := by
  rw [wrap_i64 (by omega) (by omega)]; omega

/-- A loop that looks for the first place at which something does not hold; 'e': what it says then, 'd': what it says behind the last. -/
theorem lp_all {β : Type} {step : Int → Option (Int ⊕ β)} (n : Nat) (p : Nat → Bool) (e d : β) (h1 : ∀ i : Nat, i < n → (∀ k, k < i → p k = true) → step i = some (if p i = true then .inl ((i + 1 : Nat) : Int) else .inr e)) (h2 : (∀ k, k < n → p k = true) → step n = some (.inr d)) :
    lp step 0 = some (if allR n p = true then d else e) := by
  have key : ∀ k i : Nat, i + k = n → (∀ j, j < i → p j = true) → lp step (i : Int) = some (if allR n p = true then d else e) := by
    intro k
    induction k with
    | zero =>
      intro i hi hp
      have : i = n := by omega
      subst this
      rw [lp_done (h2 hp), if_pos (allR_of hp)]
    | succ k ih =>
      intro i hi hp
      have hs := h1 i (by omega) hp
      by_cases hpi : p i = true
      · rw [if_pos hpi] at hs
        rw [lp_more hs]
        exact ih (i + 1) (by omega) fun j hj => by
          rcases Nat.lt_or_ge j i with h | h
          · exact hp j h
          · have : j = i := by omega
            subst this; exact hpi
      · rw [if_neg hpi] at hs
        rw [lp_done hs, if_neg]
        intro h
        exact hpi (allR_get h (by omega))
  exact key n 0 (by omega) fun j hj => by omega

/-- The first of what a function of the place gives. -/
def findR {β : Type} (f : Nat → Option β) : Nat → Nat → Option β
  | _, 0 => none
  | i, k + 1 => match f i with
    | some b => some b
    | none => findR f (i + 1) k
theorem lp_find {β : Type} {step : Int → Option (Int ⊕ β)} (n : Nat) (f : Nat → Option β) (d : β) (h1 : ∀ i : Nat, i < n → step i = some (match f i with | some b => .inr b | none => .inl ((i + 1 : Nat) : Int))) (h2 : step n = some (.inr d)) :
    lp step 0 = some ((findR f 0 n).getD d) := by
  have key : ∀ k i : Nat, i + k = n → lp step (i : Int) = some ((findR f i k).getD d) := by
    intro k
    induction k with
    | zero =>
      intro i hi
      have : i = n := by omega
      subst this
      rw [lp_done h2]; rfl
    | succ k ih =>
      intro i hi
      have hs := h1 i (by omega)
      unfold findR
      cases hf : f i with
      | some b => rw [hf] at hs; rw [lp_done hs]; rfl
      | none => rw [hf] at hs; rw [lp_more hs]; exact ih (i + 1) (by omega)
  exact key n 0 (by omega)

/-- A loop that goes on with a state at each place. -/
theorem lp_fold {α β : Type} {step : α × Int → Option ((α × Int) ⊕ β)} (n : Nat) (f : α → Nat → α) (d : α → β) (a0 : α) (inv : Nat → α → Prop) (h0 : inv 0 a0) (hi : ∀ i a, i < n → inv i a → inv (i + 1) (f a i))
    (h1 : ∀ (i : Nat) (a : α), i < n → inv i a → step (a, (i : Int)) = some (.inl (f a i, ((i + 1 : Nat) : Int)))) (h2 : ∀ a, inv n a → step (a, (n : Int)) = some (.inr (d a))) :
    lp step (a0, 0) = some (d ((List.range n).foldl f a0)) ∧ inv n ((List.range n).foldl f a0) := by
  have key : ∀ k i : Nat, i + k = n → ∀ a, inv i a → lp step (a, (i : Int)) = some (d ((List.range' i k).foldl f a)) ∧ inv n ((List.range' i k).foldl f a) := by
    intro k
    induction k with
    | zero =>
      intro i hik a ha
      have : i = n := by omega
      subst this
      exact ⟨lp_done (h2 a ha), ha⟩
    | succ k ih =>
      intro i hik a ha
      rw [lp_more (h1 i a (by omega) ha), List.range'_succ, List.foldl_cons]
      exact ih (i + 1) (by omega) _ (hi i a (by omega) ha)
  have := key n 0 (by omega) a0 h0
  rwa [← List.range_eq_range'] at this

theorem gcall_val {α : Type} [Inhabited α] {c : Prop} [Decidable c] {v : α} : gcall c (some v) = some (if c then v else default) := by
  by_cases h : c
  · rw [gcall_pos h, if_pos h]
  · rw [gcall_neg h, if_neg h]
theorem gcall_b {c : Bool} {v : Bool} : gcall (c = true) (some v) = some (c && v) := by cases c <;> simp [gcall]
theorem gcall_nb {c : Bool} {v : Bool} : gcall (c = false) (some v) = some (!c && v) := by cases c <;> simp [gcall]

theorem bd_gc {α : Type} [Inhabited α] {c : Bool} {x : α} {f : α → Bool} : bd (gcall (c = true) (some x)) (fun y => some (c && f y)) = some (c && f x) := by cases c <;> simp [gcall]

def cmpInt (a b : Int) : Int := if a < b then -1 else if b < a then 1 else 0
def firstNz : List Int → Int
  | [] => 0
  | n :: r => if n = 0 then firstNz r else n

theorem chain {α : Type} {r : α → α → Bool} (tr : ∀ {a b c : α}, r a b = true → r b c = true → r a c = true) {f : Nat → α} {n : Nat} (h : ∀ i, 0 < i → i < n → r (f (i - 1)) (f i) = true) : ∀ i, i < n → ∀ k, k < i → r (f k) (f i) = true := by
  intro i
  induction i with
  | zero => intro _ k hk; omega
  | succ i ih =>
    intro hi k hk
    have hs := h (i + 1) (by omega) hi
    rw [Nat.add_sub_cancel] at hs
    by_cases e : k = i
    · subst e; exact hs
    · exact tr (ih (by omega) k (by omega)) hs

def DsL : List D → List D → Prop
  | [], [] => True
  | d :: r, d' :: r' => VLe (.d d) (.d d') ∧ DsL r r'
  | _, _ => Stuck "cells"
theorem DsL.get : ∀ {cs cs' : List D}, DsL cs cs' → ∀ (j : Nat) (d' : D), cs'[j]? = some d' → ∃ d, cs[j]? = some d ∧ VLe (.d d) (.d d')
  | [], [], _ => fun j d h => by simp at h
  | v :: r, v' :: r', h => fun j u hj => by
    simp only [DsL] at h
    cases j with
    | zero => simp at hj; subst hj; exact ⟨v, rfl, h.1⟩
    | succ j => simpa using h.2.get j u (by simpa using hj)
  | [], _ :: _, h => h.no.elim
  | _ :: _, [], h => h.no.elim
theorem VLe.rpL {cs cs' : List D} (h : DsL cs cs') : VLe (.rp cs) (.rp cs') := ⟨fun w ow ρ x hx => by
  cases hx with
  | rp vals h1 h2 h3 h4 =>
    refine .rp vals h1 h2 (fun j d hd => ?_) fun j d hd => ?_
    · obtain ⟨u, hu, _⟩ := h.get j d hd
      exact h3 j u hu
    · obtain ⟨u, hu, hle⟩ := h.get j d hd
      have := hle.out w ow ρ (vals j) (.d (h4 j u hu))
      cases this with | d h => exact h⟩

/-! ### Searches that the contracts' proofs want again and again: what is not said is looked for where the theorem is used. -/
theorem argA {p : Prop} (h : p := by
  (repeat' first | ((conv => whnf); first | exact trivial | refine And.intro ?_ ?_ | exact BLe.refl _ | exact VLe.refl _) | exact trivial | refine And.intro ?_ ?_ | exact VLe.refl _ | exact VLe.any _ | exact VLe.nil_osl rfl | exact VLe.nil_sl rfl | exact VLe.built rfl rfl | (refine VLe.osl rfl ?_; (first | rfl | assumption | (refine Eq.symm ?_; assumption) | (simp; done) | (simp [dsub_eq] <;> omega) | omega)) | exact VLe.rows (by first | rfl | assumption | (refine Eq.symm ?_; assumption) | (simp; done) | (simp [dsub_eq] <;> omega) | omega) (fun _ _ => rfl) | exact VLe.rows (by simp [dsub_eq] <;> omega) rows_take | exact VLe.rows (by simp [dsub_eq] <;> omega) rows_dt | exact VLe.rows (by simp [dsub_eq] <;> omega) rows_vt | exact VLe.rows (by simp) (fun i _ => by simp [viewRow_eq, Nat.add_comm]) | refine VLe.aggL ?_ | refine VLe.rpL ?_)) : p := h
theorem inA {p : Prop} (h : p := by
  (repeat' first | ((conv => whnf); first | exact trivial | refine And.intro ?_ ?_ | exact BLe.refl _ | exact VLe.refl _ | (refine BLe.rows rfl ?_ fun _ _ => rfl; (first | rfl | assumption | (refine Eq.symm ?_; assumption)))) | exact trivial | exact rfl | refine And.intro ?_ ?_ | exact BLe.refl _ | exact VLe.refl _ | exact VLe.any _ | exact VLe.nil_osl rfl | exact VLe.nil_sl rfl | exact VLe.built rfl rfl | (refine VLe.osl rfl ?_; (first | rfl | assumption | (refine Eq.symm ?_; assumption) | (simp; done) | (simp [dsub_eq] <;> omega) | omega)) | exact VLe.rows (by first | rfl | assumption | (refine Eq.symm ?_; assumption) | (simp; done) | (simp [dsub_eq] <;> omega) | omega) (fun _ _ => rfl) | exact VLe.rows (by simp [dsub_eq] <;> omega) rows_take | exact VLe.rows (by simp [dsub_eq] <;> omega) rows_dt | exact VLe.rows (by simp [dsub_eq] <;> omega) rows_vt | exact VLe.rows (by simp) (fun i _ => by simp [viewRow_eq, Nat.add_comm]) | refine VLe.aggL ?_ | (refine BLe.rows rfl ?_ fun _ _ => rfl; (first | rfl | assumption | (refine Eq.symm ?_; assumption) | (simp; done) | (simp [dsub_eq] <;> omega) | omega)) | refine BLe.box ?_ | (simp; done))) : p := h
theorem lenA {p : Prop} (h : p := by
  first | rfl | assumption | (refine Eq.symm ?_; assumption) | (simp; done) | (simp [dsub_eq] <;> omega) | omega) : p := h

end Go.Ab
namespace Go.Ab
open Go.RowKit
variable {P : Program} {tb : Tb} {w : World} {ow : Nat → Prop} {ρ : Env} {a : Act} {B : Bd} {w0 : World} {F : List (Array Value)} {S : St}

/-- Numbers of blocks changed by a table that is one to one. -/
def pmN (l : List (Nat × Nat)) (i : Nat) : Nat := match look l i with
  | some j => j
  | none => i
def pmInv (l : List (Nat × Nat)) : List (Nat × Nat) := l.map fun p => (p.2, p.1)
def pmOk (l : List (Nat × Nat)) : Bool := l.all fun p => (match look (pmInv l) p.2 with
  | some a => Nat.beq a p.1
  | none => false) && (match look l p.2 with
  | some _ => true
  | none => false)
theorem look_mem3 {α : Type} : ∀ {l : List (Nat × α)} {i : Nat} {x : α}, look l i = some x → (i, x) ∈ l
  | (u, y) :: r, i, x, h => by
    rcases look_cons h with ⟨rfl, rfl⟩ | ⟨_, h⟩
    · simp
    · exact List.mem_cons_of_mem _ (look_mem h)
  | [], _, _, h => by simp [look] at h
theorem pm_inv {l : List (Nat × Nat)} (h : pmOk l = true) (i : Nat) : pmN (pmInv l) (pmN l i) = i := by
  have h := List.all_eq_true.1 h
  unfold pmN
  cases hl : look l i with
  | some j =>
    have h1 := h (i, j) (look_mem3 hl)
    simp only [Bool.and_eq_true] at h1
    dsimp only
    cases h2 : look (pmInv l) j with
    | none => rw [h2] at h1; exact Bool.noConfusion h1.1
    | some a => rw [h2] at h1; exact Nat.eq_of_beq_eq_true h1.1
  | none =>
    dsimp only
    cases h2 : look (pmInv l) i with
    | none => rfl
    | some a =>
      obtain ⟨p, hp, e⟩ := List.mem_map.1 (look_mem3 h2)
      cases e
      have h1 := h p hp
      simp only [Bool.and_eq_true] at h1
      rw [hl] at h1
      exact Bool.noConfusion h1.2
noncomputable def rnVn (l : List (Nat × Nat)) (n : Nat) : V → (V → Prop) → Prop := Nat.rec (motive := fun _ => V → (V → Prop) → Prop) (fun v K => K (v.ren (pmN l))) (fun _ ih v K => match v with
  | .any => K .any
  | .d x => K (.d x)
  | .ref i r o => (match look l i with
    | some j => K (.ref j r o)
    | none => K (.ref i r o))
  | .osl i o n => (match look l i with
    | some j => K (.osl j o n)
    | none => K (.osl i o n))
  | .rp cs => K (.rp cs)
  | .agg vs => forceVLn ih vs fun vs' => K (.agg vs')
  | .tup vs => forceVLn ih vs fun vs' => K (.tup vs')
  | .fn f vs => forceVLn ih vs fun vs' => K (.fn f vs')) n
noncomputable def rnT (l : List (Nat × Nat)) (ts : List (Nat × V)) : (List (Nat × V) → Prop) → Prop := List.rec (motive := fun _ => (List (Nat × V) → Prop) → Prop) (fun K => K []) (fun p _ ih K => match p with
  | (t, v) => rnVn l 4 v fun v' => ih fun r' => K ((t, v') :: r')) ts
noncomputable def rnG (l : List (Nat × Nat)) (gs : List Gd) : (List Gd → Prop) → Prop := List.rec (motive := fun _ => (List Gd → Prop) → Prop) (fun K => K []) (fun g _ ih K => match g with
  | ⟨t, k, w, v⟩ => rnVn l 4 v fun v' => ih fun r' => K (⟨t, k, w, v'⟩ :: r')) gs
noncomputable def rnB (l : List (Nat × Nat)) (bs : List (Nat × Blk)) : (List (Nat × Blk) → Prop) → Prop := List.rec (motive := fun _ => (List (Nat × Blk) → Prop) → Prop) (fun K => K []) (fun p _ ih K => match p with
  | (i, .box t cs) => forceVLn (rnVn l 4) cs fun cs' => (match look l i with
    | some j => ih fun r' => K ((j, .box t cs') :: r')
    | none => ih fun r' => K ((i, .box t cs') :: r'))
  | (i, .arr t sz n row) => (match look l i with
    | some j => ih fun r' => K ((j, .arr t sz n row) :: r')
    | none => ih fun r' => K ((i, .arr t sz n row) :: r'))) bs
noncomputable def rnF (l : List (Nat × Nat)) (fs : List Fr) : (List Fr → Prop) → Prop := List.rec (motive := fun _ => (List Fr → Prop) → Prop) (fun K => K []) (fun f _ ih K => match f with
  | ⟨ts, gs⟩ => rnT l ts fun ts' => rnG l gs fun gs' => ih fun r' => K (⟨ts', gs'⟩ :: r')) fs
noncomputable def rnSt (l : List (Nat × Nat)) : St → (St → Prop) → Prop
  | ⟨base, nt, ts, gs, bs, fs⟩, K => rnT l ts fun ts => rnG l gs fun gs => rnB l bs fun bs => rnF l fs fun fs => K ⟨base, nt, ts, gs, bs, fs⟩

theorem forceVLr_eq {f : V → (V → Prop) → Prop} {g : Nat → Nat} (hf : ∀ v K, f v K = K (v.ren g)) (l : List V) : ∀ K : List V → Prop, forceVLn f l K = K (renL g l) := by
  induction l with
  | nil => intro K; rfl
  | cons x r ih => intro K; show f x (fun x' => forceVLn f r fun r' => K (x' :: r')) = _; rw [hf, ih]; rfl
theorem rnVn_eq (l : List (Nat × Nat)) : ∀ (n : Nat) (v : V) (K : V → Prop), rnVn l n v K = K (v.ren (pmN l))
  | 0, _, _ => rfl
  | n + 1, v, K => by
    cases v with
    | any => rfl
    | ref i r o =>
      show (match look l i with | some j => K (.ref j r o) | none => K (.ref i r o)) = K (.ref (pmN l i) r o)
      unfold pmN
      cases look l i <;> rfl
    | osl i o n =>
      show (match look l i with | some j => K (.osl j o n) | none => K (.osl i o n)) = K (.osl (pmN l i) o n)
      unfold pmN
      cases look l i <;> rfl
    | d x => rfl
    | rp cs => rfl
    | agg vs => exact forceVLr_eq (rnVn_eq l n) vs _
    | tup vs => exact forceVLr_eq (rnVn_eq l n) vs _
    | fn f vs => exact forceVLr_eq (rnVn_eq l n) vs _
theorem rnT_eq (l : List (Nat × Nat)) (ts : List (Nat × V)) : ∀ K : List (Nat × V) → Prop, rnT l ts K = K (renT (pmN l) ts) := by
  induction ts with
  | nil => intro K; rfl
  | cons x r ih => intro K; obtain ⟨t, v⟩ := x; show rnVn l 4 v (fun v' => rnT l r fun r' => K ((t, v') :: r')) = _; rw [rnVn_eq, ih]; rfl
theorem rnG_eq (l : List (Nat × Nat)) (ts : List Gd) : ∀ K : List Gd → Prop, rnG l ts K = K (renG (pmN l) ts) := by
  induction ts with
  | nil => intro K; rfl
  | cons x r ih => intro K; obtain ⟨t, k, w, v⟩ := x; show rnVn l 4 v (fun v' => rnG l r fun r' => K (⟨t, k, w, v'⟩ :: r')) = _; rw [rnVn_eq, ih]; rfl
theorem rnB_eq (l : List (Nat × Nat)) (bs : List (Nat × Blk)) : ∀ K : List (Nat × Blk) → Prop, rnB l bs K = K (renB (pmN l) bs) := by
  induction bs with
  | nil => intro K; rfl
  | cons x r ih =>
    intro K; obtain ⟨i, b⟩ := x
    cases b with
    | box t cs =>
      show forceVLn (rnVn l 4) cs (fun cs' => (match look l i with | some j => rnB l r fun r' => K ((j, .box t cs') :: r') | none => rnB l r fun r' => K ((i, .box t cs') :: r'))) = K ((pmN l i, .box t (renL (pmN l) cs)) :: renB (pmN l) r)
      rw [forceVLr_eq (rnVn_eq l 4)]
      unfold pmN
      cases look l i <;> exact ih _
    | arr t sz n row =>
      show (match look l i with | some j => rnB l r fun r' => K ((j, .arr t sz n row) :: r') | none => rnB l r fun r' => K ((i, .arr t sz n row) :: r')) = K ((pmN l i, .arr t sz n row) :: renB (pmN l) r)
      unfold pmN
      cases look l i <;> exact ih _
theorem rnF_eq (l : List (Nat × Nat)) (fs : List Fr) : ∀ K : List Fr → Prop, rnF l fs K = K (renF (pmN l) fs) := by
  induction fs with
  | nil => intro K; rfl
  | cons x r ih => intro K; obtain ⟨ts, gs⟩ := x; show rnT l ts (fun ts' => rnG l gs fun gs' => rnF l r fun r' => K (⟨ts', gs'⟩ :: r')) = _; rw [rnT_eq, rnG_eq, ih]; rfl
theorem rnSt_eq (l : List (Nat × Nat)) (S : St) (K : St → Prop) : rnSt l S K = K (S.ren (pmN l)) := by
  obtain ⟨base, nt, ts, gs, bs, fs⟩ := S
  simp only [rnSt, rnT_eq, rnG_eq, rnB_eq, rnF_eq]; rfl

/-! ### Steps from a state to one that says less -/
/-- Rows frozen; numbers of blocks changed; a row of no elements taken in; blocks left out. -/
inductive Ed where
  | f (ids : List Nat)
  | s (l : List (Nat × Nat))
  | p (id t sz : Nat) (row : Nat → List D)
  | k (ids : List Nat)
  | c (t : Nat)
  | ca (t j : Nat)
  | cb (q j : Nat)

/-- A check that the kernel makes. -/
structure KF (b : Bool) : Prop where
  h : b = false
structure KT (b : Bool) : Prop where
  h : b = true
noncomputable def edP : List Ed → St → (St → Prop) → Prop
  | [], S, K => K S
  | .f l :: r, S, K => frzSt l S fun S => edP r S K
  | .s l :: r, S, K => KT (pmOk l) ∧ rnSt l S fun S => edP r S K
  | .p id t sz row :: r, ⟨base, nt, ts, gs, bs, fs⟩, K => KF (St.mentions ⟨base, nt, ts, gs, bs, fs⟩ id) ∧ edP r ⟨base, nt, ts, gs, (id, .arr t sz 0 row) :: bs, fs⟩ K
  | .k ids :: r, ⟨base, nt, ts, gs, bs, fs⟩, K => forceB (delIds ids bs) fun bs => edP r ⟨base, nt, ts, gs, bs, fs⟩ K
  | .c t :: r, ⟨base, nt, ts, gs, bs, fs⟩, K => match look ts t with
    | some (.osl id off len) => (match look bs id with
      | some (.arr t0 sz _ row) => forceT (killT id ts) fun ts' => forceG (killG id gs) fun gs' => forceB (killB id bs) fun bs' => forceF (killF id fs) fun fs' =>
          edP r ⟨base, nt, (t, .osl id 0 len) :: ts', gs', (id, .arr t0 sz len (viewRow off row)) :: bs', fs'⟩ K
      | _ => Stuck "cut no such row")
    | _ => Stuck "cut no slice"
  | .ca t j :: r, ⟨base, nt, ts, gs, bs, fs⟩, K => match look ts t with
    | some (.agg vs) => (match vs[j]? with
      | some (.osl id off len) => (match look bs id with
        | some (.arr t0 sz _ row) => forceVL ((killL id vs).set j (.osl id 0 len)) fun vs' => forceT (killT id ts) fun ts' => forceG (killG id gs) fun gs' => forceB (killB id bs) fun bs' => forceF (killF id fs) fun fs' =>
            edP r ⟨base, nt, (t, .agg vs') :: ts', gs', (id, .arr t0 sz len (viewRow off row)) :: bs', fs'⟩ K
        | _ => Stuck "cut no such row")
      | _ => Stuck "cut no slice")
    | _ => Stuck "cut no struct"
  | .cb q j :: r, ⟨base, nt, ts, gs, bs, fs⟩, K => match look bs q with
    | some (.box t cs) => (match cs[j]? with
      | some (.osl id off len) => (match look bs id with
        | some (.arr t0 sz _ row) => forceVL ((killL id cs).set j (.osl id 0 len)) fun cs' => forceT (killT id ts) fun ts' => forceG (killG id gs) fun gs' => forceB (killB id bs) fun bs' => forceB (updB bs' q (.box t cs')) fun bs' => forceF (killF id fs) fun fs' =>
            edP r ⟨base, nt, ts', gs', (id, .arr t0 sz len (viewRow off row)) :: bs', fs'⟩ K
        | _ => Stuck "cut no such row")
      | _ => Stuck "cut no slice")
    | _ => Stuck "cut no variable"

theorem frzSt_le : ∀ (l : List Nat) {S : St} {K : St → Prop}, frzSt l S K → ∃ S1, LE S S1 ∧ K S1
  | [], S, _, h => ⟨S, .refl S, h⟩
  | i :: r, ⟨base, nt, ts, gs, bs, fs⟩, K, h => by
    simp only [frzSt] at h
    split at h
    · rename_i row hb
      rw [forceT_eq, forceG_eq, forceB_eq, forceF_eq] at h
      obtain ⟨S1, h1, h2⟩ := frzSt_le r h
      exact ⟨S1, LE.trans ⟨fun B w0 F ρ a w hs => ⟨ρ, (hs.frz hb).1⟩⟩ h1, h2⟩
    · exact h.no.elim
theorem delK_le (ids : List Nat) : LE S ⟨S.base, S.nt, S.tmps, S.gds, delIds ids S.blks, S.frames⟩ :=
  ⟨fun B w0 F ρ a w hs => ⟨ρ, sim_leB hs fun i b hb => by
    rw [look_del] at hb
    split at hb
    · cases hb
    · exact ⟨b, hb, .refl b⟩⟩⟩
/-- A slice that is handed on becomes a row of its own: nothing else names the row any more. -/
theorem sim_cut {S : St} {id off len n : Nat} {t0 : TypeId} {sz : Nat} {row : Nat → List D} {B : Bd} {w0 w : World} {F : List (Array Value)} {ρ : Env} {a : Act} {x : Value} (h : Sim P B w0 F ρ S a w) (hv : VR w (ownZ B S.blks ρ) ρ (.osl id off len) x) (hb : look S.blks id = some (.arr t0 sz n row)) :
    ∃ l : Loc, Sim P B w0 F (ρ.set id l) ⟨S.base, S.nt, killT id S.tmps, killG id S.gds, (id, .arr t0 sz len (viewRow off row)) :: killB id S.blks, killF id S.frames⟩ a w ∧
      VR w (ownZ B ((id, .arr t0 sz len (viewRow off row)) :: killB id S.blks) (ρ.set id l)) (ρ.set id l) (.osl id 0 len) x := by
  have hk := simO_kill h.o id
  have hkm := St.kill_mentions S id
  obtain ⟨ad, cap, h1, h2, h3⟩ := hv.osl_inv
  rcases h3 with ⟨h3, h4⟩ | ⟨h3, h4, h5, h6⟩
  · subst h3 h4
    have hsn := sim_emptyRow (w := w) hk hkm (fun _ h => h.imp own_killB fun h => h) (sz := sz) (row := viewRow off row) (e := t0) ad
    exact ⟨_, hsn.1, by rw [h1]; exact hsn.2⟩
  · have hb0 := h.blks id _ hb
    cases hb0 with
    | arr0 g => rw [g] at h3; cases h3
    | arr C et0 g1 g2 g3 g4 g5 g6 g7 g8 =>
    have hge := h.ge id _ hb h3
    have hnown : ¬ own (killB id S.blks) ρ (ρ id).b := by
      rintro ⟨i, k, hk, hp, hbi⟩
      obtain ⟨hne, k0, hk0, _⟩ := look_killB hk
      exact hne (h.sep i id _ _ hk0 hb hp h3 hbi)
    have hsn := sim_new (loc := ⟨(ρ id).b, (ρ id).o + off * sz, sz, len, cap, false⟩) (blk := .arr t0 sz len (viewRow off row)) (w' := w) hk hkm (fun _ h => h.imp own_killB fun h => h) (Nat.le_refl _)
      (fun _ _ _ => rfl) (fun _ _ => rfl) (fun _ => .inr ⟨.inl ⟨id, _, hb, h3, rfl⟩, hnown⟩) (fun _ => hge) rfl rfl rfl fun keep => by
        refine .arr C et0 (by simp [Env.set]) (by simp [Env.set]) (by simp [Env.set]) (by simp only [Env.set, if_true]; omega) (fun i hi => ?_) (by simp only [Env.set, if_true]; exact g6) ?_ fun i j d hi hd => ?_
        · rw [viewRow_eq]; exact g5 _ (by omega)
        · simp only [Env.set, if_true]
          have : off * sz + cap * sz = (ρ id).cap * sz := by rw [← Nat.add_mul]; congr 1; omega
          omega
        · simp only [Env.set, if_true]
          rw [viewRow_eq] at hd
          have := (g8 (off + i) j d (by omega) hd).keep keep
          rw [show (ρ id).o + off * sz + i * sz + j = (ρ id).o + (off + i) * sz + j by rw [Nat.add_mul]; omega]
          exact this
    refine ⟨_, hsn, ?_⟩
    rw [h1, h5, g2]
    have := VR.osl (w := w) (own := ownZ B ((id, .arr t0 sz len (viewRow off row)) :: killB id S.blks) (ρ.set id ⟨(ρ id).b, (ρ id).o + off * sz, sz, len, cap, false⟩)) (ρ := ρ.set id ⟨(ρ id).b, (ρ id).o + off * sz, sz, len, cap, false⟩) (id := id) (off := 0) (len := len) (by simp [Env.set]) (by simp [Env.set]) (by simp only [Env.set, if_true]; omega)
    simpa [Env.set] using this
theorem sim_top {S' : St} {B : Bd} {w0 w : World} {F : List (Array Value)} {ρ : Env} {a : Act} {ts : Nat} {v : V} (h1 : Sim P B w0 F ρ S' a w) (h2 : VR w (ownZ B S'.blks ρ) ρ v (a.tmps.getD ts undef)) : Sim P B w0 F ρ ⟨S'.base, S'.nt, (ts, v) :: S'.tmps, S'.gds, S'.blks, S'.frames⟩ a w :=
  ⟨h1.below, h1.tab, h1.hB, h1.defers, h1.nt, ⟨fun t v ht => by
    rcases look_cons ht with ⟨rfl, rfl⟩ | ⟨_, ht⟩
    · exact h2
    · exact h1.top.tmps t v ht, h1.top.gds⟩, h1.blks, h1.sep, h1.ge, h1.frames⟩
theorem le_cut (S : St) {id off len n : Nat} {t0 : TypeId} {sz : Nat} {row : Nat → List D} {ts : Nat} (hv : look S.tmps ts = some (.osl id off len)) (hb : look S.blks id = some (.arr t0 sz n row)) :
    LE S ⟨S.base, S.nt, (ts, .osl id 0 len) :: killT id S.tmps, killG id S.gds, (id, .arr t0 sz len (viewRow off row)) :: killB id S.blks, killF id S.frames⟩ := ⟨fun B w0 F ρ a w h => by
  obtain ⟨l, h1, h2⟩ := sim_cut h (h.top.tmps ts _ hv) hb
  exact ⟨_, sim_top h1 h2⟩⟩
theorem look_killT {id t : Nat} {v : V} : ∀ {ts : List (Nat × V)}, look ts t = some v → look (killT id ts) t = some (v.kill id)
  | (u, x) :: r, h => by
    simp only [look] at h
    show look ((u, x.kill id) :: killT id r) t = _
    simp only [look]
    split at h
    · rename_i e
      rw [Option.some.inj h]
    · exact look_killT h
  | [], h => by simp [look] at h
theorem le_cutA (S : St) {id off len n : Nat} {t0 : TypeId} {sz : Nat} {row : Nat → List D} {ts j : Nat} {vs : List V} (hv : look S.tmps ts = some (.agg vs)) (hj : vs[j]? = some (.osl id off len)) (hb : look S.blks id = some (.arr t0 sz n row)) :
    LE S ⟨S.base, S.nt, (ts, .agg ((killL id vs).set j (.osl id 0 len))) :: killT id S.tmps, killG id S.gds, (id, .arr t0 sz len (viewRow off row)) :: killB id S.blks, killF id S.frames⟩ := ⟨fun B w0 F ρ a w h => by
  have hx := h.top.tmps ts _ hv
  generalize hy : a.tmps.getD ts undef = y at hx
  cases hx with | agg g0 g1 g2 =>
  rename_i cs
  obtain ⟨l, h1, h2⟩ := sim_cut h (g2 j _ hj) hb
  have hk := h1.top.tmps ts _ (look_killT hv)
  rw [hy] at hk
  have hk : VR _ _ _ (.agg (killL id vs)) (.agg cs) := hk
  cases hk with | agg k0 k1 k2 =>
  refine ⟨_, sim_top h1 ?_⟩
  rw [hy]
  refine .agg (by rw [List.length_set]; exact k0) k1 fun q u hq => ?_
  rw [List.getElem?_set] at hq
  split at hq
  · rename_i e
    subst e
    split at hq
    · cases hq; exact h2
    · cases hq
  · exact k2 q u hq⟩
theorem look_killB' {id q : Nat} (hne : q ≠ id) : ∀ {bs : List (Nat × Blk)} {b : Blk}, look bs q = some b → look (killB id bs) q = some (b.kill id)
  | (u, x) :: r, b, h => by
    simp only [look] at h
    simp only [killB]
    split at h
    · rename_i e
      have e := Nat.eq_of_beq_eq_true e
      subst e
      have : Nat.beq u id = false := by
        cases c : Nat.beq u id
        · rfl
        · exact absurd (Nat.eq_of_beq_eq_true c) hne
      rw [this]
      simp only [look, Nat.beq_refl]
      rw [Option.some.inj h]
    · rename_i e
      split
      · exact look_killB' hne h
      · simp only [look, e]
        exact look_killB' hne h
  | [], _, h => by simp [look] at h
theorem sim_upd {q : Nat} {b0 blk : Blk} {S : St} {B : Bd} {w0 w : World} {F : List (Array Value)} {ρ : Env} {a : Act} (h : Sim P B w0 F ρ S a w) (h0 : look S.blks q = some b0) (hbr : BR w (ownZ B S.blks ρ) ρ q blk) :
    Sim P B w0 F ρ ⟨S.base, S.nt, S.tmps, S.gds, updB S.blks q blk, S.frames⟩ a w := by
  have keep : Keep w (ownZ B S.blks ρ) w (ownZ B (updB S.blks q blk) ρ) := ⟨Nat.le_refl _, fun b _ ho => ⟨rfl, fun h => ho (h.imp (own_updB h0) fun h => h)⟩⟩
  have lift : ∀ i x, look (updB S.blks q blk) i = some x → ∃ x0, look S.blks i = some x0 := fun i x hx => by
    rcases look_updB hx with ⟨rfl, _, b, hb⟩ | ⟨_, hb⟩
    · exact ⟨b, hb⟩
    · exact ⟨x, hb⟩
  refine ⟨h.below, h.tab, h.hB, h.defers, h.nt, h.top.keep keep fun _ _ => rfl, fun i b hb => ?_, fun i j x y hx hy => ?_, fun i x hx => ?_, h.frames.1, fun i f' tm hf' htm => (h.frames.2 i f' tm hf' htm).keep keep fun _ _ => rfl⟩
  · rcases look_updB hb with ⟨rfl, rfl, _⟩ | ⟨hn, hb⟩
    · exact hbr.keep keep rfl (fun _ => rfl) fun _ _ => rfl
    · exact (h.blks i b hb).keep keep rfl (fun _ => rfl) fun _ _ => rfl
  · obtain ⟨x0, hx0⟩ := lift i x hx
    obtain ⟨y0, hy0⟩ := lift j y hy
    exact h.sep i j x0 y0 hx0 hy0
  · obtain ⟨x0, hx0⟩ := lift i x hx
    exact h.ge i x0 hx0
theorem le_cutB (S : St) {id off len n : Nat} {t0 : TypeId} {sz : Nat} {row : Nat → List D} {q j : Nat} {t : TypeId} {cs : List V} (hq : look S.blks q = some (.box t cs)) (hj : cs[j]? = some (.osl id off len)) (hb : look S.blks id = some (.arr t0 sz n row)) :
    LE S ⟨S.base, S.nt, killT id S.tmps, killG id S.gds, (id, .arr t0 sz len (viewRow off row)) :: updB (killB id S.blks) q (.box t ((killL id cs).set j (.osl id 0 len))), killF id S.frames⟩ := ⟨fun B w0 F ρ a w h => by
  have hne : q ≠ id := fun e => by subst e; rw [hq] at hb; cases hb
  cases h.blks q _ hq with
  | box C g1 g2 g3 g4 g5 g6 g7 g8 =>
  obtain ⟨l, h1, h2⟩ := sim_cut h (g8 j _ hj) hb
  have hid : Nat.beq id q = false := by
    cases c : Nat.beq id q
    · rfl
    · exact absurd (Nat.eq_of_beq_eq_true c).symm hne
  have hlk : look ((id, Blk.arr t0 sz len (viewRow off row)) :: killB id S.blks) q = some (.box t (killL id cs)) := by
    simp only [look, hid]
    exact look_killB' hne hq
  refine ⟨ρ.set id l, ?_⟩
  have hb1 := h1.blks q _ hlk
  have hr : (ρ.set id l) q = ρ q := Env.set_other hne
  have hbr : BR w (ownZ B ((id, Blk.arr t0 sz len (viewRow off row)) :: killB id S.blks) (ρ.set id l)) (ρ.set id l) q (.box t ((killL id cs).set j (.osl id 0 len))) := by
    cases hb1 with
    | box C' k1 k2 k3 k4 k5 k6 k7 k8 =>
    have ec : C' = C := by
      rw [hr, g5] at k5
      cases k5; rfl
    subst ec
    refine .box C' k1 k2 (by rw [List.length_set]; exact k3) k4 k5 (by rw [List.length_set]; exact k6) k7 fun i v hv => ?_
    rw [List.getElem?_set] at hv
    split at hv
    · rename_i e
      subst e
      split at hv
      · cases hv; exact h2
      · cases hv
    · exact k8 i v hv
  have := sim_upd h1 hlk hbr
  have eu : updB ((id, Blk.arr t0 sz len (viewRow off row)) :: killB id S.blks) q (.box t ((killL id cs).set j (.osl id 0 len))) = (id, .arr t0 sz len (viewRow off row)) :: updB (killB id S.blks) q (.box t ((killL id cs).set j (.osl id 0 len))) := by
    simp only [updB, hid]
  rw [← eu]
  exact this⟩
theorem edP_le : ∀ (l : List Ed) {S : St} {K : St → Prop}, edP l S K → ∃ S1, LE S S1 ∧ K S1
  | [], S, _, h => ⟨S, .refl S, h⟩
  | .f l :: r, S, K, h => by
    obtain ⟨S1, h1, h2⟩ := frzSt_le l h
    obtain ⟨S2, h3, h4⟩ := edP_le r h2
    exact ⟨S2, h1.trans h3, h4⟩
  | .s l :: r, S, K, h => by
    simp only [edP, rnSt_eq] at h
    obtain ⟨S2, h3, h4⟩ := edP_le r h.2
    exact ⟨S2, (le_ren _ (pmN (pmInv l)) (pm_inv h.1.h) S).trans h3, h4⟩
  | .p id t sz row :: r, ⟨base, nt, ts, gs, bs, fs⟩, K, h => by
    obtain ⟨S2, h3, h4⟩ := edP_le r h.2
    exact ⟨S2, (le_phantom ⟨base, nt, ts, gs, bs, fs⟩ id t sz row h.1.h).trans h3, h4⟩
  | .k ids :: r, ⟨base, nt, ts, gs, bs, fs⟩, K, h => by
    simp only [edP, forceB_eq] at h
    obtain ⟨S2, h3, h4⟩ := edP_le r h
    exact ⟨S2, (delK_le (S := ⟨base, nt, ts, gs, bs, fs⟩) ids).trans h3, h4⟩
  | .c t :: r, ⟨base, nt, ts, gs, bs, fs⟩, K, h => by
    simp only [edP] at h
    split at h
    · rename_i id off len hv
      split at h
      · rename_i t0 sz n row hb
        rw [forceT_eq, forceG_eq, forceB_eq, forceF_eq] at h
        obtain ⟨S2, h3, h4⟩ := edP_le r h
        exact ⟨S2, (le_cut ⟨base, nt, ts, gs, bs, fs⟩ hv hb).trans h3, h4⟩
      · exact h.no.elim
    · exact h.no.elim
  | .ca t j :: r, ⟨base, nt, ts, gs, bs, fs⟩, K, h => by
    simp only [edP] at h
    split at h
    · rename_i vs hv
      split at h
      · rename_i id off len hj
        split at h
        · rename_i t0 sz n row hb
          rw [forceVL_eq, forceT_eq, forceG_eq, forceB_eq, forceF_eq] at h
          obtain ⟨S2, h3, h4⟩ := edP_le r h
          exact ⟨S2, (le_cutA ⟨base, nt, ts, gs, bs, fs⟩ hv hj hb).trans h3, h4⟩
        · exact h.no.elim
      · exact h.no.elim
    · exact h.no.elim
  | .cb q j :: r, ⟨base, nt, ts, gs, bs, fs⟩, K, h => by
    simp only [edP] at h
    split at h
    · rename_i t cs hq
      split at h
      · rename_i id off len hj
        split at h
        · rename_i t0 sz n row hb
          rw [forceVL_eq, forceT_eq, forceG_eq, forceB_eq, forceB_eq, forceF_eq] at h
          obtain ⟨S2, h3, h4⟩ := edP_le r h
          exact ⟨S2, (le_cutB ⟨base, nt, ts, gs, bs, fs⟩ hq hj hb).trans h3, h4⟩
        · exact h.no.elim
      · exact h.no.elim
    · exact h.no.elim

/-- The slots named alone. -/
def restT (ks : List Nat) : St → St
  | ⟨base, nt, ts, _, bs, fs⟩ => ⟨base, nt, ks.map fun k => (k, getT ts k), [], bs, fs⟩
theorem leT_rest {ts : List (Nat × V)} : ∀ (ks : List Nat), LeT ts (ks.map fun k => (k, getT ts k))
  | [] => trivial
  | k :: r => by
    refine ⟨?_, leT_rest r⟩
    unfold getT
    cases look ts k <;> exact .refl _
theorem restT_le (ks : List Nat) : LE S (restT ks S) := by
  obtain ⟨base, nt, ts, gs, bs, fs⟩ := S
  exact ⟨fun B w0 F ρ a w h => ⟨ρ, h.below, h.tab, h.hB, h.defers, h.nt, h.top.le (leT_rest ks), h.blks, h.sep, h.ge, h.frames⟩⟩

def LeP : St → St → Prop
  | ⟨_, nt, ts, _, bs, fs⟩, ⟨_, nt', ts', gs', bs', fs'⟩ => (nt = nt' ∧ gs' = []) ∧ LeT ts ts' ∧ LeB bs bs' ∧ LeF fs fs'
theorem LeP.le {S S' : St} (h : LeP S S') : LE S S' := by
  obtain ⟨base, nt, ts, gs, bs, fs⟩ := S
  obtain ⟨base', nt', ts', gs', bs', fs'⟩ := S'
  obtain ⟨⟨rfl, rfl⟩, h1, h2, h3⟩ := h
  exact le_mk h1 h2 h3

theorem VLe.tupL {vs vs' : List V} (h : CellsLe vs vs') : VLe (.tup vs) (.tup vs') := ⟨fun w ow ρ x hx => by
  obtain ⟨h1, h2⟩ := h.get
  cases hx with
  | tup hs hv =>
    refine .tup (by rw [hs, h1]) fun j v hj => ?_
    obtain ⟨u, hu, hle⟩ := h2 j v hj
    exact hle.out _ _ _ _ (hv j u hu)⟩

theorem rows_takeL {α : Type} [Inhabited α] {enc : α → List D} {xs : List α} {k : Nat} : ∀ i, i < (xs.take k).length → rows enc xs i = rows enc (xs.take k) i := by
  intro i hi
  have : i < k := by simp at hi; omega
  simp [rows, List.getD_eq_getElem?_getD, this]
theorem BLe.cut0 {α : Type} [Inhabited α] {enc : α → List D} {t t' : TypeId} {sz n k : Nat} {xs : List α} (hn : n = (xs.take k).length) : BLe (.arr t sz n (viewRow (addOff 0 (Int.toNat 0)) (Ab.rows enc xs))) (.arr t' sz (xs.take k).length (Ab.rows enc (xs.take k))) := by
  refine .rows rfl hn fun i hi => ?_
  rw [hn] at hi
  rw [← rows_takeL i hi]
  simp [viewRow_eq, addOff_eq]
theorem BLe.cutN {α : Type} [Inhabited α] {enc : α → List D} {t t' : TypeId} {sz n k : Nat} {xs : List α} (hn : n = ((xs.take (k + n)).drop k).length) : BLe (.arr t sz n (viewRow (addOff 0 k) (Ab.rows enc xs))) (.arr t' sz ((xs.take (k + n)).drop k).length (Ab.rows enc ((xs.take (k + n)).drop k))) := by
  refine .rows rfl hn fun i hi => ?_
  rw [addOff_eq, Nat.zero_add]
  exact rows_vt i hi
/-- What is looked for where a state says no more than another. -/
theorem srA {p : Prop} (h : p := by
  (repeat' first | ((conv => whnf); first | exact trivial | refine And.intro ?_ ?_ | exact KF.mk (by kernel_rfl) | exact KT.mk (by kernel_rfl) | exact BLe.refl _ | exact VLe.refl _) | exact trivial | exact rfl | refine And.intro ?_ ?_ | exact BLe.refl _ | exact VLe.refl _ | exact VLe.any _ | exact VLe.nil_osl rfl | exact VLe.nil_sl rfl | exact VLe.built rfl rfl | (refine VLe.osl rfl ?_; (first | rfl | assumption | (refine Eq.symm ?_; assumption) | (simp; done) | (simp [dsub_eq] <;> omega) | omega | (simp [dsub_eq] <;> (dsimp only at *; omega)))) | exact VLe.rows (by first | rfl | assumption | (refine Eq.symm ?_; assumption) | (simp; done) | (simp [dsub_eq] <;> omega) | omega | (simp [dsub_eq] <;> (dsimp only at *; omega))) (fun _ _ => rfl) | exact VLe.rows (by simp [dsub_eq] <;> omega) rows_take | exact VLe.rows (by simp [dsub_eq] <;> omega) rows_dt | exact VLe.rows (by simp [dsub_eq] <;> omega) rows_vt | exact VLe.rows (by simp) (fun i _ => by simp [viewRow_eq, Nat.add_comm]) | refine VLe.aggL ?_ | refine VLe.tupL ?_ | (refine BLe.rows rfl ?_ fun _ _ => rfl; (first | rfl | assumption | (refine Eq.symm ?_; assumption) | (simp; done) | (simp [dsub_eq] <;> omega) | omega | (simp [dsub_eq] <;> (dsimp only at *; omega)))) | (refine BLe.rows rfl rfl ?_; first | exact rows_take) | (refine BLe.cutN ?_; (first | rfl | (simp; done) | (simp [dsub_eq] <;> omega) | (simp [dsub_eq] <;> (dsimp only at *; omega)))) | (refine BLe.cut0 ?_; (first | rfl | (simp; done) | (simp [dsub_eq] <;> omega) | (simp [dsub_eq] <;> (dsimp only at *; omega)))) | (refine BLe.rows rfl ?_ rows_take; (first | rfl | (simp; done) | (simp [dsub_eq] <;> omega) | omega | (simp [dsub_eq] <;> (dsimp only at *; omega)))) | refine BLe.box ?_ | exact fun _ _ => rfl | exact rows_take | (intro i hi; dsimp only at hi ⊢; simp only [List.length_take] at hi; simp [viewRow_eq, addOff_eq, List.getD_eq_getElem?_getD, Nat.lt_of_lt_of_le hi (Nat.min_le_left _ _)]; done) | (first | rfl | assumption | (refine Eq.symm ?_; assumption) | (simp; done) | (simp [dsub_eq] <;> omega) | omega | (simp [dsub_eq] <;> (dsimp only at *; omega))))) : p := h

def keysT : St → List Nat
  | ⟨_, _, ts, _, _, _⟩ => ts.map (·.1)
theorem leX {S S' : St} (l : List Ed) (h : stK (restT (keysT S') S) fun S => edP l S fun S1 => LeP S1 S' := by exact srA) : LE S S' := by
  rw [stK_eq] at h
  obtain ⟨S1, h1, h2⟩ := edP_le l h
  exact (restT_le _).trans (h1.trans h2.le)

/-! ### A function's end -/
def keysR : List ResultVar → List Nat
  | [] => []
  | .tmp t :: r => t :: keysR r
  | .cell x _ :: r => x :: keysR r
def retX (tb : Tb) (rs : List ResultVar) (res : V) (nb : List Nb) : Exit → St → Prop := fun e S' => match e with
  | .ret => ∃ S'', LE S' S'' ∧ resV tb rs S'' fun v => VLe v res ∧ NbIn S''.blks nb
  | .normal => ∃ S'', LE S' S'' ∧ resV tb rs S'' fun v => VLe v res ∧ NbIn S''.blks nb
  | _ => Stuck "return no way out"
theorem lfP {rs : List ResultVar} {res : V} {nb : List Nb} (l : List Ed) (h : stK (restT (keysR rs) S) fun S => edP l S fun S1 => resV tb rs S1 fun v => VLe v res ∧ NbIn S1.blks nb := by exact srA) :
    ∃ S'', LE S S'' ∧ resV tb rs S'' fun v => VLe v res ∧ NbIn S''.blks nb := by
  rw [stK_eq] at h
  obtain ⟨S1, h1, h2⟩ := edP_le l h
  exact ⟨S1, (restT_le _).trans h1, h2⟩

theorem retX_sound (hT : TOk P tb) {fn : Func} {res : V} {nb : List Nb} {S' : St} {a' : Act} {w' : World} (hflat : flatV res = true) (hrows : ∀ b ∈ nb, ∀ i, i < b.n → ∀ d ∈ b.row i, atomD d = true)
    (h : Sim P (allOld w) w [] ρ S' a' w') (hk : resV tb fn.results.toList S' fun v => VLe v res ∧ NbIn S'.blks nb) :
    a'.defers = [] ∧ ∃ v, (results fn a'.tmps).run P w' = .ok v w' ∧ ∃ v' ρ', Ending.returned v = .returned v' ∧ Pure w w' ∧ VR w' (fun b => b < w.heap.size) ρ' res v' ∧
      (∀ b ∈ nb, BR w' (fun b => b < w.heap.size) ρ' b.id (.arr b.t b.sz b.n b.row)) ∧ (∀ x ∈ nb, ∀ y ∈ nb, (ρ' x.id).ph = false → (ρ' y.id).ph = false → (ρ' x.id).b = (ρ' y.id).b → x.id = y.id) ∧ (∀ x ∈ nb, (ρ' x.id).ph = false → w.heap.size ≤ (ρ' x.id).b) := by
  obtain ⟨x, v, h1, h2, h3, h4⟩ := resV_sound hT h fn _ hk
  have hn := nbIn_mem h4
  refine ⟨h.defers, v, h1, v, ρ, rfl, ⟨h.below.os, h.below.tape, h.below.output, h.below.size, h.below.block⟩, (h3.out _ _ _ _ h2).flat hflat, fun b hb => ?_, fun p hp q hq hpp hpq hpe => ?_, fun p hp hpp => ?_⟩
  · obtain ⟨t, n, row, g1, g2, g3⟩ := hn b hb
    subst g2
    cases h.blks _ _ g1 with
    | arr0 k1 k2 k3 k4 => exact .arr0 k1 k2 k3 k4
    | arr C et k1 k2 k3 k4 k5 k6 k7 k8 =>
      exact .arr C et k1 k2 k3 k4 (fun i hi => by rw [← g3 i hi]; exact k5 i hi) k6 k7 fun i j d hi hd => (k8 i j d hi (by rw [g3 i hi]; exact hd)).atom (hrows b hb i hi d (List.mem_of_getElem? hd)) _ _
  · obtain ⟨_, _, _, g1, _⟩ := hn p hp
    obtain ⟨_, _, _, g2, _⟩ := hn q hq
    exact h.sep _ _ _ _ g1 g2 hpp hpq hpe
  · obtain ⟨_, _, _, g1, _⟩ := hn p hp
    exact Nat.le_of_not_lt (h.ge _ _ g1 hpp)

theorem pureC_x (hT : TOk P tb) {f : FuncId} {fn : Func} {c : Code} {args : List V} {res : V} {nb : List Nb} (hf : P.funcs[f]? = some fn) (hb : fn.body = some c)
    (h : wpc P tb c ⟨0, fn.ntmps, enumT 0 args, [], [], []⟩ (retX tb fn.results.toList res nb)) (hn : (fn.name == "runtime.NumGoroutine") = false := by kernel_rfl)
    (hl : Nat.ble args.length fn.ntmps = true := by kernel_rfl) (hflat : flatV res = true := by kernel_rfl) (hrows : ∀ b ∈ nb, ∀ i, i < b.n → ∀ d ∈ b.row i, atomD d = true := by simp [atomD]) (hdist : nb.Pairwise fun x y => x.id ≠ y.id := by simp) (hids : ∀ id, res.mentions id = true → ∃ b ∈ nb, b.id = id := by exact ids_of rfl) : PureC P f args res nb := by
  refine ⟨⟨fn, hf, hn, by simp [hb]⟩, hflat, hrows, hdist, hids, fun w vals ρ0 hv htab => ?_⟩
  have hl := Nat.le_of_ble_eq_true hl
  have hvs := hv.1
  have hown : ∀ b, own ([] : List (Nat × Blk)) ρ0 b → False := fun b ⟨_, _, h, _⟩ => by simp [look] at h
  refine calls_of_wp hf hb (wp_mono (wpc_sound hT c _ _ h (allOld w) w [] ρ0 ⟨vals ++ Array.replicate (fn.ntmps - vals.size) undef, []⟩ w ?_) ?_)
  · refine ⟨Kept.refl _ _, htab, fun _ h => h, rfl, by simp; omega, ⟨fun t v ht => ?_, fun g hg => by simp at hg⟩, fun id b hb => by simp [look] at hb, fun i j x y hx => by simp [look] at hx, fun i x hx => by simp [look] at hx, rfl, fun i f tm hf => by simp at hf⟩
    obtain ⟨_, h2⟩ := look_enumT ht
    have hlt := (List.getElem?_eq_some_iff.1 h2).1
    simp only [Nat.sub_zero] at h2 hlt
    dsimp only
    rw [enter_getD (by omega)]
    exact (hv.2 t v h2).keep ⟨Nat.le_refl _, fun b _ _ => ⟨rfl, fun h => h.elim (hown b) fun h => h⟩⟩ fun _ _ => rfl
  · rintro e a' w' ⟨ρ', S', h1, h2⟩
    cases e <;> simp only [retX] at h2 <;> first
      | exact h2.no.elim
      | (obtain ⟨S'', hle, hk⟩ := h2
         obtain ⟨ρ'', h3⟩ := hle.out _ _ _ _ _ _ h1
         exact retX_sound hT hflat hrows h3 hk)

def anchLX (M : List (Nat × Blk)) (ts : List (Nat × V)) : Nat → List (Nat × Blk) → Prop
  | _, [] => True
  | t, (j, b) :: r => (match look M j with
    | some b' => sameF b b' ∧ (match look ts t with
      | some u => VLe u (anch b j)
      | none => Stuck "no anchor")
    | none => True) ∧ anchLX M ts (t + 1) r
def anchFX (M bs : List (Nat × Blk)) : List Fr → Prop
  | ⟨ts, _⟩ :: _ => anchLX M ts 0 bs
  | [] => Stuck "no frame"
theorem anchLX_of {M : List (Nat × Blk)} {ts : List (Nat × V)} : ∀ {bs : List (Nat × Blk)} {t : Nat}, anchLX M ts t bs → ∀ j b b', look bs j = some b → look M j = some b' → ∃ i u, bs[i]? = some (j, b) ∧ sameF b b' ∧ look ts (t + i) = some u ∧ VLe u (anch b j)
  | (u, x) :: r, t, h, j, b, b', hb, hb' => by
    simp only [anchLX] at h
    rcases look_cons hb with ⟨rfl, rfl⟩ | ⟨hn, hb⟩
    · have h1 := h.1
      rw [hb'] at h1
      obtain ⟨h1, h2⟩ := h1
      cases hl : look ts t with
      | none => rw [hl] at h2; exact h2.no.elim
      | some v => rw [hl] at h2; exact ⟨0, v, rfl, h1, hl, h2⟩
    · obtain ⟨i, v, h1, h2, h3, h4⟩ := anchLX_of h.2 j b b' hb hb'
      exact ⟨i + 1, v, by simpa using h1, h2, by rw [show t + (i + 1) = t + 1 + i by omega]; exact h3, h4⟩
  | [], _, _, _, _, _, hb, _ => by simp [look] at hb

def retEX (tb : Tb) (rs : List ResultVar) (res : V) (bs M : List (Nat × Blk)) : Exit → St → Prop := fun e S' => match e with
  | .ret => ∃ S'', LE S' S'' ∧ resV tb rs S'' fun v => VLe v res ∧ outB S''.blks M ∧ anchFX M bs S''.frames
  | .normal => ∃ S'', LE S' S'' ∧ resV tb rs S'' fun v => VLe v res ∧ outB S''.blks M ∧ anchFX M bs S''.frames
  | _ => Stuck "return no way out"
theorem lfE {rs : List ResultVar} {res : V} {bs M : List (Nat × Blk)} (l : List Ed) (h : stK (restT (keysR rs) S) fun S => edP l S fun S1 => resV tb rs S1 fun v => VLe v res ∧ outB S1.blks M ∧ anchFX M bs S1.frames := by exact srA) :
    ∃ S'', LE S S'' ∧ resV tb rs S'' fun v => VLe v res ∧ outB S''.blks M ∧ anchFX M bs S''.frames := by
  rw [stK_eq] at h
  obtain ⟨S1, h1, h2⟩ := edP_le l h
  exact ⟨S1, (restT_le _).trans h1, h2⟩

theorem effC_x (hT : TOk P tb) {f : FuncId} {fn : Func} {c : Code} {args : List V} {res : V} {bs M : List (Nat × Blk)} (hf : P.funcs[f]? = some fn) (hb : fn.body = some c)
    (h : wpc P tb c ⟨0, fn.ntmps, enumT 0 args, [], bs, [⟨anchT 0 bs, []⟩]⟩ (retEX tb fn.results.toList res bs M)) (hn : (fn.name == "runtime.NumGoroutine") = false := by kernel_rfl)
    (hl : Nat.ble args.length fn.ntmps = true := by kernel_rfl) (s1 : res.within (hasB M) = true := by kernel_rfl) (s2 : withinB (hasB M) M = true := by kernel_rfl) (s3 : apartN (fun i => i) (idsB bs) = true := by kernel_rfl) : EffC P f args bs res M := by
  refine ⟨⟨fn, hf, hn, by simp [hb]⟩, s1, s2, fun Z w vals ρ0 hv hblk hsep hZ hlt htab => ?_⟩
  have hl := Nat.le_of_ble_eq_true hl
  have hvs := hv.1
  let B : Bd := ⟨fun b => b < w.heap.size ∧ ¬ own bs ρ0 b, Z, fun b hb => ⟨hlt b hb, fun ⟨i, x, hx, hp, e⟩ => hZ i x hx hp (e ▸ hb)⟩⟩
  let tm : Array Value := (bs.map fun p => anchVal ρ0 p.2 p.1).toArray
  refine calls_of_wp hf hb (wp_mono (wpc_sound hT c _ _ h B w [tm] ρ0 ⟨vals ++ Array.replicate (fn.ntmps - vals.size) undef, []⟩ w ?_) ?_)
  · refine ⟨Kept.refl _ _, htab, fun _ h => h.1, rfl, by simp; omega, ⟨fun t v ht => ?_, fun g hg => by simp at hg⟩, hblk, hsep, fun i x hx hp hk => hk.2 ⟨i, x, hx, hp, rfl⟩, rfl, fun i f t hf' ht => ?_⟩
    · obtain ⟨_, h2⟩ := look_enumT ht
      have hlt := (List.getElem?_eq_some_iff.1 h2).1
      simp only [Nat.sub_zero] at h2 hlt
      dsimp only
      rw [enter_getD (by omega)]
      exact hv.2 t v h2
    · cases i with
      | succ i => simp at hf'
      | zero =>
        simp only [List.getElem?_cons_zero, Option.some.injEq] at hf' ht
        subst hf' ht
        refine ⟨fun t v htv => ?_, fun g hg => by simp at hg⟩
        obtain ⟨i, j, b, rfl, h1, rfl⟩ := anchT_get htv
        rw [Nat.zero_add, anchVals_get h1]
        exact anch_val (hblk j b (look_of_get s3 h1))
  · rintro e a' w' ⟨ρ', S', h1, h2⟩
    have key : (∃ S'', LE S' S'' ∧ resV tb fn.results.toList S'' fun v => VLe v res ∧ outB S''.blks M ∧ anchFX M bs S''.frames) → a'.defers = [] ∧ ∃ v, (results fn a'.tmps).run P w' = .ok v w' ∧ ∃ v' ρ, Ending.returned v = .returned v' ∧ Kept (fun b => b < w.heap.size ∧ ¬ own bs ρ0 b) w w' ∧ (∀ i x y, look bs i = some x → look M i = some y → Agr (ρ0 i) (ρ i)) ∧
      VR w' (fun x => own M ρ x ∨ Z x) ρ res v' ∧ (∀ i b, look M i = some b → BR w' (fun x => own M ρ x ∨ Z x) ρ i b) ∧
      (∀ i j x y, look M i = some x → look M j = some y → (ρ i).ph = false → (ρ j).ph = false → (ρ i).b = (ρ j).b → i = j) ∧
      (∀ i x, look M i = some x → (ρ i).ph = false → w.heap.size ≤ (ρ i).b ∨ own bs ρ0 (ρ i).b) := fun hk => by
      obtain ⟨S'', hle, hk⟩ := hk
      obtain ⟨ρ', h1⟩ := hle.out _ _ _ _ _ _ h1
      obtain ⟨x, v, k1, k2, k3, k4, k5⟩ := resV_sound hT h1 fn _ hk
      have hout := outB_of k4
      have look1 : ∀ i b, look M i = some b → ∃ b0, look S''.blks i = some b0 ∧ BLe b0 b := fun i b hb => hout i b (mem_of_look hb)
      have sub : ∀ b, own M ρ' b ∨ Z b → ownZ B S''.blks ρ' b := fun b hb => by
        rcases hb with ⟨i, y, hy, hp, e⟩ | hb
        · obtain ⟨b0, g1, _⟩ := look1 i y hy
          exact .inl ⟨i, b0, g1, hp, e⟩
        · exact .inr hb
      refine ⟨h1.defers, v, k1, v, ρ', rfl, h1.below, fun i y z hy hz => ?_, (k3.out _ _ _ _ k2).mono sub, fun i b hb => ?_, fun i j y z hy hz => ?_, fun i y hy hp => ?_⟩
      · cases hfr : S''.frames with
        | nil => rw [hfr] at k5; exact k5.no.elim
        | cons f0 fs =>
          rw [hfr] at k5
          obtain ⟨ts, gs⟩ := f0
          obtain ⟨n, u, g1, g2, g3, g7⟩ := anchLX_of k5 i y z hy hz
          obtain ⟨z0, g4, g5⟩ := look1 i z hz
          have g6 := g7.out _ _ _ _ ((h1.frames.2 0 ⟨ts, gs⟩ tm (by rw [hfr]; rfl) rfl).tmps _ _ g3)
          rw [Nat.zero_add, anchVals_get g1] at g6
          exact anch_agr (hblk i y hy) (g5.out _ _ _ _ (h1.blks i z0 g4)) g2 g6
      · obtain ⟨b0, g1, g2⟩ := look1 i b hb
        exact (g2.out _ _ _ _ (h1.blks i b0 g1)).mono sub
      · obtain ⟨y0, g1, _⟩ := look1 i y hy
        obtain ⟨z0, g2, _⟩ := look1 j z hz
        exact h1.sep i j y0 z0 g1 g2
      · obtain ⟨y0, g1, _⟩ := look1 i y hy
        have := h1.ge i y0 g1 hp
        rcases Nat.lt_or_ge (ρ' i).b w.heap.size with h3 | h3
        · exact .inr (Classical.byContradiction fun h4 => this ⟨h3, h4⟩)
        · exact .inl h3
    cases e <;> simp only [retEX] at h2 <;> first
      | exact h2.no.elim
      | exact key h2

/-! ### Drawn regions: a table of what operations do -/
/-- e: a call that writes: place, the hidden blocks that it finds, its value, what it makes, the hidden ones behind it, those that it only reads; r: a call that only reads hidden blocks; a: an operation on hidden blocks; l: one that only reads; u: a call that reads. -/
inductive Tr where
  | e (j : Nat) (pre : List (Nat × Blk)) (res : V) (nb post : List (Nat × Blk))
  | r (j : Nat) (pre : List (Nat × Blk)) (res : V) (nb : List (Nat × Blk))
  | a (j : Nat) (pre : List (Nat × Blk)) (res : V) (post : List (Nat × Blk))
  | l (j : Nat) (pre : List (Nat × Blk)) (res : V)
  | u (j k : Nat) (res : V) (nb : List Nb)
def Tr.j : Tr → Nat
  | .e j _ _ _ _ => j
  | .r j _ _ _ => j
  | .a j _ _ _ => j
  | .l j _ _ => j
  | .u j _ _ _ => j
def Tr.c (P : Program) : Tr → CS
  | .e _ pre res nb post => .eff res nb post (fun g vs => EffD P pre g vs res nb post) (LeB pre post)
  | .r _ pre res nb => .eff res nb pre (fun g vs => EffD P pre g vs res nb pre) (LeB pre pre)
  | .a _ pre res post => .app pre res post
  | .l _ pre res => .app pre res pre
  | .u _ k res nb => .pure k res nb
def Tr.p : Tr → List (Nat × Blk)
  | .e _ pre _ _ _ => pre
  | .r _ pre _ _ => pre
  | .a _ pre _ _ => pre
  | .l _ pre _ => pre
  | .u _ _ _ _ => []
def Tr.o : Tr → List Nat
  | .r _ pre _ _ => idsB pre
  | .l _ pre _ => idsB pre
  | _ => []
noncomputable def trF (l : List Tr) (j : Nat) : Option Tr := List.rec (motive := fun _ => Option Tr) none (fun t _ ih => match Nat.beq t.j j with
  | true => some t
  | false => ih) l
noncomputable def tcs (P : Program) (l : List Tr) (j : Nat) : Option CS := match trF l j with
  | some t => some (t.c P)
  | none => none
noncomputable def tpr (l : List Tr) (j : Nat) : List (Nat × Blk) := match trF l j with
  | some t => t.p
  | none => []
noncomputable def tro (l : List Tr) (j : Nat) : List Nat := match trF l j with
  | some t => t.o
  | none => []
/-- A number's bits, the last one set. -/
noncomputable def bitsF (f : Nat) : Nat → List Bool := Nat.rec (motive := fun _ => Nat → List Bool) (fun _ => []) (fun _ ih n => match Nat.beq n 0 with
  | true => []
  | false => Nat.beq (n % 2) 1 :: ih (n / 2)) f
noncomputable def dm (l : List Nat) : List (List Bool) := l.map (bitsF 400)

theorem chA {p : Prop} (h : p := by
  (repeat' first | exact chainG_nil | refine chainG_pure rfl ?_ | refine chainG_eff rfl (fun _ _ h => h) (fun h => h) rfl rfl ?_ | refine chainG_app rfl rfl rfl rfl ?_)) : p := h

theorem draw_t (hT : TOk P tb) {id : Nat} {opsA : Array Oper} {S : St} {K : St → Prop} (l : List Tr) (m : Nat) (ls mk mkt ids : List Nat) (h : evDrawH P tb (tcs P l) (tpr l) (tro l) m (dm mk) ids opsA.toList S K)
    (hmx : P.follows .mixedOrders = true := by kernel_rfl) (hml : m ≤ opsA.size := by decide) (hec : (efCall opsA.toList (tcs P l) m && dstChk opsA.toList (tcs P l) m) = true := by kernel_rfl)
    (hch : chainG P (tcs P l) (tpr l) (tro l) (pickIds S.blks ids) (dm mk) m := by exact chA) (hst : statOkL m ls opsA.toList (dm mk) (dm mkt) = true := by kernel_rfl) : DrawP P id opsA S K :=
  draw_gk hT hmx (tcs P l) (tpr l) (tro l) m ls (dm mk) (dm mkt) ids hml hec hch hst h
theorem draw_u (hT : TOk P tb) {id : Nat} {opsA : Array Oper} {S : St} {K : St → Prop} (l : List Tr) (m : Nat) (ls mk mkt : List Nat) (h : evDrawK P tb (tcs P l) m (dm mk) opsA.toList S K)
    (hmx : P.follows .mixedOrders = true := by kernel_rfl) (hml : m ≤ opsA.size := by decide) (hno : (noEff (tcs P l) m && dstChk opsA.toList (tcs P l) m) = true := by kernel_rfl)
    (hst : statOkL m ls opsA.toList (dm mk) (dm mkt) = true := by kernel_rfl) : DrawP P id opsA S K :=
  draw_k hT hmx (tcs P l) m ls (dm mk) (dm mkt) hml hno hst h

/-! ### Calls, with what is to be looked for left out -/
theorem eD {pre nb post : List (Nat × Blk)} {f : FuncId} {args args' : List V} {bs M : List (Nat × Blk)} {res res' : V} (r : List (Nat × Nat)) (k : Nat) (h : EffC P f args' bs res' M)
    (hw : CellsLe args (renL (renN r k) args') := by exact argA) (hi : inB pre (renN r k) bs := by exact inA) (ha : apartN (renN r k) (idsB bs ++ newIds bs M) = true := by kernel_rfl) (hr : res'.ren (renN r k) = res := by kernel_rfl)
    (hnb : newB (renN r k) bs M [] M = nb := by kernel_rfl) (hpost : effB (renN r k) M pre bs = post := by kernel_rfl) : EffD P pre f args res nb post := effD_mk r k h hw hi ha hr hnb hpost
theorem cC {base nt : Nat} {ts : List (Nat × V)} {gs : List Gd} {bs : List (Nat × Blk)} {fs : List Fr} {f : FuncId} {args args' : List V} {res : V} {nb : List Nb} {K : V → St → Prop} (k : Nat) (h : PureC P f args' res nb)
    (hk : forceV (res.shift k) fun v => forceB (nb.map (Nb.ent k) ++ bs) fun bs => K v ⟨base, nt, ts, gs, bs, fs⟩) (hv : viewL (look bs) args = some args' := by kernel_rfl) (hm : (nb.all fun b => !(St.mentions ⟨base, nt, ts, gs, bs, fs⟩ (b.id + k))) = true := by kernel_rfl) :
    CallP P f args ⟨base, nt, ts, gs, bs, fs⟩ K := callC k h hv hm hk
theorem cE {base nt : Nat} {ts : List (Nat × V)} {gs : List Gd} {blks : List (Nat × Blk)} {fs : List Fr} {f : FuncId} {args args' : List V} {bs M : List (Nat × Blk)} {res : V} {K : V → St → Prop} (r : List (Nat × Nat)) (k : Nat) (h : EffC P f args' bs res M)
    (hk : forceV (res.ren (renN r k)) fun v => forceB (newB (renN r k) bs M (effB (renN r k) M blks bs) M) fun bs => K v ⟨base, nt, ts, gs, bs, fs⟩)
    (hw : CellsLe args (renL (renN r k) args') := by exact argA) (hi : inB blks (renN r k) bs := by exact inA) (ha : apartN (renN r k) (idsB bs ++ newIds bs M) = true := by kernel_rfl) (hm : (newIds bs M).all (fun j => !(St.mentions ⟨base, nt, ts, gs, blks, fs⟩ (renN r k j))) = true := by kernel_rfl) :
    CallP P f args ⟨base, nt, ts, gs, blks, fs⟩ K := callE r k h hw hi ha hm hk

theorem look_nbs_mem {nb : List Nb} (hd : nb.Pairwise fun x y => x.id ≠ y.id) : ∀ b ∈ nb, look (nbsOf nb) b.id = some (.arr b.t b.sz b.n b.row) := by
  induction nb with
  | nil => intro b hb; exact absurd hb (by simp)
  | cons x r ih =>
    intro b hb
    obtain ⟨h1, h2⟩ := List.pairwise_cons.1 hd
    show look ((x.id, Blk.arr x.t x.sz x.n x.row) :: nbsOf r) b.id = _
    unfold look
    rcases List.mem_cons.1 hb with rfl | hb
    · rw [Nat.beq_refl]
    · have : Nat.beq x.id b.id = false := by
        cases e : Nat.beq x.id b.id
        · rfl
        · exact absurd (Nat.eq_of_beq_eq_true e) (h1 b hb)
      rw [this]
      exact ih h2 b hb
/-- A list, some places of which hold nothing any more. -/
def clrL {α : Type} [Inhabited α] (xs : List α) (o l : Nat) : List α := (List.range xs.length).map fun i => if o ≤ i ∧ i < o + l then default else xs.getD i default
@[simp] theorem clrL_length {α : Type} [Inhabited α] {xs : List α} {o l : Nat} : (clrL xs o l).length = xs.length := by simp [clrL]
/-- What touches no block of the caller's only reads. -/
theorem EffC.pure {P : Program} {f : FuncId} {args : List V} {res : V} {nb : List Nb} {M : List (Nat × Blk)} (h : EffC P f args [] res M) (hM : nbsOf nb = M := by rfl) (hflat : flatV res = true := by kernel_rfl) (hrows : ∀ b ∈ nb, ∀ i, i < b.n → ∀ d ∈ b.row i, atomD d = true := by simp [atomD])
    (hdist : nb.Pairwise fun x y => x.id ≠ y.id := by simp) (hids : ∀ id, res.mentions id = true → ∃ b ∈ nb, b.id = id := by exact ids_of rfl) : PureC P f args res nb := by
  subst hM
  have no : ∀ ρ0 b, own ([] : List (Nat × Blk)) ρ0 b → False := fun ρ0 b ⟨_, _, h, _⟩ => by simp [look] at h
  refine ⟨h.can, hflat, hrows, hdist, hids, fun w vals ρ0 hv ht => ?_⟩
  refine Calls.mono (h.out (fun _ => False) w vals ρ0 ⟨hv.1, fun j v hj => (hv.2 j v hj).mono fun b hb => hb.elim (no ρ0 b) fun x => x⟩ (fun i b hb => by simp [look] at hb) (fun i j x y hx => by simp [look] at hx) (fun i x hx => by simp [look] at hx) (fun b hb => hb.elim) (ht.mono fun b hb => ⟨hb, fun ho => no ρ0 b ho⟩)) ?_
  rintro e w' ⟨v, ρ, rfl, g1, g2, g3, g4, g5, g6⟩
  refine ⟨v, ρ, rfl, ⟨g1.os, g1.tape, g1.output, g1.size, fun k hk => g1.block k ⟨hk, no ρ0 k⟩⟩, g3.flat hflat, fun b hb => ?_, fun x hx y hy p q e => ?_, fun x hx p => ?_⟩
  · have := BR.shiftFlat (k := 0) (ρ' := ρ) (w' := w') (ow' := fun b => b < w.heap.size) (g4 b.id _ (look_nbs_mem hdist b hb)) (hrows b hb) rfl rfl
    exact this
  · exact g5 x.id y.id _ _ (look_nbs_mem hdist x hx) (look_nbs_mem hdist y hy) p q e
  · exact (g6 x.id _ (look_nbs_mem hdist x hx) p).elim (fun h => h) fun h => (no ρ0 _ h).elim

def fnOk (P : Program) (f : FuncId) : Bool := match P.funcs[f]? with
  | some fn => !(fn.name == "runtime.NumGoroutine") && !fn.body.isNone
  | none => false
theorem cG {S S' : St} {al l : List (Nat × Bool)} {f : FuncId} {args args' : List V} {res : V} {K : V → St → Prop} {key : Nat} {want : Bool} (h : condP S al l (PureC P f args' res [])) (hk : K res S') (hf : fnOk P f = true := by kernel_rfl)
    (hv : viewL (look S'.blks) args = some args' := by kernel_rfl) (hfl : flatV res = true := by kernel_rfl) (hm : res.plain = true := by kernel_rfl) : CallG P (condP S al l) (condN S' key want) f args S' K := by
  unfold fnOk at hf
  split at hf
  · rename_i fn e
    rw [Bool.and_eq_true, Bool.not_eq_true', Bool.not_eq_true'] at hf
    exact callG_m e hf.1 hf.2 hv hfl hm h hk
  · exact absurd hf (by decide)

/-! ### Parts of walks that come again and again -/
theorem andI {p q : Prop} {b : Bool} {α : Type} {x y : Option α} {r : α} (h : (if b = true then x else y) = some r) (hp : b = true → x = some r → p) (hq : b = false → y = some r → q) : (b = true → p) ∧ (b = false → q) :=
  ⟨fun e => hp e (ite_t h e), fun e => hq e (ite_f h e)⟩
theorem bd_set {α β : Type} [Inhabited α] {xs : List α} {i : Nat} {e : α} {k : List α → Option β} {r : β} (h : bd (some (xs.set i e)) k = some r) : ∃ y, xs.set i e = y ∧ y.length = xs.length ∧ k y = some r := by
  obtain ⟨y, h1, h2⟩ := bd_some h
  exact ⟨y, Option.some.inj h1, set_len (Option.some.inj h1), h2⟩
theorem appS {α : Type} [Inhabited α] {enc : α → List D} {xs ys : List α} {n m : Nat} {r r' : Nat → List D} {K : Nat → (Nat → List D) → Prop} (k : K (xs ++ ys).length (rows enc (xs ++ ys)))
    (hn : n = xs.length := by first | rfl | assumption | (refine Eq.symm ?_; assumption) | (simp; done) | (simp [dsub_eq] <;> omega) | omega) (hm : m = ys.length := by first | rfl | assumption | (refine Eq.symm ?_; assumption) | (simp; done) | (simp [dsub_eq] <;> omega) | omega)
    (h1 : ∀ i, i < n → r i = rows enc xs i := by first | exact fun _ _ => rfl | exact rows_take | (intro i hi; simp only [viewRow_eq, addOff_eq, Int.toNat_zero, Nat.zero_add, Nat.add_zero]; exact rows_take i hi) | exact rows_vt | exact rows_dt | (intro i hi; simp only [viewRow_eq, Nat.zero_add]) | (intro i hi; simp [viewRow_eq]))
    (h2 : ∀ i, i < m → r' i = rows enc ys i := by first | exact fun _ _ => rfl | exact rows_take | (intro i hi; simp only [viewRow_eq, addOff_eq, Int.toNat_zero, Nat.zero_add, Nat.add_zero]; exact rows_take i hi) | exact rows_vt | exact rows_dt | (intro i hi; simp only [viewRow_eq, Nat.zero_add]) | (intro i hi; simp [viewRow_eq])) :
    ∃ c row, c = n + m ∧ (∀ i, i < c → row i = catRow n r r' i) ∧ K c row :=
  ⟨(xs ++ ys).length, rows enc (xs ++ ys), by rw [List.length_append, hn, hm], app_rows hn hm h1 h2, k⟩
theorem appN {α : Type} [Inhabited α] {enc : α → List D} {ys : List α} {m : Nat} {r' : Nat → List D} {K : Nat → (Nat → List D) → Prop} (k : K ys.length (rows enc ys))
    (hm : m = ys.length := by first | rfl | assumption | (refine Eq.symm ?_; assumption) | (simp; done) | (simp [dsub_eq] <;> omega) | omega)
    (h2 : ∀ i, i < m → r' i = rows enc ys i := by first | exact fun _ _ => rfl | exact rows_take | (intro i hi; simp only [viewRow_eq, addOff_eq, Int.toNat_zero, Nat.zero_add, Nat.add_zero]; exact rows_take i hi) | exact rows_vt | exact rows_dt | (intro i hi; simp only [viewRow_eq, Nat.zero_add]) | (intro i hi; simp [viewRow_eq])) :
    ∃ c row, c = m ∧ (∀ i, i < c → row i = r' i) ∧ K c row := ⟨ys.length, rows enc ys, hm.symm, app_rows0 hm h2, k⟩
theorem bldS {α : Type} {enc : α → List D} [Inhabited α] (ys : List α) {n : Nat} {rs : List (List D)} {K : Nat → (Nat → List D) → Prop} (k : K ys.length (rows enc ys)) (hn : ys.length = n := by kernel_rfl) (hr : rs = ys.map enc := by kernel_rfl) :
    ∃ c row, c = n ∧ (∀ i, i < c → row i = rowAt rs i) ∧ K c row := ⟨ys.length, rows enc ys, hn, by subst hr; exact build_rows, k⟩
theorem setS {α : Type} [Inhabited α] {enc : α → List D} {xs y : List α} {n r off : Nat} {ds : List D} {e : α} {K : (Nat → List D) → Prop} (hy : xs.set r e = y) (k : K (rows enc y)) (hn : n = xs.length := by first | rfl | assumption | (refine Eq.symm ?_; assumption) | (simp; done) | (simp [dsub_eq] <;> omega) | omega) (h : setAt (rows enc xs r) off ds = enc e := by kernel_rfl) :
    ∃ row, (∀ i, i < n → row i = if i = r then setAt (rows enc xs r) off ds else rows enc xs i) ∧ K row := ⟨rows enc y, store_rows2 hy hn h, k⟩
theorem gdI {c : Prop} {α : Type} {m : Option α} {r : α} {p : Prop} (h : gd c m = some r) (k : m = some r → p) : c ∧ p := ⟨(gd_some h).1, k (gd_some h).2⟩

end Go.Ab
