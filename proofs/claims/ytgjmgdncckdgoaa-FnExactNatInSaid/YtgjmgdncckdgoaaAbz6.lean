/-
  Models and walks beside them; plain facts on loops: a part of the frame in which a given row's proof walks the program; no condition.
-/
import Derived.Test.YtgjmgdncckdgoaaAbz5
set_option linter.all false
namespace Go.Ab
open Go.RowKit
variable {P : Program} {tb : Tb} {S : St} {α β σ : Type}

open Classical in
noncomputable def gd (c : Prop) (m : Option α) : Option α := if c then m else none
theorem gd_some {c : Prop} {m : Option α} {r : α} (h : gd c m = some r) : c ∧ m = some r := by
  unfold gd at h; split at h
  · exact ⟨‹_›, h⟩
  · cases h
theorem gd_pos {c : Prop} {m : Option α} (h : c) : gd c m = m := if_pos h
theorem gd_neg {c : Prop} {m : Option α} (h : ¬ c) : gd c m = none := if_neg h
def bd (m : Option α) (k : α → Option β) : Option β := match m with
  | some x => k x
  | none => none
theorem bd_some {m : Option α} {k : α → Option β} {r : β} (h : bd m k = some r) : ∃ x, m = some x ∧ k x = some r := by
  cases m with
  | none => cases h
  | some x => exact ⟨x, rfl, h⟩
@[simp] theorem bd_val {x : α} {k : α → Option β} : bd (some x) k = k x := rfl
theorem bd_of {m : Option α} {x : α} {k : α → Option β} (h : m = some x) : bd m k = k x := by rw [h]; rfl
theorem ite_t {b : Bool} {x y : Option α} {r : α} (h : (if b = true then x else y) = some r) (e : b = true) : x = some r := by rwa [if_pos e] at h
theorem ite_f {b : Bool} {x y : Option α} {r : α} (h : (if b = true then x else y) = some r) (e : b = false) : y = some r := by rwa [if_neg (by rw [e]; decide)] at h
open Classical in
noncomputable def gcall (c : Prop) [Inhabited α] (m : Option α) : Option α := if c then m else some default
theorem gcall_pos {c : Prop} [Inhabited α] {m : Option α} (h : c) : gcall c m = m := if_pos h
theorem gcall_neg {c : Prop} [Inhabited α] {m : Option α} (h : ¬ c) : gcall c m = some default := if_neg h
theorem gcall_some {c : Prop} [Inhabited α] {m : Option α} {x : α} (h : gcall c m = some x) (hc : c) : m = some x := by rwa [gcall, if_pos hc] at h

def lpN (step : σ → Option (σ ⊕ β)) : Nat → σ → Option β
  | 0, _ => none
  | n + 1, s => match step s with
    | none => none
    | some (.inl s') => lpN step n s'
    | some (.inr b) => some b
theorem lpN_succ {step : σ → Option (σ ⊕ β)} : ∀ {n : Nat} {s : σ} {b : β}, lpN step n s = some b → lpN step (n + 1) s = some b
  | 0, _, _, h => by cases h
  | n + 1, s, b, h => by
    unfold lpN at h ⊢
    split
    · rename_i hs; rw [hs] at h; exact h
    · rename_i s' hs; rw [hs] at h; exact lpN_succ h
    · rename_i b' hs; rw [hs] at h; exact h
theorem lpN_le {step : σ → Option (σ ⊕ β)} {n m : Nat} {s : σ} {b : β} (h : lpN step n s = some b) (hm : n ≤ m) : lpN step m s = some b := by
  induction hm with
  | refl => exact h
  | step _ ih => exact lpN_succ ih
open Classical in
/-- A loop: round by round, until one says so. -/
noncomputable def lp (step : σ → Option (σ ⊕ β)) (s : σ) : Option β := if h : ∃ b, ∃ n, lpN step n s = some b then some (Classical.choose h) else none
theorem lp_iff {step : σ → Option (σ ⊕ β)} {s : σ} {b : β} : lp step s = some b ↔ ∃ n, lpN step n s = some b := by
  unfold lp
  constructor
  · intro h
    split at h
    · rename_i hx; cases h; exact Classical.choose_spec hx
    · cases h
  · rintro ⟨n, hn⟩
    have hx : ∃ b, ∃ n, lpN step n s = some b := ⟨b, n, hn⟩
    rw [dif_pos hx]
    obtain ⟨m, hm⟩ := Classical.choose_spec hx
    have h1 := lpN_le hn (Nat.le_max_left n m)
    have h2 := lpN_le hm (Nat.le_max_right n m)
    rw [h1] at h2
    cases h2; rfl
theorem lp_none {step : σ → Option (σ ⊕ β)} {s : σ} (h : step s = none) : lp step s = none := by
  cases e : lp step s with
  | none => rfl
  | some b =>
    obtain ⟨n, hn⟩ := lp_iff.1 e
    cases n with
    | zero => cases hn
    | succ n => rw [lpN, h] at hn; cases hn
theorem lp_done {step : σ → Option (σ ⊕ β)} {s : σ} {b : β} (h : step s = some (.inr b)) : lp step s = some b := lp_iff.2 ⟨1, by rw [lpN, h]⟩
theorem lp_more {step : σ → Option (σ ⊕ β)} {s s' : σ} (h : step s = some (.inl s')) : lp step s = lp step s' := by
  cases e : lp step s' with
  | some b => obtain ⟨n, hn⟩ := lp_iff.1 e; exact lp_iff.2 ⟨n + 1, by rw [lpN, h]; exact hn⟩
  | none =>
    cases e2 : lp step s with
    | none => rfl
    | some b =>
      obtain ⟨n, hn⟩ := lp_iff.1 e2
      cases n with
      | zero => cases hn
      | succ n =>
        rw [lpN, h] at hn
        rw [lp_iff.2 ⟨n, hn⟩] at e; cases e
/-- A loop in which something holds at each round's head, and something becomes less. -/
theorem lp_ind {step : σ → Option (σ ⊕ β)} (inv : σ → Prop) (post : β → Prop) (μ : σ → Nat) (hstep : ∀ s, inv s → (∃ s', step s = some (.inl s') ∧ inv s' ∧ μ s' < μ s) ∨ ∃ b, step s = some (.inr b) ∧ post b) :
    ∀ s, inv s → ∃ b, lp step s = some b ∧ post b := by
  suffices ∀ n s, μ s = n → inv s → ∃ b, lp step s = some b ∧ post b from fun s h => this _ s rfl h
  intro n
  induction n using Nat.strongRecOn with
  | ind n ih =>
    intro s hn hs
    rcases hstep s hs with ⟨s', h1, h2, h3⟩ | ⟨b, h1, h2⟩
    · obtain ⟨b, h4, h5⟩ := ih (μ s') (by omega) s' rfl h2
      exact ⟨b, by rw [lp_more h1]; exact h4, h5⟩
    · exact ⟨b, lp_done h1, h2⟩

/-- The walk of a loop beside its model. -/
theorem loop_m (hT : TOk P tb) {step : σ → Option (σ ⊕ β)} {s0 : σ} {x : β} {c : Code} {Q : Exit → St → Prop} (hx : lp step s0 = some x) (shape : σ → St) (h0 : LE S (shape s0))
    (round : ∀ s y, step s = some y → (∀ v, y = .inr v → v = x) → wpc P tb c (shape s) fun e S' => match e with
      | .normal => ∃ s', y = .inl s' ∧ LE S' (shape s')
      | e => Q e S') : LoopP P c S Q := by
  obtain ⟨n0, hn0⟩ := lp_iff.1 hx
  refine ⟨wp_le h0 fun B w0 F ρ a w hs => ?_⟩
  refine wp_loop_ghost (fun n a w => ∃ s ρ, lpN step n s = some x ∧ Sim B w0 F ρ (shape s) a w) n0 ⟨s0, ρ, hn0, hs⟩ ?_
  rintro n a w ⟨s, ρ, hn, hs⟩
  cases n with
  | zero => cases hn
  | succ n =>
    cases hy : step s with
    | none => rw [lpN, hy] at hn; cases hn
    | some y =>
      refine wp_mono (wpc_sound hT c _ _ (round s y hy fun v hv => by rw [lpN, hy, hv] at hn; cases hn; rfl) B w0 F ρ a w hs) ?_
      rintro e a' w' ⟨ρ', S', h1, h2⟩
      cases e with
      | normal =>
        obtain ⟨s', rfl, hle⟩ := h2
        obtain ⟨ρ'', h3⟩ := hle.out B w0 F ρ' a' w' h1
        rw [lpN, hy] at hn
        exact ⟨n, Nat.lt_succ_self n, s', ρ'', hn, h3⟩
      | _ => exact ⟨ρ', S', h1, h2⟩

/-! ### Rows of typed lists -/
@[reducible] def encBool (b : Bool) : List D := [.bool b]
@[reducible] def encStr (s : ByteArray) : List D := [.str s]
@[reducible] def encSl [Inhabited α] (enc : α → List D) (xs : List α) : List D := [slD enc xs]
variable [Inhabited α] {enc : α → List D}

theorem store_rows {xs : List α} {r off : Nat} {ds : List D} {e : α} (h : setAt (rows enc xs r) off ds = enc e) : ∀ i, i < xs.length → rows enc (xs.set r e) i = if i = r then setAt (rows enc xs r) off ds else rows enc xs i := by
  intro i hi
  split
  · rename_i he; subst he
    rw [h]; simp [rows, List.getD_eq_getElem?_getD, hi]
  · rename_i he
    simp [rows, List.getD_eq_getElem?_getD, Ne.symm he]
theorem store_rows' {xs : List α} {n r off : Nat} {ds : List D} {e : α} (hn : n = xs.length) (h : setAt (rows enc xs r) off ds = enc e) : ∀ i, i < n → rows enc (xs.set r e) i = if i = r then setAt (rows enc xs r) off ds else rows enc xs i := by
  subst hn; exact store_rows h
theorem build_rows {ys : List α} : ∀ i, i < ys.length → rows enc ys i = rowAt (ys.map enc) i := by
  intro i hi
  simp [rows, rowAt, List.getD_eq_getElem?_getD, hi]
theorem make_rows {n : Nat} {z : List D} (h : enc default = z) : ∀ i, i < (List.replicate n (default : α)).length → rows enc (List.replicate n (default : α)) i = z := by
  intro i hi
  simp at hi
  simp [rows, List.getD_eq_getElem?_getD, hi, h]
theorem app_rows {xs ys : List α} {n m : Nat} {r r' : Nat → List D} (hn : n = xs.length) (hm : m = ys.length) (h1 : ∀ i, i < n → r i = rows enc xs i) (h2 : ∀ i, i < m → r' i = rows enc ys i) :
    ∀ i, i < (xs ++ ys).length → rows enc (xs ++ ys) i = catRow n r r' i := by
  intro i hi
  subst hn hm
  simp only [catRow, rows]
  split
  · rename_i hlt
    rw [h1 i hlt]; simp [rows, List.getD_eq_getElem?_getD, List.getElem?_append_left hlt]
  · rename_i hge
    rw [List.length_append] at hi
    rw [h2 _ (by omega)]; simp [rows, List.getD_eq_getElem?_getD, List.getElem?_append_right (Nat.le_of_not_lt hge)]
theorem app_rows0 {ys : List α} {m : Nat} {r' : Nat → List D} (hm : m = ys.length) (h2 : ∀ i, i < m → r' i = rows enc ys i) : ∀ i, i < ys.length → rows enc ys i = r' i := by
  intro i hi; subst hm; rw [h2 i hi]
theorem rows_take {xs : List α} {n : Nat} : ∀ i, i < n → rows enc xs i = rows enc (xs.take n) i := by
  intro i hi
  simp [rows, List.getD_eq_getElem?_getD, hi]
theorem rows_drop {xs : List α} {k : Nat} : ∀ i, rows enc xs (i + k) = rows enc (xs.drop k) i := by
  intro i
  simp [rows, List.getD_eq_getElem?_getD, List.getElem?_drop, Nat.add_comm]
theorem rows_view {xs : List α} {k : Nat} : ∀ i, viewRow k (rows enc xs) i = rows enc (xs.drop k) i := by
  intro i
  rw [viewRow_at]
  simp [rows, List.getD_eq_getElem?_getD, List.getElem?_drop]
theorem rows_dt {xs : List α} {k n : Nat} : ∀ i, i < n → rows enc xs (i + k) = rows enc ((xs.take (k + n)).drop k) i := by
  intro i hi
  simp [rows, List.getD_eq_getElem?_getD, List.getElem?_drop, Nat.add_comm i k, hi]
theorem rows_vt {xs : List α} {k n : Nat} : ∀ i, i < n → viewRow k (rows enc xs) i = rows enc ((xs.take (k + n)).drop k) i := by
  intro i hi
  rw [viewRow_at, Nat.add_comm]; exact rows_dt i hi

theorem VLe.built {ys : List α} {rs : List (List D)} {n : Nat} (hn : n = ys.length) (h : rs = ys.map enc) : VLe (.d (.sl n (rowAt rs))) (.d (slD enc ys)) :=
  VLe.rows hn fun i hi => by subst hn h; exact (build_rows i hi).symm

/-! ### Calls with parts of slices -/
theorem callW {base nt : Nat} {ts : List (Nat × V)} {gs : List Gd} {bs : List (Nat × Blk)} {fs : List Fr} {f : FuncId} {args args1 args' : List V} {res : V} {nb : List Nb} {K : V → St → Prop} (k : Nat) (h : PureC P f args' res nb)
    (hv : viewL (look bs) args = some args1) (hw : CellsLe args1 args') (hm : (nb.all fun b => !(St.mentions ⟨base, nt, ts, gs, bs, fs⟩ (b.id + k))) = true) (hk : forceV (res.shift k) fun v => forceB (nb.map (Nb.ent k) ++ bs) fun bs => K v ⟨base, nt, ts, gs, bs, fs⟩) :
    CallP P f args ⟨base, nt, ts, gs, bs, fs⟩ K := callC k (h.le hw) hv hm hk
theorem callD_w {g : FuncId} {blk : Nat → Option Blk} {vs args1 args' : List V} {res : V} {nb : List Nb} (h : PureC P g args' res nb) (hv : viewL blk vs = some args1) (hw : CellsLe args1 args') : CallD P id g blk vs res nb := callD_any (h.le hw) hv
theorem no_ment {v : V} : v = .any → ∀ id, v.mentions id = false := fun h id => by subst h; rfl
mutual
def V.plain : V → Bool
  | .d _ => true
  | .any => true
  | .rp _ => true
  | .agg vs => plainL vs
  | .tup vs => plainL vs
  | .fn _ vs => plainL vs
  | _ => false
def plainL : List V → Bool
  | [] => true
  | v :: r => v.plain && plainL r
end
mutual
theorem V.plain_ment (v : V) (id : Nat) (h : v.plain = true) : v.mentions id = false := by
  cases v with
  | agg vs => exact plainL_ment vs id h
  | tup vs => exact plainL_ment vs id h
  | fn f vs => exact plainL_ment vs id h
  | ref => cases h
  | osl => cases h
  | _ => rfl
theorem plainL_ment (vs : List V) (id : Nat) (h : plainL vs = true) : mentionsL id vs = false := by
  cases vs with
  | nil => rfl
  | cons v r =>
    simp only [plainL, Bool.and_eq_true] at h
    simp only [mentionsL, V.plain_ment v id h.1]
    exact plainL_ment r id h.2
end
theorem callG_m {S' : St} {al l : List (Nat × Bool)} {f : FuncId} {fn : Func} {args args' : List V} {res : V} {K : V → Prop} (hf : P.funcs[f]? = some fn) (hn : (fn.name == "runtime.NumGoroutine") = false) (hb : fn.body.isNone = false)
    (hv : viewL (look S'.blks) args = some args') (hfl : flatV res = true) (hm : res.plain = true) (h : condP S al l (PureC P f args' res [])) (hk : K res) : CallG P (condP S al l) f args S' K :=
  callG_if hf hn hb hv hfl (fun id => V.plain_ment res id hm) h hk

theorem condP_pure {S' : St} {al l : List (Nat × Bool)} {f : FuncId} {args1 args' : List V} {res : V} (hw : CellsLe args1 args') (h : condP S' al l (PureC P f args' res [])) : condP S' al l (PureC P f args1 res []) := condP_mono (fun h => h.le hw) h
theorem callG_w {S' : St} {al l : List (Nat × Bool)} {f : FuncId} {fn : Func} {args args1 args' : List V} {res : V} {K : V → Prop} (hf : P.funcs[f]? = some fn) (hn : (fn.name == "runtime.NumGoroutine") = false) (hb : fn.body.isNone = false)
    (hv : viewL (look S'.blks) args = some args1) (hfl : flatV res = true) (hm : res.plain = true) (h : condP S al l (PureC P f args' res [])) (hw : CellsLe args1 args') (hk : K res) : CallG P (condP S al l) f args S' K :=
  callG_m hf hn hb hv hfl hm (condP_pure hw h) hk
theorem callDG_w {S : St} {al l : List (Nat × Bool)} {g : FuncId} {fn : Func} {blk : Nat → Option Blk} {vs args1 args' : List V} {res : V} (hf : P.funcs[g]? = some fn) (hn : (fn.name == "runtime.NumGoroutine") = false) (hb : fn.body.isNone = false)
    (hv : viewL blk vs = some args1) (h : condP S al l (PureC P g args' res [])) (hw : CellsLe args1 args') : CallD P (condP S al l) g blk vs res [] := callDG_if hf hn hb hv (condP_pure hw h)

/-! ### Blocks renamed -/
def swN (a b i : Nat) : Nat := match Nat.beq i a with
  | true => b
  | false => match Nat.beq i b with
    | true => a
    | false => i
theorem swN_sw (a b i : Nat) : swN a b (swN a b i) = i := by
  have key : ∀ x y : Nat, Nat.beq x y = decide (x = y) := fun x y => by
    by_cases h : x = y
    · subst h; simp
    · simp [h]; cases hb : Nat.beq x y
      · rfl
      · exact absurd (Nat.eq_of_beq_eq_true hb) h
  unfold swN
  rw [key, key]
  by_cases h1 : i = a
  · subst h1; simp only [decide_true, key]
    by_cases h2 : b = i
    · subst h2; simp
    · simp [h2]
  · by_cases h2 : i = b
    · subst h2; simp [h1, key]
    · simp [h1, h2, key]

mutual
def V.ren (f : Nat → Nat) : V → V
  | .ref i r o => .ref (f i) r o
  | .osl i o l => .osl (f i) o l
  | .agg vs => .agg (renL f vs)
  | .tup vs => .tup (renL f vs)
  | .fn g vs => .fn g (renL f vs)
  | .any => .any
  | .d x => .d x
  | .rp cs => .rp cs
def renL (f : Nat → Nat) : List V → List V
  | [] => []
  | v :: r => v.ren f :: renL f r
end
theorem renL_get {f : Nat → Nat} : ∀ (vs : List V) (j : Nat), (renL f vs)[j]? = (vs[j]?).map (V.ren f)
  | [], j => by simp [renL]
  | v :: r, 0 => by simp [renL]
  | v :: r, j + 1 => by simpa [renL] using renL_get r j
theorem renL_length {f : Nat → Nat} : ∀ (vs : List V), (renL f vs).length = vs.length
  | [] => rfl
  | v :: r => by simp [renL, renL_length r]
def Blk.ren (f : Nat → Nat) : Blk → Blk
  | .box t cs => .box t (renL f cs)
  | .arr t sz n row => .arr t sz n row
def renT (f : Nat → Nat) : List (Nat × V) → List (Nat × V)
  | [] => []
  | (t, v) :: r => (t, v.ren f) :: renT f r
def renG (f : Nat → Nat) : List Gd → List Gd
  | [] => []
  | ⟨t, k, w, v⟩ :: r => ⟨t, k, w, v.ren f⟩ :: renG f r
def renB (f : Nat → Nat) : List (Nat × Blk) → List (Nat × Blk)
  | [] => []
  | (i, b) :: r => (f i, b.ren f) :: renB f r
def renF (f : Nat → Nat) : List Fr → List Fr
  | [] => []
  | ⟨ts, gs⟩ :: r => ⟨renT f ts, renG f gs⟩ :: renF f r
def St.ren (f : Nat → Nat) : St → St
  | ⟨base, nt, ts, gs, bs, fs⟩ => ⟨base, nt, renT f ts, renG f gs, renB f bs, renF f fs⟩

section
variable {w : World} {ow : Nat → Prop} {ρ ρ' : Env} {f : Nat → Nat}
theorem VR.ren {v x} (h : VR w ow ρ v x) (hr : ∀ i, ρ' (f i) = ρ i) : VR w ow ρ' (v.ren f) x := by
  induction h with
  | any => exact .any
  | d h => exact .d h
  | ref h1 h2 => rename_i id row off; rw [← hr id] at *; exact .ref h1 h2
  | osl0 h0 h1 => rename_i id off len ad; rw [← hr id] at *; exact .osl0 h0 h1
  | osl h1 h2 h3 => rename_i id off len; rw [← hr id] at *; exact .osl h1 h2 h3
  | rp vals ho hb hc hd => exact .rp vals ho hb hc hd
  | agg hs h1 hv ih =>
    refine .agg (by rw [renL_length]; exact hs) h1 fun j v hj => ?_
    rw [renL_get] at hj
    obtain ⟨v', hv', rfl⟩ := Option.map_eq_some_iff.1 hj
    exact ih j v' hv'
  | tup hs hv ih =>
    refine .tup (by rw [renL_length]; exact hs) fun j v hj => ?_
    rw [renL_get] at hj
    obtain ⟨v', hv', rfl⟩ := Option.map_eq_some_iff.1 hj
    exact ih j v' hv'
  | fn hs hv ih =>
    refine .fn (by rw [renL_length]; exact hs) fun j v hj => ?_
    rw [renL_get] at hj
    obtain ⟨v', hv', rfl⟩ := Option.map_eq_some_iff.1 hj
    exact ih j v' hv'
theorem BR.ren {id : Nat} {b : Blk} (h : BR w ow ρ id b) (hr : ∀ i, ρ' (f i) = ρ i) : BR w ow ρ' (f id) (b.ren f) := by
  cases h with
  | box C h1 h2 h3 h4 h5 h6 h7 h8 =>
    refine .box C (by rw [hr]; exact h1) (by rw [hr]; exact h2) (by rw [hr, renL_length]; exact h3) (by rw [hr]; exact h4) (by rw [hr]; exact h5) (by rw [renL_length]; exact h6) h7 fun j v hj => ?_
    rw [renL_get] at hj
    obtain ⟨v', hv', rfl⟩ := Option.map_eq_some_iff.1 hj
    exact (h8 j v' hv').ren hr
  | arr0 h1 h2 h3 h4 => exact .arr0 (by rw [hr]; exact h1) (by rw [hr]; exact h2) (by rw [hr]; exact h3) h4
  | arr C et h1 h2 h3 h4 h5 h6 h7 h8 => exact .arr C et (by rw [hr]; exact h1) (by rw [hr]; exact h2) (by rw [hr]; exact h3) (by rw [hr]; exact h4) h5 (by rw [hr]; exact h6) (by rw [hr]; exact h7) fun i j d hi hd => by rw [hr]; exact h8 i j d hi hd
theorem look_renT : ∀ {ts : List (Nat × V)} {t : Nat} {v : V}, look (renT f ts) t = some v → ∃ u, look ts t = some u ∧ v = u.ren f
  | (u, x) :: r, t, v, h => by
    rcases look_cons h with ⟨rfl, rfl⟩ | ⟨hn, h⟩
    · exact ⟨x, look_same, rfl⟩
    · obtain ⟨y, h1, h2⟩ := look_renT h
      exact ⟨y, by rw [look_other hn]; exact h1, h2⟩
  | [], _, _, h => by simp [renT, look] at h
theorem mem_renG : ∀ {gs : List Gd} {g : Gd}, g ∈ renG f gs → ∃ g0 ∈ gs, g = ⟨g0.t, g0.key, g0.want, g0.v.ren f⟩
  | ⟨t, k, w, v⟩ :: r, g, h => by
    rcases List.mem_cons.1 h with h | h
    · exact ⟨⟨t, k, w, v⟩, by simp, h⟩
    · obtain ⟨g0, h1, h2⟩ := mem_renG h; exact ⟨g0, by simp [h1], h2⟩
  | [], _, h => by simp [renG] at h
theorem look_renB (hinj : ∀ i j, f i = f j → i = j) : ∀ {bs : List (Nat × Blk)} {j : Nat} {b : Blk}, look (renB f bs) j = some b → ∃ i c, j = f i ∧ look bs i = some c ∧ b = c.ren f
  | (u, x) :: r, j, b, h => by
    rcases look_cons h with ⟨rfl, rfl⟩ | ⟨hn, h⟩
    · exact ⟨u, x, rfl, look_same, rfl⟩
    · obtain ⟨i, c, rfl, h1, h2⟩ := look_renB hinj h
      exact ⟨i, c, rfl, by rw [look_other fun e => hn (by rw [e])]; exact h1, h2⟩
  | [], _, _, h => by simp [renB, look] at h
theorem renF_get : ∀ {fs : List Fr} {i : Nat} {fr : Fr}, (renF f fs)[i]? = some fr → ∃ fr0, fs[i]? = some fr0 ∧ fr = ⟨renT f fr0.tmps, renG f fr0.gds⟩
  | ⟨ts, gs⟩ :: r, 0, fr, h => by simp [renF] at h; exact ⟨_, rfl, h.symm⟩
  | ⟨ts, gs⟩ :: r, i + 1, fr, h => by obtain ⟨fr0, h1, h2⟩ := renF_get (fs := r) (i := i) (by simpa [renF] using h); exact ⟨fr0, by simpa using h1, h2⟩
  | [], _, _, h => by simp [renF] at h
theorem renF_length : ∀ {fs : List Fr}, (renF f fs).length = fs.length
  | [] => rfl
  | ⟨_, _⟩ :: r => by simp [renF, renF_length (fs := r)]
theorem FrR.ren {fr : Fr} {tm : Array Value} (h : FrR w ow ρ fr tm) (hr : ∀ i, ρ' (f i) = ρ i) : FrR w ow ρ' ⟨renT f fr.tmps, renG f fr.gds⟩ tm := by
  refine ⟨fun t v hv => ?_, fun g hg => ?_⟩
  · obtain ⟨u, h1, rfl⟩ := look_renT hv
    exact (h.tmps t u h1).ren hr
  · obtain ⟨g0, h1, rfl⟩ := mem_renG hg
    rcases (h.gds g0 h1).h with h2 | h2
    · exact ⟨.inl ⟨h2.1, h2.2.ren hr⟩⟩
    · exact ⟨.inr h2⟩
end

theorem le_ren (f : Nat → Nat) (g : Nat → Nat) (hgf : ∀ i, g (f i) = i) (S : St) : LE S (S.ren f) := by
  refine ⟨fun B w0 F ρ a w h => ?_⟩
  obtain ⟨ρ', hr'⟩ : ∃ ρ' : Env, ∀ i, ρ' i = ρ (g i) := ⟨fun i => ρ (g i), fun _ => rfl⟩
  refine ⟨ρ', ?_⟩
  have hinj : ∀ i j, f i = f j → i = j := fun i j e => by rw [← hgf i, e, hgf]
  have hr : ∀ i, ρ' (f i) = ρ i := fun i => by rw [hr', hgf]
  obtain ⟨base, nt, ts, gs, bs, fs⟩ := S
  have hown : ∀ b, own (renB f bs) ρ' b → own bs ρ b := by
    rintro b ⟨i, k, hk, hp, rfl⟩
    obtain ⟨i0, c, rfl, h1, h2⟩ := look_renB hinj hk
    rw [hr] at hp ⊢
    exact ⟨i0, c, h1, hp, rfl⟩
  have keep : Keep w (ownZ B bs ρ) w (ownZ B (renB f bs) ρ') := ⟨Nat.le_refl _, fun b _ ho => ⟨rfl, fun h => ho (h.imp (hown b) fun h => h)⟩⟩
  refine ⟨h.below, h.hB, h.defers, h.nt, ?_, ?_, ?_, ?_, ⟨?_, ?_⟩⟩
  · exact (h.top.ren (f := f) (ρ' := ρ') hr).keep keep fun _ _ => rfl
  · intro id b hb
    obtain ⟨i0, c, rfl, h1, rfl⟩ := look_renB hinj hb
    exact ((h.blks i0 c h1).ren (f := f) (ρ' := ρ') hr).keep keep rfl (fun _ => rfl) fun _ _ => rfl
  · intro i j x y hx hy hp hq he
    obtain ⟨i0, c, rfl, h1, _⟩ := look_renB hinj hx
    obtain ⟨j0, d, rfl, h2, _⟩ := look_renB hinj hy
    rw [hr] at hp hq he
    rw [hr] at he
    rw [h.sep i0 j0 c d h1 h2 hp hq he]
  · intro i x hx hp
    obtain ⟨i0, c, rfl, h1, _⟩ := look_renB hinj hx
    rw [hr] at hp ⊢
    exact h.ge i0 c h1 hp
  · dsimp only [St.ren]; rw [renF_length]; exact h.frames.1
  · intro i fr tm hf htm
    obtain ⟨fr0, h1, rfl⟩ := renF_get hf
    exact ((h.frames.2 i fr0 tm h1 htm).ren (f := f) (ρ' := ρ') hr).keep keep fun _ _ => rfl

/-- Two blocks change their numbers. -/
theorem le_swap (a b : Nat) (S : St) : LE S (S.ren (swN a b)) := le_ren _ (swN a b) (swN_sw a b) S

def swaps : List (Nat × Nat) → St → St
  | [], S => S
  | (a, b) :: r, S => swaps r (S.ren (swN a b))
theorem le_swaps : ∀ (l : List (Nat × Nat)) {S S2 : St}, swaps l S = S2 → LE S S2
  | [], S, _, h => by cases h; exact LE.refl S
  | (a, b) :: r, S, _, h => (le_swap a b S).trans (le_swaps r h)
theorem le_ph {S S2 : St} (id : Nat) (t : TypeId) (sz : Nat) (row : Nat → List D) (hm : S.mentions id = false) (h : ⟨S.base, S.nt, S.tmps, S.gds, (id, .arr t sz 0 row) :: S.blks, S.frames⟩ = S2) : LE S S2 := by
  cases h; exact le_phantom S id t sz row hm

mutual
def V.inIds (ids : List Nat) : V → Bool
  | .ref i _ _ => memN ids i
  | .osl i _ _ => memN ids i
  | .agg vs => inIdsL ids vs
  | .tup vs => inIdsL ids vs
  | .fn _ vs => inIdsL ids vs
  | _ => true
def inIdsL (ids : List Nat) : List V → Bool
  | [] => true
  | v :: r => v.inIds ids && inIdsL ids r
end
mutual
theorem V.inIds_ok (ids : List Nat) (v : V) (id : Nat) (h : v.inIds ids = true) (hm : v.mentions id = true) : id ∈ ids := by
  cases v with
  | agg vs => exact inIdsL_ok ids vs id h hm
  | tup vs => exact inIdsL_ok ids vs id h hm
  | fn f vs => exact inIdsL_ok ids vs id h hm
  | ref i r o => rw [← Nat.eq_of_beq_eq_true hm]; exact memN_iff.1 h
  | osl i r o => rw [← Nat.eq_of_beq_eq_true hm]; exact memN_iff.1 h
  | any => cases hm
  | d => cases hm
  | rp => cases hm
theorem inIdsL_ok (ids : List Nat) (vs : List V) (id : Nat) (h : inIdsL ids vs = true) (hm : mentionsL id vs = true) : id ∈ ids := by
  cases vs with
  | nil => cases hm
  | cons v r =>
    simp only [inIdsL, Bool.and_eq_true] at h
    simp only [mentionsL] at hm
    split at hm
    · rename_i hv; exact V.inIds_ok ids v id h.1 hv
    · exact inIdsL_ok ids r id h.2 hm
end
theorem ids_of {res : V} {nb : List Nb} (h : res.inIds (nb.map (·.id)) = true) : ∀ id, res.mentions id = true → ∃ b ∈ nb, b.id = id := fun id hm => by
  obtain ⟨b, hb, e⟩ := List.mem_map.1 (V.inIds_ok _ res id h hm)
  exact ⟨b, hb, e⟩

/-! ### A function's end -/
def retL (tb : Tb) (rs : List ResultVar) (res : V) (nb : List Nb) : Exit → St → Prop := fun e S' => match e with
  | .ret => ∃ S'', LE S' S'' ∧ resV tb rs S'' fun v => v = res ∧ NbIn S''.blks nb
  | .normal => ∃ S'', LE S' S'' ∧ resV tb rs S'' fun v => v = res ∧ NbIn S''.blks nb
  | _ => Stuck "return no way out"

/-- A CONTRACT out of a walk beside a model. -/
theorem pureC_m (hT : TOk P tb) {f : FuncId} {fn : Func} {c : Code} {args : List V} {res : V} {nb : List Nb} (hf : P.funcs[f]? = some fn) (hb : fn.body = some c) (hn : (fn.name == "runtime.NumGoroutine") = false)
    (hl : Nat.ble args.length fn.ntmps = true) (hflat : flatV res = true) (hrows : ∀ b ∈ nb, ∀ i, i < b.n → ∀ d ∈ b.row i, atomD d = true) (hdist : nb.Pairwise fun x y => x.id ≠ y.id) (hids : ∀ id, res.mentions id = true → ∃ b ∈ nb, b.id = id)
    (h : wpc P tb c ⟨0, fn.ntmps, enumT 0 args, [], [], []⟩ (retL tb fn.results.toList res nb)) : PureC P f args res nb := by
  refine ⟨⟨fn, hf, hn, by simp [hb]⟩, hflat, hrows, hdist, hids, fun w vals ρ0 hv => ?_⟩
  have hl := Nat.le_of_ble_eq_true hl
  have hvs := hv.1
  have hown : ∀ b, own ([] : List (Nat × Blk)) ρ0 b → False := fun b ⟨_, _, h, _⟩ => by simp [look] at h
  refine calls_of_wp hf hb (wp_mono (wpc_sound hT c _ _ h (allOld w) w [] ρ0 ⟨vals ++ Array.replicate (fn.ntmps - vals.size) undef, []⟩ w ?_) ?_)
  · refine ⟨Kept.refl _ _, fun _ h => h, rfl, by simp; omega, ⟨fun t v ht => ?_, fun g hg => by simp at hg⟩, fun id b hb => by simp [look] at hb, fun i j x y hx => by simp [look] at hx, fun i x hx => by simp [look] at hx, rfl, fun i f tm hf => by simp at hf⟩
    obtain ⟨_, h2⟩ := look_enumT ht
    have hlt := (List.getElem?_eq_some_iff.1 h2).1
    simp only [Nat.sub_zero] at h2 hlt
    dsimp only
    rw [enter_getD (by omega)]
    exact (hv.2 t v h2).keep ⟨Nat.le_refl _, fun b _ _ => ⟨rfl, fun h => h.elim (hown b) fun h => h⟩⟩ fun _ _ => rfl
  · rintro e a' w' ⟨ρ', S', h1, h2⟩
    cases e <;> simp only [retL] at h2 <;> first
      | exact h2.no.elim
      | (obtain ⟨S'', hle, hk⟩ := h2
         obtain ⟨ρ'', h3⟩ := hle.out _ _ _ _ _ _ h1
         exact retP_sound hT hflat hrows h3 hk)

end Go.Ab
namespace Go.Ab

def allR (n : Nat) (p : Nat → Bool) : Bool := (List.range n).all p
theorem allR_zero {p : Nat → Bool} : allR 0 p = true := rfl
theorem allR_succ {n : Nat} {p : Nat → Bool} : allR (n + 1) p = (allR n p && p n) := by simp [allR, List.range_succ, List.all_append]
theorem allR_false {n i : Nat} {p : Nat → Bool} (h : i < n) (hp : p i = false) : allR n p = false := by
  unfold allR
  rw [List.all_eq_false]
  exact ⟨i, List.mem_range.2 h, by simp [hp]⟩
theorem allR_get {n i : Nat} {p : Nat → Bool} (h : allR n p = true) (hi : i < n) : p i = true := List.all_eq_true.1 h i (List.mem_range.2 hi)
theorem allR_of {n : Nat} {p : Nat → Bool} (h : ∀ i, i < n → p i = true) : allR n p = true := List.all_eq_true.2 fun i hi => h i (List.mem_range.1 hi)
theorem allR_iff {n : Nat} {p : Nat → Bool} : allR n p = true ↔ ∀ i, i < n → p i = true := ⟨fun h _ hi => allR_get h hi, allR_of⟩

theorem wrap_succ {n i : Nat} (h : i < n) (hn : n ≤ 9223372036854775807) : IntKind.i64.wrap ((i : Int) + 1) = ((i + 1 : Nat) : Int) := by
  rw [wrap_i64 (by omega) (by omega)]; simp
theorem wrap_pred {n i : Nat} (h : i < n) (h0 : 0 < i) (hn : n ≤ 9223372036854775807) : IntKind.i64.wrap ((i : Int) - 1) = ((i - 1 : Nat) : Int) := by
  rw [wrap_i64 (by omega) (by omega)]; omega

/-- A loop that looks for the first place at which something does not hold; 'e': what it says then, 'd': what it says behind the last. -/
theorem lp_all {β : Type} {step : Int → Option (Int ⊕ β)} (n : Nat) (p : Nat → Bool) (e d : β) (h1 : ∀ i : Nat, i < n → (∀ k, k < i → p k = true) → step i = some (if p i = true then .inl ((i + 1 : Nat) : Int) else .inr e)) (h2 : (∀ k, k < n → p k = true) → step n = some (.inr d)) :
    lp step 0 = some (if allR n p = true then d else e) := by
  have key : ∀ k i : Nat, i + k = n → (∀ j, j < i → p j = true) → lp step (i : Int) = some (if allR n p = true then d else e) := by
    intro k
    induction k with
    | zero =>
      intro i hi hp
      have : i = n := by omega
      subst this
      rw [lp_done (h2 hp), if_pos (allR_of hp)]
    | succ k ih =>
      intro i hi hp
      have hs := h1 i (by omega) hp
      by_cases hpi : p i = true
      · rw [if_pos hpi] at hs
        rw [lp_more hs]
        exact ih (i + 1) (by omega) fun j hj => by
          rcases Nat.lt_or_ge j i with h | h
          · exact hp j h
          · have : j = i := by omega
            subst this; exact hpi
      · rw [if_neg hpi] at hs
        rw [lp_done hs, if_neg]
        intro h
        exact hpi (allR_get h (by omega))
  exact key n 0 (by omega) fun j hj => by omega

/-- The first of what a function of the place gives. -/
def findR {β : Type} (f : Nat → Option β) : Nat → Nat → Option β
  | _, 0 => none
  | i, k + 1 => match f i with
    | some b => some b
    | none => findR f (i + 1) k
theorem lp_find {β : Type} {step : Int → Option (Int ⊕ β)} (n : Nat) (f : Nat → Option β) (d : β) (h1 : ∀ i : Nat, i < n → step i = some (match f i with | some b => .inr b | none => .inl ((i + 1 : Nat) : Int))) (h2 : step n = some (.inr d)) :
    lp step 0 = some ((findR f 0 n).getD d) := by
  have key : ∀ k i : Nat, i + k = n → lp step (i : Int) = some ((findR f i k).getD d) := by
    intro k
    induction k with
    | zero =>
      intro i hi
      have : i = n := by omega
      subst this
      rw [lp_done h2]; rfl
    | succ k ih =>
      intro i hi
      have hs := h1 i (by omega)
      unfold findR
      cases hf : f i with
      | some b => rw [hf] at hs; rw [lp_done hs]; rfl
      | none => rw [hf] at hs; rw [lp_more hs]; exact ih (i + 1) (by omega)
  exact key n 0 (by omega)

/-- The first place of which something holds. -/
def firstR (p : Nat → Bool) (n : Nat) : Option Nat := findR (fun i => if p i = true then some i else none) 0 n
theorem findR_map {β : Type} {p : Nat → Bool} {h : Nat → β} : ∀ (k i : Nat), findR (fun i => if p i = true then some (h i) else none) i k = (findR (fun i => if p i = true then some i else none) i k).map h
  | 0, _ => rfl
  | k + 1, i => by
    unfold findR
    cases hp : p i
    · simp only [Bool.false_eq_true, if_false]; exact findR_map k (i + 1)
    · simp only [if_true, Option.map_some]
theorem lp_first {β : Type} {step : Int → Option (Int ⊕ β)} (n : Nat) (p : Nat → Bool) (h : Nat → β) (d : β) (h1 : ∀ i : Nat, i < n → step i = some (if p i = true then .inr (h i) else .inl ((i + 1 : Nat) : Int))) (h2 : step n = some (.inr d)) :
    lp step 0 = some (((firstR p n).map h).getD d) := by
  rw [lp_find n (fun i => if p i = true then some (h i) else none) d (fun i hi => by rw [h1 i hi]; cases p i <;> rfl) h2, findR_map]
  rfl
theorem firstR_some {p : Nat → Bool} {n i : Nat} (h : firstR p n = some i) : i < n ∧ p i = true ∧ ∀ k, k < i → p k = false := by
  have key : ∀ (k j : Nat), j + k = n → (∀ x, x < j → p x = false) → findR (fun i => if p i = true then some i else none) j k = some i → i < n ∧ p i = true ∧ ∀ k, k < i → p k = false := by
    intro k
    induction k with
    | zero => intro j _ _ h; cases h
    | succ k ih =>
      intro j hj hx h
      unfold findR at h
      cases hp : p j
      · rw [hp] at h
        exact ih (j + 1) (by omega) (fun x hx' => by
          rcases Nat.lt_or_ge x j with h | h
          · exact hx x h
          · have : x = j := by omega
            subst this; exact hp) h
      · rw [hp] at h
        simp only [if_true, Option.some.injEq] at h
        subst h
        exact ⟨by omega, hp, hx⟩
  exact key n 0 (by omega) (fun x hx => by omega) h
theorem firstR_none {p : Nat → Bool} {n : Nat} (h : firstR p n = none) : ∀ k, k < n → p k = false := by
  have key : ∀ (k j : Nat), j + k = n → (∀ x, x < j → p x = false) → findR (fun i => if p i = true then some i else none) j k = none → ∀ k, k < n → p k = false := by
    intro k
    induction k with
    | zero => intro j hj hx _ x h; exact hx x (by omega)
    | succ k ih =>
      intro j hj hx h
      unfold findR at h
      cases hp : p j
      · rw [hp] at h
        exact ih (j + 1) (by omega) (fun x hx' => by
          rcases Nat.lt_or_ge x j with h | h
          · exact hx x h
          · have : x = j := by omega
            subst this; exact hp) h
      · rw [hp] at h; cases h
  exact key n 0 (by omega) (fun x hx => by omega) h

/-- A loop that goes on with a state at each place. -/
theorem lp_fold {α β : Type} {step : α × Int → Option ((α × Int) ⊕ β)} (n : Nat) (f : α → Nat → α) (d : α → β) (a0 : α) (inv : Nat → α → Prop) (h0 : inv 0 a0) (hi : ∀ i a, i < n → inv i a → inv (i + 1) (f a i))
    (h1 : ∀ (i : Nat) (a : α), i < n → inv i a → step (a, (i : Int)) = some (.inl (f a i, ((i + 1 : Nat) : Int)))) (h2 : ∀ a, inv n a → step (a, (n : Int)) = some (.inr (d a))) :
    lp step (a0, 0) = some (d ((List.range n).foldl f a0)) ∧ inv n ((List.range n).foldl f a0) := by
  have key : ∀ k i : Nat, i + k = n → ∀ a, inv i a → lp step (a, (i : Int)) = some (d ((List.range' i k).foldl f a)) ∧ inv n ((List.range' i k).foldl f a) := by
    intro k
    induction k with
    | zero =>
      intro i hik a ha
      have : i = n := by omega
      subst this
      exact ⟨lp_done (h2 a ha), ha⟩
    | succ k ih =>
      intro i hik a ha
      rw [lp_more (h1 i a (by omega) ha), List.range'_succ, List.foldl_cons]
      exact ih (i + 1) (by omega) _ (hi i a (by omega) ha)
  have := key n 0 (by omega) a0 h0
  rwa [← List.range_eq_range'] at this

theorem gcall_val {α : Type} [Inhabited α] {c : Prop} [Decidable c] {v : α} : gcall c (some v) = some (if c then v else default) := by
  by_cases h : c
  · rw [gcall_pos h, if_pos h]
  · rw [gcall_neg h, if_neg h]
theorem gcall_b {c : Bool} {v : Bool} : gcall (c = true) (some v) = some (c && v) := by cases c <;> simp [gcall]
theorem gcall_nb {c : Bool} {v : Bool} : gcall (c = false) (some v) = some (!c && v) := by cases c <;> simp [gcall]

theorem bd_gc {α : Type} [Inhabited α] {c : Bool} {x : α} {f : α → Bool} : bd (gcall (c = true) (some x)) (fun y => some (c && f y)) = some (c && f x) := by cases c <;> simp [gcall]

def cmpInt (a b : Int) : Int := if a < b then -1 else if b < a then 1 else 0
def firstNz : List Int → Int
  | [] => 0
  | n :: r => if n = 0 then firstNz r else n

theorem chain {α : Type} {r : α → α → Bool} (tr : ∀ {a b c : α}, r a b = true → r b c = true → r a c = true) {f : Nat → α} {n : Nat} (h : ∀ i, 0 < i → i < n → r (f (i - 1)) (f i) = true) : ∀ i, i < n → ∀ k, k < i → r (f k) (f i) = true := by
  intro i
  induction i with
  | zero => intro _ k hk; omega
  | succ i ih =>
    intro hi k hk
    have hs := h (i + 1) (by omega) hi
    rw [Nat.add_sub_cancel] at hs
    by_cases e : k = i
    · subst e; exact hs
    · exact tr (ih (by omega) k (by omega)) hs

/-- A slice is copied place by place. -/
theorem lp_copy {α : Type} [Inhabited α] {xs : List α} {step : List α × Int → Option ((List α × Int) ⊕ (Nat × List α))}
    (h1 : ∀ (i : Nat) (ys : List α), i < xs.length → ys.length = xs.length → step (ys, (i : Int)) = some (.inl (ys.set i (xs.getD i default), ((i + 1 : Nat) : Int)))) (h2 : ∀ ys : List α, ys.length = xs.length → step (ys, (xs.length : Int)) = some (.inr (ys.length, ys))) :
    lp step (List.replicate ((xs.length : Nat) : Int).toNat default, 0) = some (xs.length, xs) := by
  rw [Int.toNat_natCast]
  obtain ⟨e1, e2, e3⟩ := lp_fold (step := step) xs.length (fun ys i => ys.set i (xs.getD i default)) (fun ys => (ys.length, ys)) (List.replicate xs.length default) (fun i ys => ys.length = xs.length ∧ ∀ k, k < i → ys[k]? = xs[k]?)
    ⟨by simp, fun k hk => by omega⟩ (fun i ys hi ⟨h3, h4⟩ => ⟨by simpa using h3, fun k hk => by
      rw [List.getElem?_set]
      by_cases e : i = k
      · subst e
        simp [h3, hi]
      · rw [if_neg e]; exact h4 k (by omega)⟩) (fun i ys hi ⟨h3, _⟩ => h1 i ys hi h3) (fun ys ⟨h3, _⟩ => h2 ys h3)
  have : (List.range xs.length).foldl (fun ys i => ys.set i (xs.getD i default)) (List.replicate xs.length default) = xs := by
    apply List.ext_getElem?
    intro k
    by_cases hk : k < xs.length
    · exact e3 k hk
    · rw [List.getElem?_eq_none (by omega), List.getElem?_eq_none (by omega)]
  rw [e1, this]
theorem list_eq {α : Type} [Inhabited α] [DecidableEq α] {xs ys : List α} (h : xs.length = ys.length) : allR xs.length (fun i => decide (xs.getD i default = ys.getD i default)) = decide (xs = ys) := by
  rw [Bool.eq_iff_iff]
  simp only [allR_iff, decide_eq_true_eq]
  constructor
  · intro hh
    apply List.ext_getElem h
    intro i h1 h2
    have := hh i h1
    simpa [List.getD_eq_getElem?_getD, h1, h2] using this
  · rintro rfl i _; rfl

end Go.Ab
