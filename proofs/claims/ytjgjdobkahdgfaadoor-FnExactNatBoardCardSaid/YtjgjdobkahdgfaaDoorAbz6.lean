/-
  Models and walks beside them; plain facts on loops: a part of the frame in which a given row's proof walks the program; no condition.
-/
import Derived.Test.YtjgjdobkahdgfaaDoorAbz5
import Derived.Test.YtjgjdobkahdgfaaDoorAbz2
set_option linter.all false
namespace Go.Ab
open Go.RowKit
variable {P : Program} {tb : Tb} {S : St} {α β σ : Type}

open Classical in
noncomputable def gd (c : Prop) (m : Option α) : Option α := if c then m else none
theorem gd_some {c : Prop} {m : Option α} {r : α} (h : gd c m = some r) : c ∧ m = some r := by
  unfold gd at h; split at h
  · exact ⟨‹_›, h⟩
  · cases h
theorem gd_pos {c : Prop} {m : Option α} (h : c) : gd c m = m := if_pos h
def bd (m : Option α) (k : α → Option β) : Option β := match m with
  | some x => k x
  | none => none
theorem bd_some {m : Option α} {k : α → Option β} {r : β} (h : bd m k = some r) : ∃ x, m = some x ∧ k x = some r := by
  cases m with
  | none => cases h
  | some x => exact ⟨x, rfl, h⟩
@[simp] theorem bd_val {x : α} {k : α → Option β} : bd (some x) k = k x := rfl
theorem bd_of {m : Option α} {x : α} {k : α → Option β} (h : m = some x) : bd m k = k x := by rw [h]; rfl
theorem ite_t {b : Bool} {x y : Option α} {r : α} (h : (if b = true then x else y) = some r) (e : b = true) : x = some r := by rwa [if_pos e] at h
theorem ite_f {b : Bool} {x y : Option α} {r : α} (h : (if b = true then x else y) = some r) (e : b = false) : y = some r := by rwa [if_neg (by rw [e]; decide)] at h
open Classical in
noncomputable def gcall (c : Prop) [Inhabited α] (m : Option α) : Option α := if c then m else some default
theorem gcall_pos {c : Prop} [Inhabited α] {m : Option α} (h : c) : gcall c m = m := if_pos h
theorem gcall_neg {c : Prop} [Inhabited α] {m : Option α} (h : ¬ c) : gcall c m = some default := if_neg h
theorem gcall_some {c : Prop} [Inhabited α] {m : Option α} {x : α} (h : gcall c m = some x) (hc : c) : m = some x := by rwa [gcall, if_pos hc] at h

def lpN (step : σ → Option (σ ⊕ β)) : Nat → σ → Option β
  | 0, _ => none
  | n + 1, s => match step s with
    | none => none
    | some (.inl s') => lpN step n s'
    | some (.inr b) => some b
theorem lpN_succ {step : σ → Option (σ ⊕ β)} : ∀ {n : Nat} {s : σ} {b : β}, lpN step n s = some b → lpN step (n + 1) s = some b
  | 0, _, _, h => by cases h
  | n + 1, s, b, h => by
    unfold lpN at h ⊢
    split
    · rename_i hs; rw [hs] at h; exact h
    · rename_i s' hs; rw [hs] at h; exact lpN_succ h
    · rename_i b' hs; rw [hs] at h; exact h
theorem lpN_le {step : σ → Option (σ ⊕ β)} {n m : Nat} {s : σ} {b : β} (h : lpN step n s = some b) (hm : n ≤ m) : lpN step m s = some b := by
  induction hm with
  | refl => exact h
  | step _ ih => exact lpN_succ ih
open Classical in
/-- A loop: round by round, until one says so. -/
noncomputable def lp (step : σ → Option (σ ⊕ β)) (s : σ) : Option β := if h : ∃ b, ∃ n, lpN step n s = some b then some (Classical.choose h) else none
theorem lp_iff {step : σ → Option (σ ⊕ β)} {s : σ} {b : β} : lp step s = some b ↔ ∃ n, lpN step n s = some b := by
  unfold lp
  constructor
  · intro h
    split at h
    · rename_i hx; cases h; exact Classical.choose_spec hx
    · cases h
  · rintro ⟨n, hn⟩
    have hx : ∃ b, ∃ n, lpN step n s = some b := ⟨b, n, hn⟩
    rw [dif_pos hx]
    obtain ⟨m, hm⟩ := Classical.choose_spec hx
    have h1 := lpN_le hn (Nat.le_max_left n m)
    have h2 := lpN_le hm (Nat.le_max_right n m)
    rw [h1] at h2
    cases h2; rfl
theorem lp_done {step : σ → Option (σ ⊕ β)} {s : σ} {b : β} (h : step s = some (.inr b)) : lp step s = some b := lp_iff.2 ⟨1, by rw [lpN, h]⟩
theorem lp_more {step : σ → Option (σ ⊕ β)} {s s' : σ} (h : step s = some (.inl s')) : lp step s = lp step s' := by
  cases e : lp step s' with
  | some b => obtain ⟨n, hn⟩ := lp_iff.1 e; exact lp_iff.2 ⟨n + 1, by rw [lpN, h]; exact hn⟩
  | none =>
    cases e2 : lp step s with
    | none => rfl
    | some b =>
      obtain ⟨n, hn⟩ := lp_iff.1 e2
      cases n with
      | zero => cases hn
      | succ n =>
        rw [lpN, h] at hn
        rw [lp_iff.2 ⟨n, hn⟩] at e; cases e
/-- The walk of a loop beside its model. -/
theorem loop_m (hT : TOk P tb) {step : σ → Option (σ ⊕ β)} {s0 : σ} {x : β} {c : Code} {Q : Exit → St → Prop} (hx : lp step s0 = some x) (shape : σ → St) (h0 : LE S (shape s0))
    (round : ∀ s y, step s = some y → (∀ v, y = .inr v → v = x) → wpc P tb c (shape s) fun e S' => match e with
      | .normal => ∃ s', y = .inl s' ∧ LE S' (shape s')
      | e => Q e S') : LoopP P c S Q := by
  obtain ⟨n0, hn0⟩ := lp_iff.1 hx
  refine ⟨wp_le h0 fun B w0 F ρ a w hs => ?_⟩
  refine wp_loop_ghost (fun n a w => ∃ s ρ, lpN step n s = some x ∧ Sim P B w0 F ρ (shape s) a w) n0 ⟨s0, ρ, hn0, hs⟩ ?_
  rintro n a w ⟨s, ρ, hn, hs⟩
  cases n with
  | zero => cases hn
  | succ n =>
    cases hy : step s with
    | none => rw [lpN, hy] at hn; cases hn
    | some y =>
      refine wp_mono (wpc_sound hT c _ _ (round s y hy fun v hv => by rw [lpN, hy, hv] at hn; cases hn; rfl) B w0 F ρ a w hs) ?_
      rintro e a' w' ⟨ρ', S', h1, h2⟩
      cases e with
      | normal =>
        obtain ⟨s', rfl, hle⟩ := h2
        obtain ⟨ρ'', h3⟩ := hle.out B w0 F ρ' a' w' h1
        rw [lpN, hy] at hn
        exact ⟨n, Nat.lt_succ_self n, s', ρ'', hn, h3⟩
      | _ => exact ⟨ρ', S', h1, h2⟩

/-! ### Rows of typed lists -/
@[reducible] def encStr (s : ByteArray) : List D := [.str s]
variable [Inhabited α] {enc : α → List D}

theorem store_rows {xs : List α} {r off : Nat} {ds : List D} {e : α} (h : setAt (rows enc xs r) off ds = enc e) : ∀ i, i < xs.length → rows enc (xs.set r e) i = if i = r then setAt (rows enc xs r) off ds else rows enc xs i := by
  intro i hi
  split
  · rename_i he; subst he
    rw [h]; simp [rows, List.getD_eq_getElem?_getD, hi]
  · rename_i he
    simp [rows, List.getD_eq_getElem?_getD, Ne.symm he]
theorem store_rows' {xs : List α} {n r off : Nat} {ds : List D} {e : α} (hn : n = xs.length) (h : setAt (rows enc xs r) off ds = enc e) : ∀ i, i < n → rows enc (xs.set r e) i = if i = r then setAt (rows enc xs r) off ds else rows enc xs i := by
  subst hn; exact store_rows h
theorem build_rows {ys : List α} : ∀ i, i < ys.length → rows enc ys i = rowAt (ys.map enc) i := by
  intro i hi
  simp [rows, rowAt, List.getD_eq_getElem?_getD, hi]
theorem make_rows {n : Nat} {z : List D} (h : enc default = z) : ∀ i, i < (List.replicate n (default : α)).length → rows enc (List.replicate n (default : α)) i = z := by
  intro i hi
  simp at hi
  simp [rows, List.getD_eq_getElem?_getD, hi, h]
theorem rows_take {xs : List α} {n : Nat} : ∀ i, i < n → rows enc xs i = rows enc (xs.take n) i := by
  intro i hi
  simp [rows, List.getD_eq_getElem?_getD, hi]
theorem rows_dt {xs : List α} {k n : Nat} : ∀ i, i < n → rows enc xs (i + k) = rows enc ((xs.take (k + n)).drop k) i := by
  intro i hi
  simp [rows, List.getD_eq_getElem?_getD, List.getElem?_drop, Nat.add_comm i k, hi]
theorem rows_vt {xs : List α} {k n : Nat} : ∀ i, i < n → viewRow k (rows enc xs) i = rows enc ((xs.take (k + n)).drop k) i := by
  intro i hi
  rw [viewRow_at, Nat.add_comm]; exact rows_dt i hi

theorem VLe.built {ys : List α} {rs : List (List D)} {n : Nat} (hn : n = ys.length) (h : rs = ys.map enc) : VLe (.d (.sl n (rowAt rs))) (.d (slD enc ys)) :=
  VLe.rows hn fun i hi => by subst hn h; exact (build_rows i hi).symm

/-! ### Calls with parts of slices -/
mutual
def V.plain : V → Bool
  | .d _ => true
  | .any => true
  | .rp _ => true
  | .agg vs => plainL vs
  | .tup vs => plainL vs
  | .fn _ vs => plainL vs
  | _ => false
def plainL : List V → Bool
  | [] => true
  | v :: r => v.plain && plainL r
end
mutual
theorem V.plain_ment (v : V) (id : Nat) (h : v.plain = true) : v.mentions id = false := by
  cases v with
  | agg vs => exact plainL_ment vs id h
  | tup vs => exact plainL_ment vs id h
  | fn f vs => exact plainL_ment vs id h
  | ref => cases h
  | osl => cases h
  | _ => rfl
theorem plainL_ment (vs : List V) (id : Nat) (h : plainL vs = true) : mentionsL id vs = false := by
  cases vs with
  | nil => rfl
  | cons v r =>
    simp only [plainL, Bool.and_eq_true] at h
    simp only [mentionsL, V.plain_ment v id h.1]
    exact plainL_ment r id h.2
end
theorem callG_m {S' : St} {al l : List (Nat × Bool)} {f : FuncId} {fn : Func} {args args' : List V} {res : V} {K : V → St → Prop} {key : Nat} {want : Bool} (hf : P.funcs[f]? = some fn) (hn : (fn.name == "runtime.NumGoroutine") = false) (hb : fn.body.isNone = false)
    (hv : viewL (look S'.blks) args = some args') (hfl : flatV res = true) (hm : res.plain = true) (h : condP S al l (PureC P f args' res [])) (hk : K res S') : CallG P (condP S al l) (condN S' key want) f args S' K :=
  callG_if hf hn hb hv hfl (fun id => V.plain_ment res id hm) h hk

/-! ### Blocks renamed -/
mutual
def V.ren (f : Nat → Nat) : V → V
  | .ref i r o => .ref (f i) r o
  | .osl i o l => .osl (f i) o l
  | .agg vs => .agg (renL f vs)
  | .tup vs => .tup (renL f vs)
  | .fn g vs => .fn g (renL f vs)
  | .any => .any
  | .d x => .d x
  | .rp cs => .rp cs
def renL (f : Nat → Nat) : List V → List V
  | [] => []
  | v :: r => v.ren f :: renL f r
end
theorem renL_get {f : Nat → Nat} : ∀ (vs : List V) (j : Nat), (renL f vs)[j]? = (vs[j]?).map (V.ren f)
  | [], j => by simp [renL]
  | v :: r, 0 => by simp [renL]
  | v :: r, j + 1 => by simpa [renL] using renL_get r j
theorem renL_length {f : Nat → Nat} : ∀ (vs : List V), (renL f vs).length = vs.length
  | [] => rfl
  | v :: r => by simp [renL, renL_length r]
def Blk.ren (f : Nat → Nat) : Blk → Blk
  | .box t cs => .box t (renL f cs)
  | .arr t sz n row => .arr t sz n row
def renT (f : Nat → Nat) : List (Nat × V) → List (Nat × V)
  | [] => []
  | (t, v) :: r => (t, v.ren f) :: renT f r
def renG (f : Nat → Nat) : List Gd → List Gd
  | [] => []
  | ⟨t, k, w, v⟩ :: r => ⟨t, k, w, v.ren f⟩ :: renG f r
def renB (f : Nat → Nat) : List (Nat × Blk) → List (Nat × Blk)
  | [] => []
  | (i, b) :: r => (f i, b.ren f) :: renB f r
def renF (f : Nat → Nat) : List Fr → List Fr
  | [] => []
  | ⟨ts, gs⟩ :: r => ⟨renT f ts, renG f gs⟩ :: renF f r
def St.ren (f : Nat → Nat) : St → St
  | ⟨base, nt, ts, gs, bs, fs⟩ => ⟨base, nt, renT f ts, renG f gs, renB f bs, renF f fs⟩

section
variable {w : World} {ow : Nat → Prop} {ρ ρ' : Env} {f : Nat → Nat}
theorem VR.ren {v x} (h : VR w ow ρ v x) (hr : ∀ i, ρ' (f i) = ρ i) : VR w ow ρ' (v.ren f) x := by
  induction h with
  | any => exact .any
  | d h => exact .d h
  | ref h1 h2 => rename_i id row off; rw [← hr id] at *; exact .ref h1 h2
  | osl0 h0 h1 => rename_i id off len ad; rw [← hr id] at *; exact .osl0 h0 h1
  | osl h1 h2 h3 => rename_i id off len; rw [← hr id] at *; exact .osl h1 h2 h3
  | rp vals ho hb hc hd => exact .rp vals ho hb hc hd
  | agg hs h1 hv ih =>
    refine .agg (by rw [renL_length]; exact hs) h1 fun j v hj => ?_
    rw [renL_get] at hj
    obtain ⟨v', hv', rfl⟩ := Option.map_eq_some_iff.1 hj
    exact ih j v' hv'
  | tup hs hv ih =>
    refine .tup (by rw [renL_length]; exact hs) fun j v hj => ?_
    rw [renL_get] at hj
    obtain ⟨v', hv', rfl⟩ := Option.map_eq_some_iff.1 hj
    exact ih j v' hv'
  | fn hs hv ih =>
    refine .fn (by rw [renL_length]; exact hs) fun j v hj => ?_
    rw [renL_get] at hj
    obtain ⟨v', hv', rfl⟩ := Option.map_eq_some_iff.1 hj
    exact ih j v' hv'
theorem BR.ren {id : Nat} {b : Blk} (h : BR w ow ρ id b) (hr : ∀ i, ρ' (f i) = ρ i) : BR w ow ρ' (f id) (b.ren f) := by
  cases h with
  | box C h1 h2 h3 h4 h5 h6 h7 h8 =>
    refine .box C (by rw [hr]; exact h1) (by rw [hr]; exact h2) (by rw [hr, renL_length]; exact h3) (by rw [hr]; exact h4) (by rw [hr]; exact h5) (by rw [renL_length]; exact h6) h7 fun j v hj => ?_
    rw [renL_get] at hj
    obtain ⟨v', hv', rfl⟩ := Option.map_eq_some_iff.1 hj
    exact (h8 j v' hv').ren hr
  | arr0 h1 h2 h3 h4 => exact .arr0 (by rw [hr]; exact h1) (by rw [hr]; exact h2) (by rw [hr]; exact h3) h4
  | arr C et h1 h2 h3 h4 h5 h6 h7 h8 => exact .arr C et (by rw [hr]; exact h1) (by rw [hr]; exact h2) (by rw [hr]; exact h3) (by rw [hr]; exact h4) h5 (by rw [hr]; exact h6) (by rw [hr]; exact h7) fun i j d hi hd => by rw [hr]; exact h8 i j d hi hd
theorem look_renT : ∀ {ts : List (Nat × V)} {t : Nat} {v : V}, look (renT f ts) t = some v → ∃ u, look ts t = some u ∧ v = u.ren f
  | (u, x) :: r, t, v, h => by
    rcases look_cons h with ⟨rfl, rfl⟩ | ⟨hn, h⟩
    · exact ⟨x, look_same, rfl⟩
    · obtain ⟨y, h1, h2⟩ := look_renT h
      exact ⟨y, by rw [look_other hn]; exact h1, h2⟩
  | [], _, _, h => by simp [renT, look] at h
theorem mem_renG : ∀ {gs : List Gd} {g : Gd}, g ∈ renG f gs → ∃ g0 ∈ gs, g = ⟨g0.t, g0.key, g0.want, g0.v.ren f⟩
  | ⟨t, k, w, v⟩ :: r, g, h => by
    rcases List.mem_cons.1 h with h | h
    · exact ⟨⟨t, k, w, v⟩, by simp, h⟩
    · obtain ⟨g0, h1, h2⟩ := mem_renG h; exact ⟨g0, by simp [h1], h2⟩
  | [], _, h => by simp [renG] at h
theorem look_renB (hinj : ∀ i j, f i = f j → i = j) : ∀ {bs : List (Nat × Blk)} {j : Nat} {b : Blk}, look (renB f bs) j = some b → ∃ i c, j = f i ∧ look bs i = some c ∧ b = c.ren f
  | (u, x) :: r, j, b, h => by
    rcases look_cons h with ⟨rfl, rfl⟩ | ⟨hn, h⟩
    · exact ⟨u, x, rfl, look_same, rfl⟩
    · obtain ⟨i, c, rfl, h1, h2⟩ := look_renB hinj h
      exact ⟨i, c, rfl, by rw [look_other fun e => hn (by rw [e])]; exact h1, h2⟩
  | [], _, _, h => by simp [renB, look] at h
theorem renF_get : ∀ {fs : List Fr} {i : Nat} {fr : Fr}, (renF f fs)[i]? = some fr → ∃ fr0, fs[i]? = some fr0 ∧ fr = ⟨renT f fr0.tmps, renG f fr0.gds⟩
  | ⟨ts, gs⟩ :: r, 0, fr, h => by simp [renF] at h; exact ⟨_, rfl, h.symm⟩
  | ⟨ts, gs⟩ :: r, i + 1, fr, h => by obtain ⟨fr0, h1, h2⟩ := renF_get (fs := r) (i := i) (by simpa [renF] using h); exact ⟨fr0, by simpa using h1, h2⟩
  | [], _, _, h => by simp [renF] at h
theorem renF_length : ∀ {fs : List Fr}, (renF f fs).length = fs.length
  | [] => rfl
  | ⟨_, _⟩ :: r => by simp [renF, renF_length (fs := r)]
theorem FrR.ren {fr : Fr} {tm : Array Value} (h : FrR w ow ρ fr tm) (hr : ∀ i, ρ' (f i) = ρ i) : FrR w ow ρ' ⟨renT f fr.tmps, renG f fr.gds⟩ tm := by
  refine ⟨fun t v hv => ?_, fun g hg => ?_⟩
  · obtain ⟨u, h1, rfl⟩ := look_renT hv
    exact (h.tmps t u h1).ren hr
  · obtain ⟨g0, h1, rfl⟩ := mem_renG hg
    rcases (h.gds g0 h1).h with h2 | h2
    · exact ⟨.inl ⟨h2.1, h2.2.ren hr⟩⟩
    · exact ⟨.inr h2⟩
end

theorem le_ren (f : Nat → Nat) (g : Nat → Nat) (hgf : ∀ i, g (f i) = i) (S : St) : LE S (S.ren f) := by
  refine ⟨fun B w0 F ρ a w h => ?_⟩
  obtain ⟨ρ', hr'⟩ : ∃ ρ' : Env, ∀ i, ρ' i = ρ (g i) := ⟨fun i => ρ (g i), fun _ => rfl⟩
  refine ⟨ρ', ?_⟩
  have hinj : ∀ i j, f i = f j → i = j := fun i j e => by rw [← hgf i, e, hgf]
  have hr : ∀ i, ρ' (f i) = ρ i := fun i => by rw [hr', hgf]
  obtain ⟨base, nt, ts, gs, bs, fs⟩ := S
  have hown : ∀ b, own (renB f bs) ρ' b → own bs ρ b := by
    rintro b ⟨i, k, hk, hp, rfl⟩
    obtain ⟨i0, c, rfl, h1, h2⟩ := look_renB hinj hk
    rw [hr] at hp ⊢
    exact ⟨i0, c, h1, hp, rfl⟩
  have keep : Keep w (ownZ B bs ρ) w (ownZ B (renB f bs) ρ') := ⟨Nat.le_refl _, fun b _ ho => ⟨rfl, fun h => ho (h.imp (hown b) fun h => h)⟩⟩
  refine ⟨h.below, h.tab, h.hB, h.defers, h.nt, ?_, ?_, ?_, ?_, ⟨?_, ?_⟩⟩
  · exact (h.top.ren (f := f) (ρ' := ρ') hr).keep keep fun _ _ => rfl
  · intro id b hb
    obtain ⟨i0, c, rfl, h1, rfl⟩ := look_renB hinj hb
    exact ((h.blks i0 c h1).ren (f := f) (ρ' := ρ') hr).keep keep rfl (fun _ => rfl) fun _ _ => rfl
  · intro i j x y hx hy hp hq he
    obtain ⟨i0, c, rfl, h1, _⟩ := look_renB hinj hx
    obtain ⟨j0, d, rfl, h2, _⟩ := look_renB hinj hy
    rw [hr] at hp hq he
    rw [hr] at he
    rw [h.sep i0 j0 c d h1 h2 hp hq he]
  · intro i x hx hp
    obtain ⟨i0, c, rfl, h1, _⟩ := look_renB hinj hx
    rw [hr] at hp ⊢
    exact h.ge i0 c h1 hp
  · dsimp only [St.ren]; rw [renF_length]; exact h.frames.1
  · intro i fr tm hf htm
    obtain ⟨fr0, h1, rfl⟩ := renF_get hf
    exact ((h.frames.2 i fr0 tm h1 htm).ren (f := f) (ρ' := ρ') hr).keep keep fun _ _ => rfl

mutual
def V.inIds (ids : List Nat) : V → Bool
  | .ref i _ _ => memN ids i
  | .osl i _ _ => memN ids i
  | .agg vs => inIdsL ids vs
  | .tup vs => inIdsL ids vs
  | .fn _ vs => inIdsL ids vs
  | _ => true
def inIdsL (ids : List Nat) : List V → Bool
  | [] => true
  | v :: r => v.inIds ids && inIdsL ids r
end
mutual
theorem V.inIds_ok (ids : List Nat) (v : V) (id : Nat) (h : v.inIds ids = true) (hm : v.mentions id = true) : id ∈ ids := by
  cases v with
  | agg vs => exact inIdsL_ok ids vs id h hm
  | tup vs => exact inIdsL_ok ids vs id h hm
  | fn f vs => exact inIdsL_ok ids vs id h hm
  | ref i r o => rw [← Nat.eq_of_beq_eq_true hm]; exact memN_iff.1 h
  | osl i r o => rw [← Nat.eq_of_beq_eq_true hm]; exact memN_iff.1 h
  | any => cases hm
  | d => cases hm
  | rp => cases hm
theorem inIdsL_ok (ids : List Nat) (vs : List V) (id : Nat) (h : inIdsL ids vs = true) (hm : mentionsL id vs = true) : id ∈ ids := by
  cases vs with
  | nil => cases hm
  | cons v r =>
    simp only [inIdsL, Bool.and_eq_true] at h
    simp only [mentionsL] at hm
    split at hm
    · rename_i hv; exact V.inIds_ok ids v id h.1 hv
    · exact inIdsL_ok ids r id h.2 hm
end
theorem ids_of {res : V} {nb : List Nb} (h : res.inIds (nb.map (·.id)) = true) : ∀ id, res.mentions id = true → ∃ b ∈ nb, b.id = id := fun id hm => by
  obtain ⟨b, hb, e⟩ := List.mem_map.1 (V.inIds_ok _ res id h hm)
  exact ⟨b, hb, e⟩

/-! ### A function's end -/
end Go.Ab
namespace Go.Ab
open Go.RowKit
variable {P : Program} {tb : Tb} {w : World} {ρ : Env} {a : Act} {B : Bd} {w0 : World} {F : List (Array Value)} {S : St}

end Go.Ab
namespace Go.Ab
open Go.RowKit
variable {P : Program} {tb : Tb} {w : World} {ow : Nat → Prop} {ρ : Env} {a : Act} {B : Bd} {w0 : World} {F : List (Array Value)} {S : St}

/-- Is the number a block's? -/
def hasB (bs : List (Nat × Blk)) (i : Nat) : Bool := match look bs i with
  | some _ => true
  | none => false
mutual
def V.within (p : Nat → Bool) : V → Bool
  | .ref i _ _ => p i
  | .osl i _ _ => p i
  | .agg vs => withinL p vs
  | .tup vs => withinL p vs
  | .fn _ vs => withinL p vs
  | _ => true
def withinL (p : Nat → Bool) : List V → Bool
  | [] => true
  | v :: r => match v.within p with
    | true => withinL p r
    | false => false
end
def Blk.within (p : Nat → Bool) : Blk → Bool
  | .box _ cs => withinL p cs
  | .arr .. => true
def withinB (p : Nat → Bool) : List (Nat × Blk) → Bool
  | [] => true
  | (_, b) :: r => match b.within p with
    | true => withinB p r
    | false => false

/-- The same place; or no place at all, before and behind. -/
def Agr (l l' : Loc) : Prop := l' = l ∨ (l.n = 0 ∧ l'.n = 0 ∧ (l.ph = true ∨ l.cap = 0))
/-- A CONTRACT WITH EFFECTS: the call is handed the blocks 'bs', and leaves 'bs'': what is in both stands where it stood. -/
structure EffC (P : Program) (f : FuncId) (args : List V) (bs : List (Nat × Blk)) (res : V) (bs' : List (Nat × Blk)) : Prop where
  can : Callable P f
  shut : res.within (hasB bs') = true
  shutB : withinB (hasB bs') bs' = true
  out : ∀ (Z : Nat → Prop) w vals ρ0, ArgsR w (fun x => own bs ρ0 x ∨ Z x) ρ0 args vals → (∀ i b, look bs i = some b → BR w (fun x => own bs ρ0 x ∨ Z x) ρ0 i b) →
    (∀ i j x y, look bs i = some x → look bs j = some y → (ρ0 i).ph = false → (ρ0 j).ph = false → (ρ0 i).b = (ρ0 j).b → i = j) →
    (∀ i x, look bs i = some x → (ρ0 i).ph = false → ¬ Z (ρ0 i).b) → (∀ b, Z b → b < w.heap.size) → TabB P (fun b => b < w.heap.size ∧ ¬ own bs ρ0 b) w →
    Calls P f vals w fun e w' => ∃ v ρ, e = .returned v ∧ Kept (fun b => b < w.heap.size ∧ ¬ own bs ρ0 b) w w' ∧ (∀ i x y, look bs i = some x → look bs' i = some y → Agr (ρ0 i) (ρ i)) ∧
      VR w' (fun x => own bs' ρ x ∨ Z x) ρ res v ∧ (∀ i b, look bs' i = some b → BR w' (fun x => own bs' ρ x ∨ Z x) ρ i b) ∧
      (∀ i j x y, look bs' i = some x → look bs' j = some y → (ρ i).ph = false → (ρ j).ph = false → (ρ i).b = (ρ j).b → i = j) ∧
      (∀ i x, look bs' i = some x → (ρ i).ph = false → w.heap.size ≤ (ρ i).b ∨ own bs ρ0 (ρ i).b)

/-! ### The caller's side -/
theorem VR.mono {v : V} {x : Value} {ow' : Nat → Prop} (h : VR w ow ρ v x) (hs : ∀ b, ow' b → ow b) : VR w ow' ρ v x :=
  h.keep ⟨Nat.le_refl _, fun b _ ho => ⟨rfl, fun h => ho (hs b h)⟩⟩ fun _ _ => rfl
theorem BR.mono {i : Nat} {b : Blk} {ow' : Nat → Prop} (h : BR w ow ρ i b) (hs : ∀ b, ow' b → ow b) : BR w ow' ρ i b :=
  h.keep ⟨Nat.le_refl _, fun b _ ho => ⟨rfl, fun h => ho (hs b h)⟩⟩ rfl (fun _ => rfl) fun _ _ => rfl
/-- What is handed over stands in the caller's state (weaker, if need be). -/
def inB (S : List (Nat × Blk)) (f : Nat → Nat) : List (Nat × Blk) → Prop
  | [] => True
  | (j, b) :: r => (match look S (f j) with
    | some b0 => BLe b0 (b.ren f)
    | none => Stuck "no such block") ∧ inB S f r
def newIds (bs : List (Nat × Blk)) : List (Nat × Blk) → List Nat
  | [] => []
  | (j, _) :: r => match look bs j with
    | some _ => newIds bs r
    | none => j :: newIds bs r
def idsB : List (Nat × Blk) → List Nat
  | [] => []
  | (j, _) :: r => j :: idsB r
def elemN (i : Nat) : List Nat → Bool
  | [] => false
  | j :: r => match Nat.beq i j with
    | true => true
    | false => elemN i r
def apartN (f : Nat → Nat) : List Nat → Bool
  | [] => true
  | j :: r => match elemN (f j) (r.map f) with
    | true => false
    | false => apartN f r
/-! ### A contract made -/
end Go.Ab
namespace Go.Ab
open Go.RowKit
variable {P : Program} {tb : Tb} {w : World} {ρ : Env} {a : Act} {B : Bd} {w0 : World} {F : List (Array Value)} {S : St}
  {cs : Nat → Option CS} {m : Nat} {ops : List Oper} {S0 : St} {A : List (List Nat)} {R : List Rs} {ls : List Nat}

/-- A call that writes, in such a region: 'pre' the hidden blocks ahead of it, 'post' behind it, 'nb' what it makes. -/
structure EffD (P : Program) (pre : List (Nat × Blk)) (f : FuncId) (args : List V) (res : V) (nb post : List (Nat × Blk)) : Prop where
  can : Callable P f
  out : ∃ args' bs r M g, EffC P f args' bs r M ∧ CellsLe args (renL g args') ∧ inB pre g bs ∧ apartN g (idsB bs ++ newIds bs M) = true ∧ res = r.ren g ∧
    (∀ i b, look (nb ++ post) i = some b → (∃ j b', look M j = some b' ∧ i = g j ∧ b = b'.ren g) ∨ (look pre i = some b ∧ ∀ j x, look bs j = some x → i ≠ g j)) ∧ (∀ j ∈ newIds bs M, hasB nb (g j) = true ∨ (hasB post (g j) = true ∧ hasB pre (g j) = false))

def delIds (ids : List Nat) : List (Nat × Blk) → List (Nat × Blk)
  | [] => []
  | (i, b) :: r => match memN ids i with
    | true => delIds ids r
    | false => (i, b) :: delIds ids r
theorem look_del {ids : List Nat} {i : Nat} : ∀ {bs : List (Nat × Blk)}, look (delIds ids bs) i = if memN ids i = true then none else look bs i
  | [] => by simp [delIds, look]
  | (u, b) :: r => by
    simp only [delIds]
    split
    · rename_i h
      rw [look_del]
      split
      · rfl
      · rename_i h2
        rw [look_other]; intro e; subst e; exact h2 h
    · rename_i h
      by_cases e : u = i
      · subst e
        rw [look_same, h, look_same]; simp
      · rw [look_other e, look_del, look_other e]
/-! ### Hidden blocks: each is touched by some of the operations alone -/
def pstOf (cs : Nat → Option CS) (j : Nat) : List (Nat × Blk) := match cs j with
  | some (.eff _ _ post _ _) => post
  | some (.app _ _ post) => post
  | _ => []
/-- The hidden blocks where the operations of E below n are done. 'pr': what an operation finds; 'ro': what it finds and leaves. -/
def hid (cs : Nat → Option CS) (pr : Nat → List (Nat × Blk)) (ro : Nat → List Nat) (T0 : List (Nat × Blk)) (E : Nat → Bool) : Nat → List (Nat × Blk)
  | 0 => T0
  | n + 1 => match E n && isEf (cs n) with
    | true => delIds (ro n) (pstOf cs n) ++ delIds (idsB (delIds (ro n) (pr n))) (hid cs pr ro T0 E n)
    | false => hid cs pr ro T0 E n
variable {pr : Nat → List (Nat × Blk)} {ro : Nat → List Nat} {T0 : List (Nat × Blk)}

end Go.Ab
namespace Go.Ab
open Go.RowKit
variable {P : Program} {tb : Tb} {w : World} {ow : Nat → Prop} {ρ : Env} {a : Act} {B : Bd} {w0 : World} {F : List (Array Value)} {S : St}

def frzSt : List Nat → St → (St → Prop) → Prop
  | [], S, K => K S
  | id :: r, ⟨base, nt, ts, gs, bs, fs⟩, K => match look bs id with
    | some (.arr _ _ _ row) => forceT (frzT id row ts) fun ts => forceG (frzG id row gs) fun gs => forceB (frzB id row bs) fun bs => forceF (frzF id row fs) fun fs => frzSt r ⟨base, nt, ts, gs, bs, fs⟩ K
    | _ => Stuck "freeze no such row"
/-- Blocks that say no more. -/
theorem sim_leB {L : List (Nat × Blk)} (h : Sim P B w0 F ρ S a w) (lk : ∀ i b, look L i = some b → ∃ c, look S.blks i = some c ∧ BLe c b) : Sim P B w0 F ρ ⟨S.base, S.nt, S.tmps, S.gds, L, S.frames⟩ a w := by
  have hown : ∀ b, own L ρ b → own S.blks ρ b := by
    rintro b ⟨i, k, hk, hp, rfl⟩
    obtain ⟨c, hc, _⟩ := lk i k hk
    exact ⟨i, c, hc, hp, rfl⟩
  have keep : Keep w (ownZ B S.blks ρ) w (ownZ B L ρ) := ⟨Nat.le_refl _, fun b _ ho => ⟨rfl, fun h => ho (h.imp (hown b) fun h => h)⟩⟩
  refine ⟨h.below, h.tab, h.hB, h.defers, h.nt, h.top.keep keep fun _ _ => rfl, fun id b hbk => ?_, fun i j x y hx hy => ?_, fun i x hx => ?_, h.frames.1, fun i f' tm hf' htm => (h.frames.2 i f' tm hf' htm).keep keep fun _ _ => rfl⟩
  · obtain ⟨c, hc, hle⟩ := lk id b hbk
    have := hle.out _ _ _ _ (h.blks id c hc)
    exact this.keep keep rfl (fun _ => rfl) fun _ _ => rfl
  · obtain ⟨x', hx', _⟩ := lk i x hx
    obtain ⟨y', hy', _⟩ := lk j y hy
    exact h.sep i j x' y' hx' hy'
  · obtain ⟨x', hx', _⟩ := lk i x hx
    exact h.ge i x' hx'

/-! ### A function's end -/
/-- What is left to check in a drawn region stands by itself: it is computed apart from the walk. -/
noncomputable def evDrawK (P : Program) (tb : Tb) (cs : Nat → Option CS) (m : Nat) (mks : List (List Bool)) (ops : List Oper) (S : St) (K : St → Prop) : Prop :=
  stK (S0of ((ops.take m).map (·.dst)) S) fun S0 => evMF P tb cs ops S0 (ops.take m) mks 0 [] fun R =>
      chkDynM S0 mks R = true ∧ stK (stM S0 R (List.replicate m true)) fun S1 => evOps P tb ops (ops.drop m) S1 fun S => S.noGds K
theorem evDrawK_eq {cs : Nat → Option CS} {m : Nat} {mks : List (List Bool)} {ops : List Oper} {S : St} {K : St → Prop} : evDrawK P tb cs m mks ops S K = evDrawF P tb cs m mks ops S K := by
  unfold evDrawK evDrawF
  congr 1; funext S0; congr 1; funext R
  cases chkDynM S0 mks R
  · exact propext ⟨fun h => Bool.noConfusion h.1, fun h => (Stuck.no h).elim⟩
  · exact propext ⟨fun h => h.2, fun h => ⟨rfl, h⟩⟩
theorem draw_k (hT : TOk P tb) (hmx : P.follows .mixedOrders = true) {id : Nat} {opsA : Array Oper} {S : St} {K : St → Prop} (cs : Nat → Option CS) (m : Nat) (ls : List Nat) (mks mkt : List (List Bool)) (hml : m ≤ opsA.size) (hno : (noEff cs m && dstChk opsA.toList cs m) = true)
    (hst : statOkL m ls opsA.toList mks mkt = true) (h : evDrawK P tb cs m mks opsA.toList S K) : DrawP P id opsA S K :=
  draw_l hT hmx cs m ls mks mkt hml hno hst (evDrawK_eq ▸ h)

def nbsOf (nb : List Nb) : List (Nat × Blk) := nb.map fun b => (b.id, .arr b.t b.sz b.n b.row)
theorem look_nbs : ∀ {nb : List Nb} {i : Nat} {b : Blk}, look (nbsOf nb) i = some b → ∃ x ∈ nb, x.id = i ∧ b = .arr x.t x.sz x.n x.row
  | x :: r, i, b, h => by
    simp only [nbsOf, List.map_cons] at h
    rcases look_cons h with ⟨e, rfl⟩ | ⟨_, h⟩
    · exact ⟨x, by simp, e, rfl⟩
    · obtain ⟨y, h1, h2⟩ := look_nbs (nb := r) h
      exact ⟨y, List.mem_cons_of_mem _ h1, h2⟩
  | [], _, _, h => by simp [nbsOf, look] at h
/-- A contract of a call that reads alone, as one with effects. -/
theorem PureC.eff {f : FuncId} {args : List V} {res : V} {nb : List Nb} (h : PureC P f args res nb) (s1 : res.within (hasB (nbsOf nb)) = true) (s2 : withinB (hasB (nbsOf nb)) (nbsOf nb) = true) : EffC P f args [] res (nbsOf nb) := by
  refine ⟨h.can, s1, s2, fun Z w vals ρ0 hv _ _ _ hlt ht => ?_⟩
  refine Calls.mono (h.out w vals ρ0 ⟨hv.1, fun j v hj => (hv.2 j v hj).mono fun b hb => hb.elim⟩ (ht.mono fun _ h => h.1)) ?_
  rintro e w' ⟨v, ρ, rfl, g1, g2, g3, g4, g5⟩
  refine ⟨v, ρ, rfl, ⟨g1.os, g1.tape, g1.output, g1.size, fun k hk => g1.old k hk.1⟩, fun i x y hx => by simp [look] at hx, g2.flat h.flat, fun i b hb => ?_, fun i j x y hx hy hp hq e => ?_, fun i x hx hp => ?_⟩
  · obtain ⟨x, hx, rfl, rfl⟩ := look_nbs hb
    have := BR.shiftFlat (k := 0) (ρ' := ρ) (w' := w') (ow' := fun x => own (nbsOf nb) ρ x ∨ Z x) (g3 x hx) (h.rows x hx) rfl rfl
    exact this
  · obtain ⟨x', hx', rfl, _⟩ := look_nbs hx
    obtain ⟨y', hy', rfl, _⟩ := look_nbs hy
    exact g4 x' hx' y' hy' hp hq e
  · obtain ⟨x', hx', rfl, _⟩ := look_nbs hx
    exact .inl (g5 x' hx' hp)

end Go.Ab
namespace Go.Ab

def allR (n : Nat) (p : Nat → Bool) : Bool := (List.range n).all p
theorem allR_get {n i : Nat} {p : Nat → Bool} (h : allR n p = true) (hi : i < n) : p i = true := List.all_eq_true.1 h i (List.mem_range.2 hi)
theorem allR_of {n : Nat} {p : Nat → Bool} (h : ∀ i, i < n → p i = true) : allR n p = true := List.all_eq_true.2 fun i hi => h i (List.mem_range.1 hi)
theorem allR_iff {n : Nat} {p : Nat → Bool} : allR n p = true ↔ ∀ i, i < n → p i = true := ⟨fun h _ hi => allR_get h hi, allR_of⟩

theorem wrap_succ {n i : Nat} (h : i < n) (hn : n ≤ 9223372036854775807) : IntKind.i64.wrap ((i : Int) + 1) = ((i + 1 : Nat) : Int) := by
  rw [wrap_i64 (by omega) (by omega)]; simp
theorem wrap_pred {n i : Nat} (h : i < n) (h0 : 0 < i) (hn : n ≤ 9223372036854775807) : IntKind.i64.wrap ((i : Int) - 1) = ((i - 1 : Nat) : Int) := by
  rw [wrap_i64 (by omega) (by omega)]; omega

/-- A loop that looks for the first place at which something does not hold; 'e': what it says then, 'd': what it says behind the last. -/
theorem lp_all {β : Type} {step : Int → Option (Int ⊕ β)} (n : Nat) (p : Nat → Bool) (e d : β) (h1 : ∀ i : Nat, i < n → (∀ k, k < i → p k = true) → step i = some (if p i = true then .inl ((i + 1 : Nat) : Int) else .inr e)) (h2 : (∀ k, k < n → p k = true) → step n = some (.inr d)) :
    lp step 0 = some (if allR n p = true then d else e) := by
  have key : ∀ k i : Nat, i + k = n → (∀ j, j < i → p j = true) → lp step (i : Int) = some (if allR n p = true then d else e) := by
    intro k
    induction k with
    | zero =>
      intro i hi hp
      have : i = n := by omega
      subst this
      rw [lp_done (h2 hp), if_pos (allR_of hp)]
    | succ k ih =>
      intro i hi hp
      have hs := h1 i (by omega) hp
      by_cases hpi : p i = true
      · rw [if_pos hpi] at hs
        rw [lp_more hs]
        exact ih (i + 1) (by omega) fun j hj => by
          rcases Nat.lt_or_ge j i with h | h
          · exact hp j h
          · have : j = i := by omega
            subst this; exact hpi
      · rw [if_neg hpi] at hs
        rw [lp_done hs, if_neg]
        intro h
        exact hpi (allR_get h (by omega))
  exact key n 0 (by omega) fun j hj => by omega

/-- The first of what a function of the place gives. -/
def findR {β : Type} (f : Nat → Option β) : Nat → Nat → Option β
  | _, 0 => none
  | i, k + 1 => match f i with
    | some b => some b
    | none => findR f (i + 1) k
theorem lp_find {β : Type} {step : Int → Option (Int ⊕ β)} (n : Nat) (f : Nat → Option β) (d : β) (h1 : ∀ i : Nat, i < n → step i = some (match f i with | some b => .inr b | none => .inl ((i + 1 : Nat) : Int))) (h2 : step n = some (.inr d)) :
    lp step 0 = some ((findR f 0 n).getD d) := by
  have key : ∀ k i : Nat, i + k = n → lp step (i : Int) = some ((findR f i k).getD d) := by
    intro k
    induction k with
    | zero =>
      intro i hi
      have : i = n := by omega
      subst this
      rw [lp_done h2]; rfl
    | succ k ih =>
      intro i hi
      have hs := h1 i (by omega)
      unfold findR
      cases hf : f i with
      | some b => rw [hf] at hs; rw [lp_done hs]; rfl
      | none => rw [hf] at hs; rw [lp_more hs]; exact ih (i + 1) (by omega)
  exact key n 0 (by omega)

/-- A loop that goes on with a state at each place. -/
theorem lp_fold {α β : Type} {step : α × Int → Option ((α × Int) ⊕ β)} (n : Nat) (f : α → Nat → α) (d : α → β) (a0 : α) (inv : Nat → α → Prop) (h0 : inv 0 a0) (hi : ∀ i a, i < n → inv i a → inv (i + 1) (f a i))
    (h1 : ∀ (i : Nat) (a : α), i < n → inv i a → step (a, (i : Int)) = some (.inl (f a i, ((i + 1 : Nat) : Int)))) (h2 : ∀ a, inv n a → step (a, (n : Int)) = some (.inr (d a))) :
    lp step (a0, 0) = some (d ((List.range n).foldl f a0)) ∧ inv n ((List.range n).foldl f a0) := by
  have key : ∀ k i : Nat, i + k = n → ∀ a, inv i a → lp step (a, (i : Int)) = some (d ((List.range' i k).foldl f a)) ∧ inv n ((List.range' i k).foldl f a) := by
    intro k
    induction k with
    | zero =>
      intro i hik a ha
      have : i = n := by omega
      subst this
      exact ⟨lp_done (h2 a ha), ha⟩
    | succ k ih =>
      intro i hik a ha
      rw [lp_more (h1 i a (by omega) ha), List.range'_succ, List.foldl_cons]
      exact ih (i + 1) (by omega) _ (hi i a (by omega) ha)
  have := key n 0 (by omega) a0 h0
  rwa [← List.range_eq_range'] at this

theorem gcall_val {α : Type} [Inhabited α] {c : Prop} [Decidable c] {v : α} : gcall c (some v) = some (if c then v else default) := by
  by_cases h : c
  · rw [gcall_pos h, if_pos h]
  · rw [gcall_neg h, if_neg h]
theorem gcall_b {c : Bool} {v : Bool} : gcall (c = true) (some v) = some (c && v) := by cases c <;> simp [gcall]
theorem gcall_nb {c : Bool} {v : Bool} : gcall (c = false) (some v) = some (!c && v) := by cases c <;> simp [gcall]

theorem bd_gc {α : Type} [Inhabited α] {c : Bool} {x : α} {f : α → Bool} : bd (gcall (c = true) (some x)) (fun y => some (c && f y)) = some (c && f x) := by cases c <;> simp [gcall]

def cmpInt (a b : Int) : Int := if a < b then -1 else if b < a then 1 else 0
def firstNz : List Int → Int
  | [] => 0
  | n :: r => if n = 0 then firstNz r else n

theorem chain {α : Type} {r : α → α → Bool} (tr : ∀ {a b c : α}, r a b = true → r b c = true → r a c = true) {f : Nat → α} {n : Nat} (h : ∀ i, 0 < i → i < n → r (f (i - 1)) (f i) = true) : ∀ i, i < n → ∀ k, k < i → r (f k) (f i) = true := by
  intro i
  induction i with
  | zero => intro _ k hk; omega
  | succ i ih =>
    intro hi k hk
    have hs := h (i + 1) (by omega) hi
    rw [Nat.add_sub_cancel] at hs
    by_cases e : k = i
    · subst e; exact hs
    · exact tr (ih (by omega) k (by omega)) hs

/-- A slice is copied place by place. -/
theorem lp_copy {α : Type} [Inhabited α] {xs : List α} {step : List α × Int → Option ((List α × Int) ⊕ (Nat × List α))}
    (h1 : ∀ (i : Nat) (ys : List α), i < xs.length → ys.length = xs.length → step (ys, (i : Int)) = some (.inl (ys.set i (xs.getD i default), ((i + 1 : Nat) : Int)))) (h2 : ∀ ys : List α, ys.length = xs.length → step (ys, (xs.length : Int)) = some (.inr (ys.length, ys))) :
    lp step (List.replicate ((xs.length : Nat) : Int).toNat default, 0) = some (xs.length, xs) := by
  rw [Int.toNat_natCast]
  obtain ⟨e1, e2, e3⟩ := lp_fold (step := step) xs.length (fun ys i => ys.set i (xs.getD i default)) (fun ys => (ys.length, ys)) (List.replicate xs.length default) (fun i ys => ys.length = xs.length ∧ ∀ k, k < i → ys[k]? = xs[k]?)
    ⟨by simp, fun k hk => by omega⟩ (fun i ys hi ⟨h3, h4⟩ => ⟨by simpa using h3, fun k hk => by
      rw [List.getElem?_set]
      by_cases e : i = k
      · subst e
        simp [h3, hi]
      · rw [if_neg e]; exact h4 k (by omega)⟩) (fun i ys hi ⟨h3, _⟩ => h1 i ys hi h3) (fun ys ⟨h3, _⟩ => h2 ys h3)
  have : (List.range xs.length).foldl (fun ys i => ys.set i (xs.getD i default)) (List.replicate xs.length default) = xs := by
    apply List.ext_getElem?
    intro k
    by_cases hk : k < xs.length
    · exact e3 k hk
    · rw [List.getElem?_eq_none (by omega), List.getElem?_eq_none (by omega)]
  rw [e1, this]
theorem list_eq {α : Type} [Inhabited α] [DecidableEq α] {xs ys : List α} (h : xs.length = ys.length) : allR xs.length (fun i => decide (xs.getD i default = ys.getD i default)) = decide (xs = ys) := by
  rw [Bool.eq_iff_iff]
  simp only [allR_iff, decide_eq_true_eq]
  constructor
  · intro hh
    apply List.ext_getElem h
    intro i h1 h2
    have := hh i h1
    simpa [List.getD_eq_getElem?_getD, h1, h2] using this
  · rintro rfl i _; rfl

def DsL : List D → List D → Prop
  | [], [] => True
  | d :: r, d' :: r' => VLe (.d d) (.d d') ∧ DsL r r'
  | _, _ => Stuck "cells"
theorem DsL.get : ∀ {cs cs' : List D}, DsL cs cs' → ∀ (j : Nat) (d' : D), cs'[j]? = some d' → ∃ d, cs[j]? = some d ∧ VLe (.d d) (.d d')
  | [], [], _ => fun j d h => by simp at h
  | v :: r, v' :: r', h => fun j u hj => by
    simp only [DsL] at h
    cases j with
    | zero => simp at hj; subst hj; exact ⟨v, rfl, h.1⟩
    | succ j => simpa using h.2.get j u (by simpa using hj)
  | [], _ :: _, h => h.no.elim
  | _ :: _, [], h => h.no.elim
theorem VLe.rpL {cs cs' : List D} (h : DsL cs cs') : VLe (.rp cs) (.rp cs') := ⟨fun w ow ρ x hx => by
  cases hx with
  | rp vals h1 h2 h3 h4 =>
    refine .rp vals h1 h2 (fun j d hd => ?_) fun j d hd => ?_
    · obtain ⟨u, hu, _⟩ := h.get j d hd
      exact h3 j u hu
    · obtain ⟨u, hu, hle⟩ := h.get j d hd
      have := hle.out w ow ρ (vals j) (.d (h4 j u hu))
      cases this with | d h => exact h⟩

/-! ### Searches that the contracts' proofs want again and again: what is not said is looked for where the theorem is used. -/
theorem argA {p : Prop} (h : p := by
  (repeat' first | ((conv => whnf); first | exact trivial | refine And.intro ?_ ?_ | exact BLe.refl _ | exact VLe.refl _) | exact trivial | refine And.intro ?_ ?_ | exact VLe.refl _ | exact VLe.any _ | exact VLe.nil_osl rfl | exact VLe.nil_sl rfl | exact VLe.built rfl rfl | (refine VLe.osl rfl ?_; (first | rfl | assumption | (refine Eq.symm ?_; assumption) | (simp; done) | (simp [dsub_eq] <;> omega) | omega)) | exact VLe.rows (by first | rfl | assumption | (refine Eq.symm ?_; assumption) | (simp; done) | (simp [dsub_eq] <;> omega) | omega) (fun _ _ => rfl) | exact VLe.rows (by simp [dsub_eq] <;> omega) rows_take | exact VLe.rows (by simp [dsub_eq] <;> omega) rows_dt | exact VLe.rows (by simp [dsub_eq] <;> omega) rows_vt | exact VLe.rows (by simp) (fun i _ => by simp [viewRow_eq, Nat.add_comm]) | refine VLe.aggL ?_ | refine VLe.rpL ?_)) : p := h
theorem lenA {p : Prop} (h : p := by
  first | rfl | assumption | (refine Eq.symm ?_; assumption) | (simp; done) | (simp [dsub_eq] <;> omega) | omega) : p := h

end Go.Ab
namespace Go.Ab
open Go.RowKit
variable {P : Program} {tb : Tb} {w : World} {ow : Nat → Prop} {ρ : Env} {a : Act} {B : Bd} {w0 : World} {F : List (Array Value)} {S : St}

/-- Numbers of blocks changed by a table that is one to one. -/
def pmN (l : List (Nat × Nat)) (i : Nat) : Nat := match look l i with
  | some j => j
  | none => i
def pmInv (l : List (Nat × Nat)) : List (Nat × Nat) := l.map fun p => (p.2, p.1)
def pmOk (l : List (Nat × Nat)) : Bool := l.all fun p => (match look (pmInv l) p.2 with
  | some a => Nat.beq a p.1
  | none => false) && (match look l p.2 with
  | some _ => true
  | none => false)
theorem look_mem3 {α : Type} : ∀ {l : List (Nat × α)} {i : Nat} {x : α}, look l i = some x → (i, x) ∈ l
  | (u, y) :: r, i, x, h => by
    rcases look_cons h with ⟨rfl, rfl⟩ | ⟨_, h⟩
    · simp
    · exact List.mem_cons_of_mem _ (look_mem h)
  | [], _, _, h => by simp [look] at h
theorem pm_inv {l : List (Nat × Nat)} (h : pmOk l = true) (i : Nat) : pmN (pmInv l) (pmN l i) = i := by
  have h := List.all_eq_true.1 h
  unfold pmN
  cases hl : look l i with
  | some j =>
    have h1 := h (i, j) (look_mem3 hl)
    simp only [Bool.and_eq_true] at h1
    dsimp only
    cases h2 : look (pmInv l) j with
    | none => rw [h2] at h1; exact Bool.noConfusion h1.1
    | some a => rw [h2] at h1; exact Nat.eq_of_beq_eq_true h1.1
  | none =>
    dsimp only
    cases h2 : look (pmInv l) i with
    | none => rfl
    | some a =>
      obtain ⟨p, hp, e⟩ := List.mem_map.1 (look_mem3 h2)
      cases e
      have h1 := h p hp
      simp only [Bool.and_eq_true] at h1
      rw [hl] at h1
      exact Bool.noConfusion h1.2
noncomputable def rnVn (l : List (Nat × Nat)) (n : Nat) : V → (V → Prop) → Prop := Nat.rec (motive := fun _ => V → (V → Prop) → Prop) (fun v K => K (v.ren (pmN l))) (fun _ ih v K => match v with
  | .any => K .any
  | .d x => K (.d x)
  | .ref i r o => (match look l i with
    | some j => K (.ref j r o)
    | none => K (.ref i r o))
  | .osl i o n => (match look l i with
    | some j => K (.osl j o n)
    | none => K (.osl i o n))
  | .rp cs => K (.rp cs)
  | .agg vs => forceVLn ih vs fun vs' => K (.agg vs')
  | .tup vs => forceVLn ih vs fun vs' => K (.tup vs')
  | .fn f vs => forceVLn ih vs fun vs' => K (.fn f vs')) n
noncomputable def rnT (l : List (Nat × Nat)) (ts : List (Nat × V)) : (List (Nat × V) → Prop) → Prop := List.rec (motive := fun _ => (List (Nat × V) → Prop) → Prop) (fun K => K []) (fun p _ ih K => match p with
  | (t, v) => rnVn l 4 v fun v' => ih fun r' => K ((t, v') :: r')) ts
noncomputable def rnG (l : List (Nat × Nat)) (gs : List Gd) : (List Gd → Prop) → Prop := List.rec (motive := fun _ => (List Gd → Prop) → Prop) (fun K => K []) (fun g _ ih K => match g with
  | ⟨t, k, w, v⟩ => rnVn l 4 v fun v' => ih fun r' => K (⟨t, k, w, v'⟩ :: r')) gs
noncomputable def rnB (l : List (Nat × Nat)) (bs : List (Nat × Blk)) : (List (Nat × Blk) → Prop) → Prop := List.rec (motive := fun _ => (List (Nat × Blk) → Prop) → Prop) (fun K => K []) (fun p _ ih K => match p with
  | (i, .box t cs) => forceVLn (rnVn l 4) cs fun cs' => (match look l i with
    | some j => ih fun r' => K ((j, .box t cs') :: r')
    | none => ih fun r' => K ((i, .box t cs') :: r'))
  | (i, .arr t sz n row) => (match look l i with
    | some j => ih fun r' => K ((j, .arr t sz n row) :: r')
    | none => ih fun r' => K ((i, .arr t sz n row) :: r'))) bs
noncomputable def rnF (l : List (Nat × Nat)) (fs : List Fr) : (List Fr → Prop) → Prop := List.rec (motive := fun _ => (List Fr → Prop) → Prop) (fun K => K []) (fun f _ ih K => match f with
  | ⟨ts, gs⟩ => rnT l ts fun ts' => rnG l gs fun gs' => ih fun r' => K (⟨ts', gs'⟩ :: r')) fs
noncomputable def rnSt (l : List (Nat × Nat)) : St → (St → Prop) → Prop
  | ⟨base, nt, ts, gs, bs, fs⟩, K => rnT l ts fun ts => rnG l gs fun gs => rnB l bs fun bs => rnF l fs fun fs => K ⟨base, nt, ts, gs, bs, fs⟩

theorem forceVLr_eq {f : V → (V → Prop) → Prop} {g : Nat → Nat} (hf : ∀ v K, f v K = K (v.ren g)) (l : List V) : ∀ K : List V → Prop, forceVLn f l K = K (renL g l) := by
  induction l with
  | nil => intro K; rfl
  | cons x r ih => intro K; show f x (fun x' => forceVLn f r fun r' => K (x' :: r')) = _; rw [hf, ih]; rfl
theorem rnVn_eq (l : List (Nat × Nat)) : ∀ (n : Nat) (v : V) (K : V → Prop), rnVn l n v K = K (v.ren (pmN l))
  | 0, _, _ => rfl
  | n + 1, v, K => by
    cases v with
    | any => rfl
    | ref i r o =>
      show (match look l i with | some j => K (.ref j r o) | none => K (.ref i r o)) = K (.ref (pmN l i) r o)
      unfold pmN
      cases look l i <;> rfl
    | osl i o n =>
      show (match look l i with | some j => K (.osl j o n) | none => K (.osl i o n)) = K (.osl (pmN l i) o n)
      unfold pmN
      cases look l i <;> rfl
    | d x => rfl
    | rp cs => rfl
    | agg vs => exact forceVLr_eq (rnVn_eq l n) vs _
    | tup vs => exact forceVLr_eq (rnVn_eq l n) vs _
    | fn f vs => exact forceVLr_eq (rnVn_eq l n) vs _
theorem rnT_eq (l : List (Nat × Nat)) (ts : List (Nat × V)) : ∀ K : List (Nat × V) → Prop, rnT l ts K = K (renT (pmN l) ts) := by
  induction ts with
  | nil => intro K; rfl
  | cons x r ih => intro K; obtain ⟨t, v⟩ := x; show rnVn l 4 v (fun v' => rnT l r fun r' => K ((t, v') :: r')) = _; rw [rnVn_eq, ih]; rfl
theorem rnG_eq (l : List (Nat × Nat)) (ts : List Gd) : ∀ K : List Gd → Prop, rnG l ts K = K (renG (pmN l) ts) := by
  induction ts with
  | nil => intro K; rfl
  | cons x r ih => intro K; obtain ⟨t, k, w, v⟩ := x; show rnVn l 4 v (fun v' => rnG l r fun r' => K (⟨t, k, w, v'⟩ :: r')) = _; rw [rnVn_eq, ih]; rfl
theorem rnB_eq (l : List (Nat × Nat)) (bs : List (Nat × Blk)) : ∀ K : List (Nat × Blk) → Prop, rnB l bs K = K (renB (pmN l) bs) := by
  induction bs with
  | nil => intro K; rfl
  | cons x r ih =>
    intro K; obtain ⟨i, b⟩ := x
    cases b with
    | box t cs =>
      show forceVLn (rnVn l 4) cs (fun cs' => (match look l i with | some j => rnB l r fun r' => K ((j, .box t cs') :: r') | none => rnB l r fun r' => K ((i, .box t cs') :: r'))) = K ((pmN l i, .box t (renL (pmN l) cs)) :: renB (pmN l) r)
      rw [forceVLr_eq (rnVn_eq l 4)]
      unfold pmN
      cases look l i <;> exact ih _
    | arr t sz n row =>
      show (match look l i with | some j => rnB l r fun r' => K ((j, .arr t sz n row) :: r') | none => rnB l r fun r' => K ((i, .arr t sz n row) :: r')) = K ((pmN l i, .arr t sz n row) :: renB (pmN l) r)
      unfold pmN
      cases look l i <;> exact ih _
theorem rnF_eq (l : List (Nat × Nat)) (fs : List Fr) : ∀ K : List Fr → Prop, rnF l fs K = K (renF (pmN l) fs) := by
  induction fs with
  | nil => intro K; rfl
  | cons x r ih => intro K; obtain ⟨ts, gs⟩ := x; show rnT l ts (fun ts' => rnG l gs fun gs' => rnF l r fun r' => K (⟨ts', gs'⟩ :: r')) = _; rw [rnT_eq, rnG_eq, ih]; rfl
theorem rnSt_eq (l : List (Nat × Nat)) (S : St) (K : St → Prop) : rnSt l S K = K (S.ren (pmN l)) := by
  obtain ⟨base, nt, ts, gs, bs, fs⟩ := S
  simp only [rnSt, rnT_eq, rnG_eq, rnB_eq, rnF_eq]; rfl

/-! ### Steps from a state to one that says less -/
/-- Rows frozen; numbers of blocks changed; a row of no elements taken in; blocks left out. -/
inductive Ed where
  | f (ids : List Nat)
  | s (l : List (Nat × Nat))
  | p (id t sz : Nat) (row : Nat → List D)
  | k (ids : List Nat)
  | c (t : Nat)
  | ca (t j : Nat)
  | cb (q j : Nat)

/-- A check that the kernel makes. -/
structure KF (b : Bool) : Prop where
  h : b = false
structure KT (b : Bool) : Prop where
  h : b = true
noncomputable def edP : List Ed → St → (St → Prop) → Prop
  | [], S, K => K S
  | .f l :: r, S, K => frzSt l S fun S => edP r S K
  | .s l :: r, S, K => KT (pmOk l) ∧ rnSt l S fun S => edP r S K
  | .p id t sz row :: r, ⟨base, nt, ts, gs, bs, fs⟩, K => KF (St.mentions ⟨base, nt, ts, gs, bs, fs⟩ id) ∧ edP r ⟨base, nt, ts, gs, (id, .arr t sz 0 row) :: bs, fs⟩ K
  | .k ids :: r, ⟨base, nt, ts, gs, bs, fs⟩, K => forceB (delIds ids bs) fun bs => edP r ⟨base, nt, ts, gs, bs, fs⟩ K
  | .c t :: r, ⟨base, nt, ts, gs, bs, fs⟩, K => match look ts t with
    | some (.osl id off len) => (match look bs id with
      | some (.arr t0 sz _ row) => forceT (killT id ts) fun ts' => forceG (killG id gs) fun gs' => forceB (killB id bs) fun bs' => forceF (killF id fs) fun fs' =>
          edP r ⟨base, nt, (t, .osl id 0 len) :: ts', gs', (id, .arr t0 sz len (viewRow off row)) :: bs', fs'⟩ K
      | _ => Stuck "cut no such row")
    | _ => Stuck "cut no slice"
  | .ca t j :: r, ⟨base, nt, ts, gs, bs, fs⟩, K => match look ts t with
    | some (.agg vs) => (match vs[j]? with
      | some (.osl id off len) => (match look bs id with
        | some (.arr t0 sz _ row) => forceVL ((killL id vs).set j (.osl id 0 len)) fun vs' => forceT (killT id ts) fun ts' => forceG (killG id gs) fun gs' => forceB (killB id bs) fun bs' => forceF (killF id fs) fun fs' =>
            edP r ⟨base, nt, (t, .agg vs') :: ts', gs', (id, .arr t0 sz len (viewRow off row)) :: bs', fs'⟩ K
        | _ => Stuck "cut no such row")
      | _ => Stuck "cut no slice")
    | _ => Stuck "cut no struct"
  | .cb q j :: r, ⟨base, nt, ts, gs, bs, fs⟩, K => match look bs q with
    | some (.box t cs) => (match cs[j]? with
      | some (.osl id off len) => (match look bs id with
        | some (.arr t0 sz _ row) => forceVL ((killL id cs).set j (.osl id 0 len)) fun cs' => forceT (killT id ts) fun ts' => forceG (killG id gs) fun gs' => forceB (killB id bs) fun bs' => forceB (updB bs' q (.box t cs')) fun bs' => forceF (killF id fs) fun fs' =>
            edP r ⟨base, nt, ts', gs', (id, .arr t0 sz len (viewRow off row)) :: bs', fs'⟩ K
        | _ => Stuck "cut no such row")
      | _ => Stuck "cut no slice")
    | _ => Stuck "cut no variable"

theorem frzSt_le : ∀ (l : List Nat) {S : St} {K : St → Prop}, frzSt l S K → ∃ S1, LE S S1 ∧ K S1
  | [], S, _, h => ⟨S, .refl S, h⟩
  | i :: r, ⟨base, nt, ts, gs, bs, fs⟩, K, h => by
    simp only [frzSt] at h
    split at h
    · rename_i row hb
      rw [forceT_eq, forceG_eq, forceB_eq, forceF_eq] at h
      obtain ⟨S1, h1, h2⟩ := frzSt_le r h
      exact ⟨S1, LE.trans ⟨fun B w0 F ρ a w hs => ⟨ρ, (hs.frz hb).1⟩⟩ h1, h2⟩
    · exact h.no.elim
theorem delK_le (ids : List Nat) : LE S ⟨S.base, S.nt, S.tmps, S.gds, delIds ids S.blks, S.frames⟩ :=
  ⟨fun B w0 F ρ a w hs => ⟨ρ, sim_leB hs fun i b hb => by
    rw [look_del] at hb
    split at hb
    · cases hb
    · exact ⟨b, hb, .refl b⟩⟩⟩
/-- A slice that is handed on becomes a row of its own: nothing else names the row any more. -/
theorem sim_cut {S : St} {id off len n : Nat} {t0 : TypeId} {sz : Nat} {row : Nat → List D} {B : Bd} {w0 w : World} {F : List (Array Value)} {ρ : Env} {a : Act} {x : Value} (h : Sim P B w0 F ρ S a w) (hv : VR w (ownZ B S.blks ρ) ρ (.osl id off len) x) (hb : look S.blks id = some (.arr t0 sz n row)) :
    ∃ l : Loc, Sim P B w0 F (ρ.set id l) ⟨S.base, S.nt, killT id S.tmps, killG id S.gds, (id, .arr t0 sz len (viewRow off row)) :: killB id S.blks, killF id S.frames⟩ a w ∧
      VR w (ownZ B ((id, .arr t0 sz len (viewRow off row)) :: killB id S.blks) (ρ.set id l)) (ρ.set id l) (.osl id 0 len) x := by
  have hk := simO_kill h.o id
  have hkm := St.kill_mentions S id
  obtain ⟨ad, cap, h1, h2, h3⟩ := hv.osl_inv
  rcases h3 with ⟨h3, h4⟩ | ⟨h3, h4, h5, h6⟩
  · subst h3 h4
    have hsn := sim_emptyRow (w := w) hk hkm (fun _ h => h.imp own_killB fun h => h) (sz := sz) (row := viewRow off row) (e := t0) ad
    exact ⟨_, hsn.1, by rw [h1]; exact hsn.2⟩
  · have hb0 := h.blks id _ hb
    cases hb0 with
    | arr0 g => rw [g] at h3; cases h3
    | arr C et0 g1 g2 g3 g4 g5 g6 g7 g8 =>
    have hge := h.ge id _ hb h3
    have hnown : ¬ own (killB id S.blks) ρ (ρ id).b := by
      rintro ⟨i, k, hk, hp, hbi⟩
      obtain ⟨hne, k0, hk0, _⟩ := look_killB hk
      exact hne (h.sep i id _ _ hk0 hb hp h3 hbi)
    have hsn := sim_new (loc := ⟨(ρ id).b, (ρ id).o + off * sz, sz, len, cap, false⟩) (blk := .arr t0 sz len (viewRow off row)) (w' := w) hk hkm (fun _ h => h.imp own_killB fun h => h) (Nat.le_refl _)
      (fun _ _ _ => rfl) (fun _ _ => rfl) (fun _ => .inr ⟨.inl ⟨id, _, hb, h3, rfl⟩, hnown⟩) (fun _ => hge) rfl rfl rfl fun keep => by
        refine .arr C et0 (by simp [Env.set]) (by simp [Env.set]) (by simp [Env.set]) (by simp only [Env.set, if_true]; omega) (fun i hi => ?_) (by simp only [Env.set, if_true]; exact g6) ?_ fun i j d hi hd => ?_
        · rw [viewRow_eq]; exact g5 _ (by omega)
        · simp only [Env.set, if_true]
          have : off * sz + cap * sz = (ρ id).cap * sz := by rw [← Nat.add_mul]; congr 1; omega
          omega
        · simp only [Env.set, if_true]
          rw [viewRow_eq] at hd
          have := (g8 (off + i) j d (by omega) hd).keep keep
          rw [show (ρ id).o + off * sz + i * sz + j = (ρ id).o + (off + i) * sz + j by rw [Nat.add_mul]; omega]
          exact this
    refine ⟨_, hsn, ?_⟩
    rw [h1, h5, g2]
    have := VR.osl (w := w) (own := ownZ B ((id, .arr t0 sz len (viewRow off row)) :: killB id S.blks) (ρ.set id ⟨(ρ id).b, (ρ id).o + off * sz, sz, len, cap, false⟩)) (ρ := ρ.set id ⟨(ρ id).b, (ρ id).o + off * sz, sz, len, cap, false⟩) (id := id) (off := 0) (len := len) (by simp [Env.set]) (by simp [Env.set]) (by simp only [Env.set, if_true]; omega)
    simpa [Env.set] using this
theorem sim_top {S' : St} {B : Bd} {w0 w : World} {F : List (Array Value)} {ρ : Env} {a : Act} {ts : Nat} {v : V} (h1 : Sim P B w0 F ρ S' a w) (h2 : VR w (ownZ B S'.blks ρ) ρ v (a.tmps.getD ts undef)) : Sim P B w0 F ρ ⟨S'.base, S'.nt, (ts, v) :: S'.tmps, S'.gds, S'.blks, S'.frames⟩ a w :=
  ⟨h1.below, h1.tab, h1.hB, h1.defers, h1.nt, ⟨fun t v ht => by
    rcases look_cons ht with ⟨rfl, rfl⟩ | ⟨_, ht⟩
    · exact h2
    · exact h1.top.tmps t v ht, h1.top.gds⟩, h1.blks, h1.sep, h1.ge, h1.frames⟩
theorem le_cut (S : St) {id off len n : Nat} {t0 : TypeId} {sz : Nat} {row : Nat → List D} {ts : Nat} (hv : look S.tmps ts = some (.osl id off len)) (hb : look S.blks id = some (.arr t0 sz n row)) :
    LE S ⟨S.base, S.nt, (ts, .osl id 0 len) :: killT id S.tmps, killG id S.gds, (id, .arr t0 sz len (viewRow off row)) :: killB id S.blks, killF id S.frames⟩ := ⟨fun B w0 F ρ a w h => by
  obtain ⟨l, h1, h2⟩ := sim_cut h (h.top.tmps ts _ hv) hb
  exact ⟨_, sim_top h1 h2⟩⟩
theorem look_killT {id t : Nat} {v : V} : ∀ {ts : List (Nat × V)}, look ts t = some v → look (killT id ts) t = some (v.kill id)
  | (u, x) :: r, h => by
    simp only [look] at h
    show look ((u, x.kill id) :: killT id r) t = _
    simp only [look]
    split at h
    · rename_i e
      rw [Option.some.inj h]
    · exact look_killT h
  | [], h => by simp [look] at h
theorem le_cutA (S : St) {id off len n : Nat} {t0 : TypeId} {sz : Nat} {row : Nat → List D} {ts j : Nat} {vs : List V} (hv : look S.tmps ts = some (.agg vs)) (hj : vs[j]? = some (.osl id off len)) (hb : look S.blks id = some (.arr t0 sz n row)) :
    LE S ⟨S.base, S.nt, (ts, .agg ((killL id vs).set j (.osl id 0 len))) :: killT id S.tmps, killG id S.gds, (id, .arr t0 sz len (viewRow off row)) :: killB id S.blks, killF id S.frames⟩ := ⟨fun B w0 F ρ a w h => by
  have hx := h.top.tmps ts _ hv
  generalize hy : a.tmps.getD ts undef = y at hx
  cases hx with | agg g0 g1 g2 =>
  rename_i cs
  obtain ⟨l, h1, h2⟩ := sim_cut h (g2 j _ hj) hb
  have hk := h1.top.tmps ts _ (look_killT hv)
  rw [hy] at hk
  have hk : VR _ _ _ (.agg (killL id vs)) (.agg cs) := hk
  cases hk with | agg k0 k1 k2 =>
  refine ⟨_, sim_top h1 ?_⟩
  rw [hy]
  refine .agg (by rw [List.length_set]; exact k0) k1 fun q u hq => ?_
  rw [List.getElem?_set] at hq
  split at hq
  · rename_i e
    subst e
    split at hq
    · cases hq; exact h2
    · cases hq
  · exact k2 q u hq⟩
theorem look_killB' {id q : Nat} (hne : q ≠ id) : ∀ {bs : List (Nat × Blk)} {b : Blk}, look bs q = some b → look (killB id bs) q = some (b.kill id)
  | (u, x) :: r, b, h => by
    simp only [look] at h
    simp only [killB]
    split at h
    · rename_i e
      have e := Nat.eq_of_beq_eq_true e
      subst e
      have : Nat.beq u id = false := by
        cases c : Nat.beq u id
        · rfl
        · exact absurd (Nat.eq_of_beq_eq_true c) hne
      rw [this]
      simp only [look, Nat.beq_refl]
      rw [Option.some.inj h]
    · rename_i e
      split
      · exact look_killB' hne h
      · simp only [look, e]
        exact look_killB' hne h
  | [], _, h => by simp [look] at h
theorem sim_upd {q : Nat} {b0 blk : Blk} {S : St} {B : Bd} {w0 w : World} {F : List (Array Value)} {ρ : Env} {a : Act} (h : Sim P B w0 F ρ S a w) (h0 : look S.blks q = some b0) (hbr : BR w (ownZ B S.blks ρ) ρ q blk) :
    Sim P B w0 F ρ ⟨S.base, S.nt, S.tmps, S.gds, updB S.blks q blk, S.frames⟩ a w := by
  have keep : Keep w (ownZ B S.blks ρ) w (ownZ B (updB S.blks q blk) ρ) := ⟨Nat.le_refl _, fun b _ ho => ⟨rfl, fun h => ho (h.imp (own_updB h0) fun h => h)⟩⟩
  have lift : ∀ i x, look (updB S.blks q blk) i = some x → ∃ x0, look S.blks i = some x0 := fun i x hx => by
    rcases look_updB hx with ⟨rfl, _, b, hb⟩ | ⟨_, hb⟩
    · exact ⟨b, hb⟩
    · exact ⟨x, hb⟩
  refine ⟨h.below, h.tab, h.hB, h.defers, h.nt, h.top.keep keep fun _ _ => rfl, fun i b hb => ?_, fun i j x y hx hy => ?_, fun i x hx => ?_, h.frames.1, fun i f' tm hf' htm => (h.frames.2 i f' tm hf' htm).keep keep fun _ _ => rfl⟩
  · rcases look_updB hb with ⟨rfl, rfl, _⟩ | ⟨hn, hb⟩
    · exact hbr.keep keep rfl (fun _ => rfl) fun _ _ => rfl
    · exact (h.blks i b hb).keep keep rfl (fun _ => rfl) fun _ _ => rfl
  · obtain ⟨x0, hx0⟩ := lift i x hx
    obtain ⟨y0, hy0⟩ := lift j y hy
    exact h.sep i j x0 y0 hx0 hy0
  · obtain ⟨x0, hx0⟩ := lift i x hx
    exact h.ge i x0 hx0
theorem le_cutB (S : St) {id off len n : Nat} {t0 : TypeId} {sz : Nat} {row : Nat → List D} {q j : Nat} {t : TypeId} {cs : List V} (hq : look S.blks q = some (.box t cs)) (hj : cs[j]? = some (.osl id off len)) (hb : look S.blks id = some (.arr t0 sz n row)) :
    LE S ⟨S.base, S.nt, killT id S.tmps, killG id S.gds, (id, .arr t0 sz len (viewRow off row)) :: updB (killB id S.blks) q (.box t ((killL id cs).set j (.osl id 0 len))), killF id S.frames⟩ := ⟨fun B w0 F ρ a w h => by
  have hne : q ≠ id := fun e => by subst e; rw [hq] at hb; cases hb
  cases h.blks q _ hq with
  | box C g1 g2 g3 g4 g5 g6 g7 g8 =>
  obtain ⟨l, h1, h2⟩ := sim_cut h (g8 j _ hj) hb
  have hid : Nat.beq id q = false := by
    cases c : Nat.beq id q
    · rfl
    · exact absurd (Nat.eq_of_beq_eq_true c).symm hne
  have hlk : look ((id, Blk.arr t0 sz len (viewRow off row)) :: killB id S.blks) q = some (.box t (killL id cs)) := by
    simp only [look, hid]
    exact look_killB' hne hq
  refine ⟨ρ.set id l, ?_⟩
  have hb1 := h1.blks q _ hlk
  have hr : (ρ.set id l) q = ρ q := Env.set_other hne
  have hbr : BR w (ownZ B ((id, Blk.arr t0 sz len (viewRow off row)) :: killB id S.blks) (ρ.set id l)) (ρ.set id l) q (.box t ((killL id cs).set j (.osl id 0 len))) := by
    cases hb1 with
    | box C' k1 k2 k3 k4 k5 k6 k7 k8 =>
    have ec : C' = C := by
      rw [hr, g5] at k5
      cases k5; rfl
    subst ec
    refine .box C' k1 k2 (by rw [List.length_set]; exact k3) k4 k5 (by rw [List.length_set]; exact k6) k7 fun i v hv => ?_
    rw [List.getElem?_set] at hv
    split at hv
    · rename_i e
      subst e
      split at hv
      · cases hv; exact h2
      · cases hv
    · exact k8 i v hv
  have := sim_upd h1 hlk hbr
  have eu : updB ((id, Blk.arr t0 sz len (viewRow off row)) :: killB id S.blks) q (.box t ((killL id cs).set j (.osl id 0 len))) = (id, .arr t0 sz len (viewRow off row)) :: updB (killB id S.blks) q (.box t ((killL id cs).set j (.osl id 0 len))) := by
    simp only [updB, hid]
  rw [← eu]
  exact this⟩
theorem edP_le : ∀ (l : List Ed) {S : St} {K : St → Prop}, edP l S K → ∃ S1, LE S S1 ∧ K S1
  | [], S, _, h => ⟨S, .refl S, h⟩
  | .f l :: r, S, K, h => by
    obtain ⟨S1, h1, h2⟩ := frzSt_le l h
    obtain ⟨S2, h3, h4⟩ := edP_le r h2
    exact ⟨S2, h1.trans h3, h4⟩
  | .s l :: r, S, K, h => by
    simp only [edP, rnSt_eq] at h
    obtain ⟨S2, h3, h4⟩ := edP_le r h.2
    exact ⟨S2, (le_ren _ (pmN (pmInv l)) (pm_inv h.1.h) S).trans h3, h4⟩
  | .p id t sz row :: r, ⟨base, nt, ts, gs, bs, fs⟩, K, h => by
    obtain ⟨S2, h3, h4⟩ := edP_le r h.2
    exact ⟨S2, (le_phantom ⟨base, nt, ts, gs, bs, fs⟩ id t sz row h.1.h).trans h3, h4⟩
  | .k ids :: r, ⟨base, nt, ts, gs, bs, fs⟩, K, h => by
    simp only [edP, forceB_eq] at h
    obtain ⟨S2, h3, h4⟩ := edP_le r h
    exact ⟨S2, (delK_le (S := ⟨base, nt, ts, gs, bs, fs⟩) ids).trans h3, h4⟩
  | .c t :: r, ⟨base, nt, ts, gs, bs, fs⟩, K, h => by
    simp only [edP] at h
    split at h
    · rename_i id off len hv
      split at h
      · rename_i t0 sz n row hb
        rw [forceT_eq, forceG_eq, forceB_eq, forceF_eq] at h
        obtain ⟨S2, h3, h4⟩ := edP_le r h
        exact ⟨S2, (le_cut ⟨base, nt, ts, gs, bs, fs⟩ hv hb).trans h3, h4⟩
      · exact h.no.elim
    · exact h.no.elim
  | .ca t j :: r, ⟨base, nt, ts, gs, bs, fs⟩, K, h => by
    simp only [edP] at h
    split at h
    · rename_i vs hv
      split at h
      · rename_i id off len hj
        split at h
        · rename_i t0 sz n row hb
          rw [forceVL_eq, forceT_eq, forceG_eq, forceB_eq, forceF_eq] at h
          obtain ⟨S2, h3, h4⟩ := edP_le r h
          exact ⟨S2, (le_cutA ⟨base, nt, ts, gs, bs, fs⟩ hv hj hb).trans h3, h4⟩
        · exact h.no.elim
      · exact h.no.elim
    · exact h.no.elim
  | .cb q j :: r, ⟨base, nt, ts, gs, bs, fs⟩, K, h => by
    simp only [edP] at h
    split at h
    · rename_i t cs hq
      split at h
      · rename_i id off len hj
        split at h
        · rename_i t0 sz n row hb
          rw [forceVL_eq, forceT_eq, forceG_eq, forceB_eq, forceB_eq, forceF_eq] at h
          obtain ⟨S2, h3, h4⟩ := edP_le r h
          exact ⟨S2, (le_cutB ⟨base, nt, ts, gs, bs, fs⟩ hq hj hb).trans h3, h4⟩
        · exact h.no.elim
      · exact h.no.elim
    · exact h.no.elim

/-- The slots named alone. -/
def restT (ks : List Nat) : St → St
  | ⟨base, nt, ts, _, bs, fs⟩ => ⟨base, nt, ks.map fun k => (k, getT ts k), [], bs, fs⟩
theorem leT_rest {ts : List (Nat × V)} : ∀ (ks : List Nat), LeT ts (ks.map fun k => (k, getT ts k))
  | [] => trivial
  | k :: r => by
    refine ⟨?_, leT_rest r⟩
    unfold getT
    cases look ts k <;> exact .refl _
theorem restT_le (ks : List Nat) : LE S (restT ks S) := by
  obtain ⟨base, nt, ts, gs, bs, fs⟩ := S
  exact ⟨fun B w0 F ρ a w h => ⟨ρ, h.below, h.tab, h.hB, h.defers, h.nt, h.top.le (leT_rest ks), h.blks, h.sep, h.ge, h.frames⟩⟩

def LeP : St → St → Prop
  | ⟨_, nt, ts, _, bs, fs⟩, ⟨_, nt', ts', gs', bs', fs'⟩ => (nt = nt' ∧ gs' = []) ∧ LeT ts ts' ∧ LeB bs bs' ∧ LeF fs fs'
theorem LeP.le {S S' : St} (h : LeP S S') : LE S S' := by
  obtain ⟨base, nt, ts, gs, bs, fs⟩ := S
  obtain ⟨base', nt', ts', gs', bs', fs'⟩ := S'
  obtain ⟨⟨rfl, rfl⟩, h1, h2, h3⟩ := h
  exact le_mk h1 h2 h3

theorem VLe.tupL {vs vs' : List V} (h : CellsLe vs vs') : VLe (.tup vs) (.tup vs') := ⟨fun w ow ρ x hx => by
  obtain ⟨h1, h2⟩ := h.get
  cases hx with
  | tup hs hv =>
    refine .tup (by rw [hs, h1]) fun j v hj => ?_
    obtain ⟨u, hu, hle⟩ := h2 j v hj
    exact hle.out _ _ _ _ (hv j u hu)⟩

theorem rows_takeL {α : Type} [Inhabited α] {enc : α → List D} {xs : List α} {k : Nat} : ∀ i, i < (xs.take k).length → rows enc xs i = rows enc (xs.take k) i := by
  intro i hi
  have : i < k := by simp at hi; omega
  simp [rows, List.getD_eq_getElem?_getD, this]
theorem BLe.cut0 {α : Type} [Inhabited α] {enc : α → List D} {t t' : TypeId} {sz n k : Nat} {xs : List α} (hn : n = (xs.take k).length) : BLe (.arr t sz n (viewRow (addOff 0 (Int.toNat 0)) (Ab.rows enc xs))) (.arr t' sz (xs.take k).length (Ab.rows enc (xs.take k))) := by
  refine .rows rfl hn fun i hi => ?_
  rw [hn] at hi
  rw [← rows_takeL i hi]
  simp [viewRow_eq, addOff_eq]
theorem BLe.cutN {α : Type} [Inhabited α] {enc : α → List D} {t t' : TypeId} {sz n k : Nat} {xs : List α} (hn : n = ((xs.take (k + n)).drop k).length) : BLe (.arr t sz n (viewRow (addOff 0 k) (Ab.rows enc xs))) (.arr t' sz ((xs.take (k + n)).drop k).length (Ab.rows enc ((xs.take (k + n)).drop k))) := by
  refine .rows rfl hn fun i hi => ?_
  rw [addOff_eq, Nat.zero_add]
  exact rows_vt i hi
/-- What is looked for where a state says no more than another. -/
theorem srA {p : Prop} (h : p := by
  (repeat' first | ((conv => whnf); first | exact trivial | refine And.intro ?_ ?_ | exact KF.mk (by kernel_rfl) | exact KT.mk (by kernel_rfl) | exact BLe.refl _ | exact VLe.refl _) | exact trivial | exact rfl | refine And.intro ?_ ?_ | exact BLe.refl _ | exact VLe.refl _ | exact VLe.any _ | exact VLe.nil_osl rfl | exact VLe.nil_sl rfl | exact VLe.built rfl rfl | (refine VLe.osl rfl ?_; (first | rfl | assumption | (refine Eq.symm ?_; assumption) | (simp; done) | (simp [dsub_eq] <;> omega) | omega | (simp [dsub_eq] <;> (dsimp only at *; omega)))) | exact VLe.rows (by first | rfl | assumption | (refine Eq.symm ?_; assumption) | (simp; done) | (simp [dsub_eq] <;> omega) | omega | (simp [dsub_eq] <;> (dsimp only at *; omega))) (fun _ _ => rfl) | exact VLe.rows (by simp [dsub_eq] <;> omega) rows_take | exact VLe.rows (by simp [dsub_eq] <;> omega) rows_dt | exact VLe.rows (by simp [dsub_eq] <;> omega) rows_vt | exact VLe.rows (by simp) (fun i _ => by simp [viewRow_eq, Nat.add_comm]) | refine VLe.aggL ?_ | refine VLe.tupL ?_ | (refine BLe.rows rfl ?_ fun _ _ => rfl; (first | rfl | assumption | (refine Eq.symm ?_; assumption) | (simp; done) | (simp [dsub_eq] <;> omega) | omega | (simp [dsub_eq] <;> (dsimp only at *; omega)))) | (refine BLe.rows rfl rfl ?_; first | exact rows_take) | (refine BLe.cutN ?_; (first | rfl | (simp; done) | (simp [dsub_eq] <;> omega) | (simp [dsub_eq] <;> (dsimp only at *; omega)))) | (refine BLe.cut0 ?_; (first | rfl | (simp; done) | (simp [dsub_eq] <;> omega) | (simp [dsub_eq] <;> (dsimp only at *; omega)))) | (refine BLe.rows rfl ?_ rows_take; (first | rfl | (simp; done) | (simp [dsub_eq] <;> omega) | omega | (simp [dsub_eq] <;> (dsimp only at *; omega)))) | refine BLe.box ?_ | exact fun _ _ => rfl | exact rows_take | (intro i hi; dsimp only at hi ⊢; simp only [List.length_take] at hi; simp [viewRow_eq, addOff_eq, List.getD_eq_getElem?_getD, Nat.lt_of_lt_of_le hi (Nat.min_le_left _ _)]; done) | (first | rfl | assumption | (refine Eq.symm ?_; assumption) | (simp; done) | (simp [dsub_eq] <;> omega) | omega | (simp [dsub_eq] <;> (dsimp only at *; omega))))) : p := h

def keysT : St → List Nat
  | ⟨_, _, ts, _, _, _⟩ => ts.map (·.1)
theorem leX {S S' : St} (l : List Ed) (h : stK (restT (keysT S') S) fun S => edP l S fun S1 => LeP S1 S' := by exact srA) : LE S S' := by
  rw [stK_eq] at h
  obtain ⟨S1, h1, h2⟩ := edP_le l h
  exact (restT_le _).trans (h1.trans h2.le)

/-! ### A function's end -/
def keysR : List ResultVar → List Nat
  | [] => []
  | .tmp t :: r => t :: keysR r
  | .cell x _ :: r => x :: keysR r
def retX (tb : Tb) (rs : List ResultVar) (res : V) (nb : List Nb) : Exit → St → Prop := fun e S' => match e with
  | .ret => ∃ S'', LE S' S'' ∧ resV tb rs S'' fun v => VLe v res ∧ NbIn S''.blks nb
  | .normal => ∃ S'', LE S' S'' ∧ resV tb rs S'' fun v => VLe v res ∧ NbIn S''.blks nb
  | _ => Stuck "return no way out"
theorem lfP {rs : List ResultVar} {res : V} {nb : List Nb} (l : List Ed) (h : stK (restT (keysR rs) S) fun S => edP l S fun S1 => resV tb rs S1 fun v => VLe v res ∧ NbIn S1.blks nb := by exact srA) :
    ∃ S'', LE S S'' ∧ resV tb rs S'' fun v => VLe v res ∧ NbIn S''.blks nb := by
  rw [stK_eq] at h
  obtain ⟨S1, h1, h2⟩ := edP_le l h
  exact ⟨S1, (restT_le _).trans h1, h2⟩

theorem retX_sound (hT : TOk P tb) {fn : Func} {res : V} {nb : List Nb} {S' : St} {a' : Act} {w' : World} (hflat : flatV res = true) (hrows : ∀ b ∈ nb, ∀ i, i < b.n → ∀ d ∈ b.row i, atomD d = true)
    (h : Sim P (allOld w) w [] ρ S' a' w') (hk : resV tb fn.results.toList S' fun v => VLe v res ∧ NbIn S'.blks nb) :
    a'.defers = [] ∧ ∃ v, (results fn a'.tmps).run P w' = .ok v w' ∧ ∃ v' ρ', Ending.returned v = .returned v' ∧ Pure w w' ∧ VR w' (fun b => b < w.heap.size) ρ' res v' ∧
      (∀ b ∈ nb, BR w' (fun b => b < w.heap.size) ρ' b.id (.arr b.t b.sz b.n b.row)) ∧ (∀ x ∈ nb, ∀ y ∈ nb, (ρ' x.id).ph = false → (ρ' y.id).ph = false → (ρ' x.id).b = (ρ' y.id).b → x.id = y.id) ∧ (∀ x ∈ nb, (ρ' x.id).ph = false → w.heap.size ≤ (ρ' x.id).b) := by
  obtain ⟨x, v, h1, h2, h3, h4⟩ := resV_sound hT h fn _ hk
  have hn := nbIn_mem h4
  refine ⟨h.defers, v, h1, v, ρ, rfl, ⟨h.below.os, h.below.tape, h.below.output, h.below.size, h.below.block⟩, (h3.out _ _ _ _ h2).flat hflat, fun b hb => ?_, fun p hp q hq hpp hpq hpe => ?_, fun p hp hpp => ?_⟩
  · obtain ⟨t, n, row, g1, g2, g3⟩ := hn b hb
    subst g2
    cases h.blks _ _ g1 with
    | arr0 k1 k2 k3 k4 => exact .arr0 k1 k2 k3 k4
    | arr C et k1 k2 k3 k4 k5 k6 k7 k8 =>
      exact .arr C et k1 k2 k3 k4 (fun i hi => by rw [← g3 i hi]; exact k5 i hi) k6 k7 fun i j d hi hd => (k8 i j d hi (by rw [g3 i hi]; exact hd)).atom (hrows b hb i hi d (List.mem_of_getElem? hd)) _ _
  · obtain ⟨_, _, _, g1, _⟩ := hn p hp
    obtain ⟨_, _, _, g2, _⟩ := hn q hq
    exact h.sep _ _ _ _ g1 g2 hpp hpq hpe
  · obtain ⟨_, _, _, g1, _⟩ := hn p hp
    exact Nat.le_of_not_lt (h.ge _ _ g1 hpp)

theorem pureC_x (hT : TOk P tb) {f : FuncId} {fn : Func} {c : Code} {args : List V} {res : V} {nb : List Nb} (hf : P.funcs[f]? = some fn) (hb : fn.body = some c)
    (h : wpc P tb c ⟨0, fn.ntmps, enumT 0 args, [], [], []⟩ (retX tb fn.results.toList res nb)) (hn : (fn.name == "runtime.NumGoroutine") = false := by kernel_rfl)
    (hl : Nat.ble args.length fn.ntmps = true := by kernel_rfl) (hflat : flatV res = true := by kernel_rfl) (hrows : ∀ b ∈ nb, ∀ i, i < b.n → ∀ d ∈ b.row i, atomD d = true := by simp [atomD]) (hdist : nb.Pairwise fun x y => x.id ≠ y.id := by simp) (hids : ∀ id, res.mentions id = true → ∃ b ∈ nb, b.id = id := by exact ids_of rfl) : PureC P f args res nb := by
  refine ⟨⟨fn, hf, hn, by simp [hb]⟩, hflat, hrows, hdist, hids, fun w vals ρ0 hv htab => ?_⟩
  have hl := Nat.le_of_ble_eq_true hl
  have hvs := hv.1
  have hown : ∀ b, own ([] : List (Nat × Blk)) ρ0 b → False := fun b ⟨_, _, h, _⟩ => by simp [look] at h
  refine calls_of_wp hf hb (wp_mono (wpc_sound hT c _ _ h (allOld w) w [] ρ0 ⟨vals ++ Array.replicate (fn.ntmps - vals.size) undef, []⟩ w ?_) ?_)
  · refine ⟨Kept.refl _ _, htab, fun _ h => h, rfl, by simp; omega, ⟨fun t v ht => ?_, fun g hg => by simp at hg⟩, fun id b hb => by simp [look] at hb, fun i j x y hx => by simp [look] at hx, fun i x hx => by simp [look] at hx, rfl, fun i f tm hf => by simp at hf⟩
    obtain ⟨_, h2⟩ := look_enumT ht
    have hlt := (List.getElem?_eq_some_iff.1 h2).1
    simp only [Nat.sub_zero] at h2 hlt
    dsimp only
    rw [enter_getD (by omega)]
    exact (hv.2 t v h2).keep ⟨Nat.le_refl _, fun b _ _ => ⟨rfl, fun h => h.elim (hown b) fun h => h⟩⟩ fun _ _ => rfl
  · rintro e a' w' ⟨ρ', S', h1, h2⟩
    cases e <;> simp only [retX] at h2 <;> first
      | exact h2.no.elim
      | (obtain ⟨S'', hle, hk⟩ := h2
         obtain ⟨ρ'', h3⟩ := hle.out _ _ _ _ _ _ h1
         exact retX_sound hT hflat hrows h3 hk)

/-! ### Drawn regions: a table of what operations do -/
/-- e: a call that writes: place, the hidden blocks that it finds, its value, what it makes, the hidden ones behind it, those that it only reads; r: a call that only reads hidden blocks; a: an operation on hidden blocks; l: one that only reads; u: a call that reads. -/
inductive Tr where
  | e (j : Nat) (pre : List (Nat × Blk)) (res : V) (nb post : List (Nat × Blk))
  | r (j : Nat) (pre : List (Nat × Blk)) (res : V) (nb : List (Nat × Blk))
  | a (j : Nat) (pre : List (Nat × Blk)) (res : V) (post : List (Nat × Blk))
  | l (j : Nat) (pre : List (Nat × Blk)) (res : V)
  | u (j k : Nat) (res : V) (nb : List Nb)
def Tr.j : Tr → Nat
  | .e j _ _ _ _ => j
  | .r j _ _ _ => j
  | .a j _ _ _ => j
  | .l j _ _ => j
  | .u j _ _ _ => j
def Tr.c (P : Program) : Tr → CS
  | .e _ pre res nb post => .eff res nb post (fun g vs => EffD P pre g vs res nb post) (LeB pre post)
  | .r _ pre res nb => .eff res nb pre (fun g vs => EffD P pre g vs res nb pre) (LeB pre pre)
  | .a _ pre res post => .app pre res post
  | .l _ pre res => .app pre res pre
  | .u _ k res nb => .pure k res nb
def Tr.p : Tr → List (Nat × Blk)
  | .e _ pre _ _ _ => pre
  | .r _ pre _ _ => pre
  | .a _ pre _ _ => pre
  | .l _ pre _ => pre
  | .u _ _ _ _ => []
def Tr.o : Tr → List Nat
  | .r _ pre _ _ => idsB pre
  | .l _ pre _ => idsB pre
  | _ => []
noncomputable def trF (l : List Tr) (j : Nat) : Option Tr := List.rec (motive := fun _ => Option Tr) none (fun t _ ih => match Nat.beq t.j j with
  | true => some t
  | false => ih) l
noncomputable def tcs (P : Program) (l : List Tr) (j : Nat) : Option CS := match trF l j with
  | some t => some (t.c P)
  | none => none
/-- A number's bits, the last one set. -/
noncomputable def bitsF (f : Nat) : Nat → List Bool := Nat.rec (motive := fun _ => Nat → List Bool) (fun _ => []) (fun _ ih n => match Nat.beq n 0 with
  | true => []
  | false => Nat.beq (n % 2) 1 :: ih (n / 2)) f
noncomputable def dm (l : List Nat) : List (List Bool) := l.map (bitsF 400)

theorem draw_u (hT : TOk P tb) {id : Nat} {opsA : Array Oper} {S : St} {K : St → Prop} (l : List Tr) (m : Nat) (ls mk mkt : List Nat) (h : evDrawK P tb (tcs P l) m (dm mk) opsA.toList S K)
    (hmx : P.follows .mixedOrders = true := by kernel_rfl) (hml : m ≤ opsA.size := by decide) (hno : (noEff (tcs P l) m && dstChk opsA.toList (tcs P l) m) = true := by kernel_rfl)
    (hst : statOkL m ls opsA.toList (dm mk) (dm mkt) = true := by kernel_rfl) : DrawP P id opsA S K :=
  draw_k hT hmx (tcs P l) m ls (dm mk) (dm mkt) hml hno hst h

/-! ### Calls, with what is to be looked for left out -/
theorem cC {base nt : Nat} {ts : List (Nat × V)} {gs : List Gd} {bs : List (Nat × Blk)} {fs : List Fr} {f : FuncId} {args args' : List V} {res : V} {nb : List Nb} {K : V → St → Prop} (k : Nat) (h : PureC P f args' res nb)
    (hk : forceV (res.shift k) fun v => forceB (nb.map (Nb.ent k) ++ bs) fun bs => K v ⟨base, nt, ts, gs, bs, fs⟩) (hv : viewL (look bs) args = some args' := by kernel_rfl) (hm : (nb.all fun b => !(St.mentions ⟨base, nt, ts, gs, bs, fs⟩ (b.id + k))) = true := by kernel_rfl) :
    CallP P f args ⟨base, nt, ts, gs, bs, fs⟩ K := callC k h hv hm hk
theorem look_nbs_mem {nb : List Nb} (hd : nb.Pairwise fun x y => x.id ≠ y.id) : ∀ b ∈ nb, look (nbsOf nb) b.id = some (.arr b.t b.sz b.n b.row) := by
  induction nb with
  | nil => intro b hb; exact absurd hb (by simp)
  | cons x r ih =>
    intro b hb
    obtain ⟨h1, h2⟩ := List.pairwise_cons.1 hd
    show look ((x.id, Blk.arr x.t x.sz x.n x.row) :: nbsOf r) b.id = _
    unfold look
    rcases List.mem_cons.1 hb with rfl | hb
    · rw [Nat.beq_refl]
    · have : Nat.beq x.id b.id = false := by
        cases e : Nat.beq x.id b.id
        · rfl
        · exact absurd (Nat.eq_of_beq_eq_true e) (h1 b hb)
      rw [this]
      exact ih h2 b hb
/-- A list, some places of which hold nothing any more. -/
def clrL {α : Type} [Inhabited α] (xs : List α) (o l : Nat) : List α := (List.range xs.length).map fun i => if o ≤ i ∧ i < o + l then default else xs.getD i default
@[simp] theorem clrL_length {α : Type} [Inhabited α] {xs : List α} {o l : Nat} : (clrL xs o l).length = xs.length := by simp [clrL]
/-- What touches no block of the caller's only reads. -/
theorem EffC.pure {P : Program} {f : FuncId} {args : List V} {res : V} {nb : List Nb} {M : List (Nat × Blk)} (h : EffC P f args [] res M) (hM : nbsOf nb = M := by rfl) (hflat : flatV res = true := by kernel_rfl) (hrows : ∀ b ∈ nb, ∀ i, i < b.n → ∀ d ∈ b.row i, atomD d = true := by simp [atomD])
    (hdist : nb.Pairwise fun x y => x.id ≠ y.id := by simp) (hids : ∀ id, res.mentions id = true → ∃ b ∈ nb, b.id = id := by exact ids_of rfl) : PureC P f args res nb := by
  subst hM
  have no : ∀ ρ0 b, own ([] : List (Nat × Blk)) ρ0 b → False := fun ρ0 b ⟨_, _, h, _⟩ => by simp [look] at h
  refine ⟨h.can, hflat, hrows, hdist, hids, fun w vals ρ0 hv ht => ?_⟩
  refine Calls.mono (h.out (fun _ => False) w vals ρ0 ⟨hv.1, fun j v hj => (hv.2 j v hj).mono fun b hb => hb.elim (no ρ0 b) fun x => x⟩ (fun i b hb => by simp [look] at hb) (fun i j x y hx => by simp [look] at hx) (fun i x hx => by simp [look] at hx) (fun b hb => hb.elim) (ht.mono fun b hb => ⟨hb, fun ho => no ρ0 b ho⟩)) ?_
  rintro e w' ⟨v, ρ, rfl, g1, g2, g3, g4, g5, g6⟩
  refine ⟨v, ρ, rfl, ⟨g1.os, g1.tape, g1.output, g1.size, fun k hk => g1.block k ⟨hk, no ρ0 k⟩⟩, g3.flat hflat, fun b hb => ?_, fun x hx y hy p q e => ?_, fun x hx p => ?_⟩
  · have := BR.shiftFlat (k := 0) (ρ' := ρ) (w' := w') (ow' := fun b => b < w.heap.size) (g4 b.id _ (look_nbs_mem hdist b hb)) (hrows b hb) rfl rfl
    exact this
  · exact g5 x.id y.id _ _ (look_nbs_mem hdist x hx) (look_nbs_mem hdist y hy) p q e
  · exact (g6 x.id _ (look_nbs_mem hdist x hx) p).elim (fun h => h) fun h => (no ρ0 _ h).elim

def fnOk (P : Program) (f : FuncId) : Bool := match P.funcs[f]? with
  | some fn => !(fn.name == "runtime.NumGoroutine") && !fn.body.isNone
  | none => false
theorem cG {S S' : St} {al l : List (Nat × Bool)} {f : FuncId} {args args' : List V} {res : V} {K : V → St → Prop} {key : Nat} {want : Bool} (h : condP S al l (PureC P f args' res [])) (hk : K res S') (hf : fnOk P f = true := by kernel_rfl)
    (hv : viewL (look S'.blks) args = some args' := by kernel_rfl) (hfl : flatV res = true := by kernel_rfl) (hm : res.plain = true := by kernel_rfl) : CallG P (condP S al l) (condN S' key want) f args S' K := by
  unfold fnOk at hf
  split at hf
  · rename_i fn e
    rw [Bool.and_eq_true, Bool.not_eq_true', Bool.not_eq_true'] at hf
    exact callG_m e hf.1 hf.2 hv hfl hm h hk
  · exact absurd hf (by decide)

/-! ### Parts of walks that come again and again -/
theorem andI {p q : Prop} {b : Bool} {α : Type} {x y : Option α} {r : α} (h : (if b = true then x else y) = some r) (hp : b = true → x = some r → p) (hq : b = false → y = some r → q) : (b = true → p) ∧ (b = false → q) :=
  ⟨fun e => hp e (ite_t h e), fun e => hq e (ite_f h e)⟩
theorem bldS {α : Type} {enc : α → List D} [Inhabited α] (ys : List α) {n : Nat} {rs : List (List D)} {K : Nat → (Nat → List D) → Prop} (k : K ys.length (rows enc ys)) (hn : ys.length = n := by kernel_rfl) (hr : rs = ys.map enc := by kernel_rfl) :
    ∃ c row, c = n ∧ (∀ i, i < c → row i = rowAt rs i) ∧ K c row := ⟨ys.length, rows enc ys, hn, by subst hr; exact build_rows, k⟩
theorem gdI {c : Prop} {α : Type} {m : Option α} {r : α} {p : Prop} (h : gd c m = some r) (k : m = some r → p) : c ∧ p := ⟨(gd_some h).1, k (gd_some h).2⟩

end Go.Ab
