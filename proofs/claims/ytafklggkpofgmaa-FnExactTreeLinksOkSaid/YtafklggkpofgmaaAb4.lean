/-
  Regions whose order Go leaves open: a part of the frame in which a given row's proof walks the program; no condition.
-/
import Derived.Test.YtafklggkpofgmaaAb3
namespace Go.Ab
open Go.RowKit

structure Rs where
  dst : Option Nat
  g : Option (Nat × Bool)
  v : V
  nb : List (Nat × Blk)

def memN : List Nat → Nat → Bool
  | [], _ => false
  | x :: r, i => match Nat.beq x i with
    | true => true
    | false => memN r i

def Rs.shown (r : Rs) : V := match r.g with
  | none => r.v
  | some _ => .any

def tsOf (E : Nat → Bool) : Nat → List Rs → List (Nat × V)
  | _, [] => []
  | i, r :: rs => match E i, r.dst with
    | true, some t => (t, r.shown) :: tsOf E (i + 1) rs
    | _, _ => tsOf E (i + 1) rs
def gsOf (E : Nat → Bool) : Nat → List Rs → List Gd
  | _, [] => []
  | i, r :: rs => match E i, r.dst, r.g with
    | true, some t, some (key, want) => ⟨t, key, want, r.v⟩ :: gsOf E (i + 1) rs
    | _, _, _ => gsOf E (i + 1) rs
def bsOf (E : Nat → Bool) : Nat → List Rs → List (Nat × Blk)
  | _, [] => []
  | i, r :: rs => match E i with
    | true => r.nb ++ bsOf E (i + 1) rs
    | false => bsOf E (i + 1) rs

def maskT (dsts : List (Option Nat)) : List (Nat × V) → List (Nat × V)
  | [] => []
  | (t, v) :: r => match dsts.any fun d => match d with | some u => Nat.beq u t | none => false with
    | true => maskT dsts r
    | false => (t, v) :: maskT dsts r

def stOf (S0 : St) (R : List Rs) (E : Nat → Bool) : St := match S0 with
  | ⟨base, nt, ts, _, bs, fs⟩ => ⟨base, nt, tsOf E 0 R ++ ts, gsOf E 0 R, bsOf E 0 R ++ bs, fs⟩

def nth : List (List Nat) → Nat → List Nat
  | [], _ => []
  | a :: _, 0 => a
  | _ :: r, n + 1 => nth r n

def edgesOf : List Edge → List Nat
  | [] => []
  | e :: r => match Region.binds .any e with
    | true => e.on :: edgesOf r
    | false => edgesOf r

def ancIn (ancs : List (List Nat)) : List Nat → List Nat
  | [] => []
  | i :: r => i :: (nth ancs i ++ ancIn ancs r)
def ancOf (ancs : List (List Nat)) (o : Oper) : List Nat := ancIn ancs (edgesOf o.after.toList)

/-- Slot 't' is written in the region by forerunners alone. -/
def okT (anc : List Nat) (t : Nat) : Nat → List (Option Nat) → Bool
  | _, [] => true
  | i, d :: r => match (match d with | some u => Nat.beq u t | none => false), memN anc i with
    | true, false => false
    | _, _ => okT anc t (i + 1) r

def operandOk (dsts : List (Option Nat)) (anc : List Nat) : Operand → Bool
  | .tmp t => okT anc t 0 dsts
  | _ => true

def isN : Op → Bool
  | .alloc _ => true
  | .box .. => true
  | .makeSlice .. => true
  | .buildSlice .. => true
  | _ => false

/-- A new block, and what it holds. -/
def evN (tb : Tb) (ev : Operand → V) (base : Nat) (dst : Option Nat) (op : Op) (K : Nat → V → Blk → Prop) : Prop := match op with
  | .alloc t => (match tb.find t, dst with
    | some ti, some dst => St.idK base dst fun id => forceVL (ti.zero.map .d) fun cs => K id (.ref id 0 0) (.box t cs)
    | _, _ => Stuck "alloc")
  | .box t x => (match dst, (ev x).storable with
    | some dst, true => St.idK base dst fun id => forceVL (ev x).cells fun cs => K id (.ref id 0 0) (.box t cs)
    | _, _ => Stuck "box")
  | .makeSlice t l c => (match tb.find t, dst with
    | some ⟨.slice e, _, _, _, _⟩, some dst => (match tb.find e, ev l, ev c with
      | some ⟨_, sz, byt, z, _⟩, .d (.int .i64 n), .d (.int .i64 m) => St.idK base dst fun id =>
        (0 ≤ n ∧ n ≤ m ∧ m * byt ≤ 140737488355328 ∧ m ≤ 140737488355328) ∧ K id (.osl id 0 n.toNat) (.arr e sz n.toNat fun _ => z)
      | _, _, _ => Stuck "makeSlice")
    | _, _ => Stuck "makeSlice type")
  | .buildSlice t len parts => (match tb.find t, dst with
    | some ⟨.slice e, _, _, _, _⟩, some dst => (match tb.find e with
      | some ⟨_, sz, _, _, _⟩ => St.idK base dst fun id => (match rowsV sz 0 (parts.toList.map fun p => (p.1, ev p.2)), Nat.ble (len * sz) 1000000 with
        | some rs, true => (match Nat.beq rs.length len with
          | true => K id (.osl id 0 len) (.arr e sz len (rowAt rs))
          | false => Stuck "buildSlice parts left out")
        | _, _ => Stuck "buildSlice")
      | none => Stuck "buildSlice element type")
    | _, _ => Stuck "buildSlice type")
  | _ => Stuck "new"

/-- A call met in such a region: what the contract is to be. -/
structure CallD (P : Program) (sc : Prop → Prop) (g : FuncId) (blk : Nat → Option Blk) (vs : List V) (res : V) (nb : List Nb) : Prop where
  can : Callable P g
  out : sc (∃ args', viewL blk vs = some args' ∧ PureC P g args' res nb)

def evD (P : Program) (tb : Tb) (cs : Nat → Option (Nat × V × List Nb)) (ops : List Oper) (j : Nat) (o : Oper) (S : St) (K : Option (Nat × Bool) → V → List (Nat × Blk) → Prop) : Prop := match o.guard with
  | none => (match o.op with
    | .call ⟨.value f, args, _⟩ => (match S.ev [] f, cs j with
      | .fn g cap, some (k, res, nb) => CallD P id g (look S.blks) (args.toList.map (S.ev []) ++ cap) res nb ∧ forceV (res.shift k) fun v => K none v (nb.map (Nb.ent k))
      | _, _ => Stuck "drawn region a call without a contract")
    | op => (match isN op with
      | true => evN tb (S.ev []) S.base o.dst op fun id v blk => K none v [(id, blk)]
      | false => evP tb S.ev (look S.blks) id op fun v => K none v []))
  | some (jg, want) => (match ops[jg]? with
    | some ⟨some key, _, _, _, _, _⟩ => (match o.op with
      | .call ⟨.value f, args, _⟩ => (match S.ev [(key, want)] f, cs j with
        | .fn g cap, some (_, res, []) => CallD P (condP S [(key, want)] [(key, want)]) g (look S.blks) (args.toList.map (S.ev [(key, want)]) ++ cap) res [] ∧ forceV res fun v => K (some (key, want)) v []
        | _, _ => Stuck "drawn region a guarded call without a contract")
      | op => evP tb (fun ex x => S.ev (ex ++ [(key, want)]) x) (look S.blks) (condP S [(key, want)] [(key, want)]) op fun v => K (some (key, want)) v [])
    | _ => Stuck "drawn region guard")

def snocK {α : Type} : List α → α → (List α → Prop) → Prop
  | [], x, K => K [x]
  | a :: r, x, K => snocK r x fun l => K (a :: l)

/-- The first stage: operations that only read, or make. -/
def evM (P : Program) (tb : Tb) (cs : Nat → Option (Nat × V × List Nb)) (ops : List Oper) (dsts : List (Option Nat)) (S0 : St) : List Oper → Nat → List (List Nat) → List Rs → (List (List Nat) → List Rs → Prop) → Prop
  | [], _, ancs, R, K => K ancs R
  | o :: rest, j, ancs, R, K => match o.op.operands.toList.all (operandOk dsts (ancOf ancs o)), (match o.guard with
      | none => true
      | some (jg, _) => (match ops[jg]? with
        | some ⟨some key, _, _, _, _, _⟩ => memN (ancOf ancs o) jg && okT (ancOf ancs o) key 0 dsts
        | _ => false)) with
    | true, true => evD P tb cs ops j o (stOf S0 R (memN (ancOf ancs o))) fun g v nb => snocK R ⟨o.dst, g, v, nb⟩ fun R' => evM P tb cs ops dsts S0 rest (j + 1) (ancs ++ [ancOf ancs o]) R' K
    | _, _ => Stuck "drawn region an operand that no forerunner gives"

variable {P : Program} {tb : Tb} {w : World} {ρ : Env} {a : Act} {B : Nat} {w0 : World} {F : List (Array Value)} {S : St}

theorem snocK_eq {α : Type} : ∀ (l : List α) (x : α) (K : List α → Prop), snocK l x K = K (l ++ [x])
  | [], x, K => rfl
  | a :: r, x, K => by simp only [snocK]; rw [snocK_eq r x]; rfl

theorem memN_iff : ∀ {l : List Nat} {i : Nat}, memN l i = true ↔ i ∈ l
  | [], i => by simp [memN]
  | x :: r, i => by
    simp only [memN]
    split
    · rename_i h; simp [Nat.eq_of_beq_eq_true h]
    · rename_i h
      have : x ≠ i := fun e => by subst e; simp at h
      rw [memN_iff (l := r)]; simp [Ne.symm this]

theorem look_append {α : Type} : ∀ (l r : List (Nat × α)) (t : Nat), look (l ++ r) t = (look l t).or (look r t)
  | [], r, t => rfl
  | (u, v) :: l, r, t => by
    simp only [List.cons_append, look]
    split
    · rfl
    · exact look_append l r t

/-! ### Entries -/
theorem tsOf_out {E : Nat → Bool} : ∀ {R : List Rs} {i0 t : Nat} {v : V}, look (tsOf E i0 R) t = some v → ∃ j r, R[j]? = some r ∧ E (i0 + j) = true ∧ r.dst = some t ∧ v = r.shown
  | r :: R, i0, t, v, h => by
    simp only [tsOf] at h
    have rec_ : look (tsOf E (i0 + 1) R) t = some v → ∃ j q, (r :: R)[j]? = some q ∧ E (i0 + j) = true ∧ q.dst = some t ∧ v = q.shown := fun h => by
      obtain ⟨j, q, h1, h2, h3, h4⟩ := tsOf_out h
      exact ⟨j + 1, q, by simpa using h1, by rw [show i0 + (j + 1) = i0 + 1 + j by omega]; exact h2, h3, h4⟩
    split at h
    · rename_i u hE hd
      rcases look_cons h with ⟨rfl, rfl⟩ | ⟨_, h⟩
      · exact ⟨0, r, rfl, by simpa using hE, hd, rfl⟩
      · exact rec_ h
    · exact rec_ h
  | [], _, _, _, h => by simp [tsOf, look] at h

theorem tsOf_in {E : Nat → Bool} : ∀ {R : List Rs} {i0 j t : Nat} {r : Rs}, R.Pairwise (fun x y => ∀ t, x.dst = some t → y.dst ≠ some t) → R[j]? = some r → E (i0 + j) = true → r.dst = some t → look (tsOf E i0 R) t = some r.shown
  | q :: R, i0, 0, t, r, hp, hj, hE, hd => by
    simp at hj; subst hj
    have hE' : E i0 = true := by simpa using hE
    simp only [tsOf, hE', hd]
    exact look_same
  | q :: R, i0, j + 1, t, r, hp, hj, hE, hd => by
    have hp' := List.pairwise_cons.1 hp
    have hj' : R[j]? = some r := by simpa using hj
    have ih := tsOf_in (E := E) (i0 := i0 + 1) hp'.2 hj' (by rw [show i0 + 1 + j = i0 + (j + 1) by omega]; exact hE) hd
    simp only [tsOf]
    split
    · rename_i u _ hq
      have : u ≠ t := fun e => by subst e; exact hp'.1 r (List.mem_of_getElem? hj') u hq hd
      rw [look_other this]; exact ih
    · exact ih
  | [], _, _, _, _, _, hj, _, _ => by simp at hj

theorem gsOf_mem {E : Nat → Bool} : ∀ {R : List Rs} {i0 : Nat} {g : Gd}, g ∈ gsOf E i0 R ↔ ∃ j r, R[j]? = some r ∧ E (i0 + j) = true ∧ r.dst = some g.t ∧ r.g = some (g.key, g.want) ∧ g.v = r.v
  | [], i0, g => by simp [gsOf]
  | r :: R, i0, g => by
    have ih := gsOf_mem (E := E) (R := R) (i0 := i0 + 1) (g := g)
    have step : (∃ j q, (r :: R)[j]? = some q ∧ E (i0 + j) = true ∧ q.dst = some g.t ∧ q.g = some (g.key, g.want) ∧ g.v = q.v) ↔
        (E i0 = true ∧ r.dst = some g.t ∧ r.g = some (g.key, g.want) ∧ g.v = r.v) ∨ g ∈ gsOf E (i0 + 1) R := by
      rw [ih]
      constructor
      · rintro ⟨j, q, h1, h2⟩
        cases j with
        | zero => simp at h1; subst h1; exact .inl (by simpa using h2)
        | succ j => exact .inr ⟨j, q, by simpa using h1, by rw [show i0 + 1 + j = i0 + (j + 1) by omega]; exact h2⟩
      · rintro (h | ⟨j, q, h1, h2⟩)
        · exact ⟨0, r, rfl, by simpa using h⟩
        · exact ⟨j + 1, q, by simpa using h1, by rw [show i0 + (j + 1) = i0 + 1 + j by omega]; exact h2⟩
    rw [step]
    simp only [gsOf]
    split
    · rename_i t key want hE hd hg
      rw [List.mem_cons]
      refine or_congr ⟨fun h => ?_, fun h => ?_⟩ Iff.rfl
      · subst h; exact ⟨hE, hd, hg, rfl⟩
      · obtain ⟨_, h2, h3, h4⟩ := h
        rw [hd] at h2; rw [hg] at h3
        cases h2; cases h3
        cases g; simp at h4; subst h4; rfl
    · rename_i hno
      constructor
      · intro h; exact .inr h
      · rintro (⟨h1, h2, h3, _⟩ | h)
        · exact absurd h3 (fun h3 => hno _ _ _ h1 h2 h3)
        · exact h

theorem lookG_out {gs : List Gd} {t : Nat} {g : Gd} (h : lookG gs t = some g) : g ∈ gs ∧ g.t = t := lookG_mem h
theorem lookG_none : ∀ {gs : List Gd} {t : Nat}, lookG gs t = none → ∀ g ∈ gs, g.t ≠ t
  | x :: r, t, h, g, hg => by
    simp only [lookG] at h
    split at h
    · cases h
    · rename_i hb
      rcases List.mem_cons.1 hg with hg | hg
      · subst hg; exact fun e => by rw [e] at hb; simp at hb
      · exact lookG_none h g hg
  | [], _, _, _, hg => by simp at hg

theorem bsOf_mem {E : Nat → Bool} : ∀ {R : List Rs} {i0 : Nat} {p : Nat × Blk}, p ∈ bsOf E i0 R ↔ ∃ j r, R[j]? = some r ∧ E (i0 + j) = true ∧ p ∈ r.nb
  | [], i0, p => by simp [bsOf]
  | r :: R, i0, p => by
    have ih := bsOf_mem (E := E) (R := R) (i0 := i0 + 1) (p := p)
    have step : (∃ j q, (r :: R)[j]? = some q ∧ E (i0 + j) = true ∧ p ∈ q.nb) ↔ (E i0 = true ∧ p ∈ r.nb) ∨ p ∈ bsOf E (i0 + 1) R := by
      rw [ih]
      constructor
      · rintro ⟨j, q, h1, h2⟩
        cases j with
        | zero => simp at h1; subst h1; exact .inl (by simpa using h2)
        | succ j => exact .inr ⟨j, q, by simpa using h1, by rw [show i0 + 1 + j = i0 + (j + 1) by omega]; exact h2⟩
      · rintro (h | ⟨j, q, h1, h2⟩)
        · exact ⟨0, r, rfl, by simpa using h⟩
        · exact ⟨j + 1, q, by simpa using h1, by rw [show i0 + (j + 1) = i0 + 1 + j by omega]; exact h2⟩
    rw [step]
    simp only [bsOf]
    split
    · rename_i hE; simp [hE]
    · rename_i hE; simp [hE]

theorem look_mem {α : Type} : ∀ {l : List (Nat × α)} {t : Nat} {v : α}, look l t = some v → (t, v) ∈ l
  | (u, x) :: r, t, v, h => by
    rcases look_cons h with ⟨rfl, rfl⟩ | ⟨_, h⟩
    · simp
    · exact List.mem_cons_of_mem _ (look_mem h)
  | [], _, _, h => by simp [look] at h
theorem look_of_mem {α : Type} : ∀ {l : List (Nat × α)} {t : Nat} {v : α}, l.Pairwise (fun x y => x.1 ≠ y.1) → (t, v) ∈ l → look l t = some v
  | (u, x) :: r, t, v, hp, h => by
    have hp' := List.pairwise_cons.1 hp
    rcases List.mem_cons.1 h with h | h
    · cases h; exact look_same
    · rw [look_other (hp'.1 (t, v) h)]; exact look_of_mem hp'.2 h
  | [], _, _, _, h => by simp at h

theorem Sim.congr {base base' nt : Nat} {ts ts' : List (Nat × V)} {gs gs' : List Gd} {bs bs' : List (Nat × Blk)} {fs : List Fr} (h : Sim B w0 F ρ ⟨base, nt, ts, gs, bs, fs⟩ a w)
    (ht : ∀ t v, look ts' t = some v → look ts t = some v) (hg : ∀ g ∈ gs', g ∈ gs) (hb : ∀ id b, look bs' id = some b ↔ look bs id = some b) : Sim B w0 F ρ ⟨base', nt, ts', gs', bs', fs⟩ a w := by
  have hown : own bs' ρ = own bs ρ := by
    funext b
    simp only [own]
    exact propext ⟨fun ⟨i, k, h1, h2⟩ => ⟨i, k, (hb i k).1 h1, h2⟩, fun ⟨i, k, h1, h2⟩ => ⟨i, k, (hb i k).2 h1, h2⟩⟩
  refine ⟨h.below, h.hB, h.defers, h.nt, ?_, ?_, fun i j x y hx hy => h.sep i j x y ((hb _ _).1 hx) ((hb _ _).1 hy), fun i x hx => h.ge i x ((hb _ _).1 hx), ?_⟩
  · dsimp only; rw [hown]; exact ⟨fun t v hv => h.top.tmps t v (ht t v hv), fun g hgm => h.top.gds g (hg g hgm)⟩
  · intro id b hbk; dsimp only; rw [hown]; exact h.blks id b ((hb _ _).1 hbk)
  · refine ⟨h.frames.1, fun i f tm hf htm => ?_⟩
    dsimp only; rw [hown]; exact h.frames.2 i f tm hf htm

end Go.Ab
namespace Go.Ab
open Go.RowKit
variable {P : Program} {tb : Tb} {ev ev' : List (Nat × Bool) → Operand → V} {blk blk' : Nat → Option Blk} {sc : Prop → Prop} {K : V → Prop}

theorem evLoad_local {ti : TI} {p : V} (hb : ∀ id b, blk id = some b → blk' id = some b) (h : evLoad ti blk p K) : evLoad ti blk' p K := by
  unfold evLoad at h ⊢
  split at h
  · rename_i id row off
    split at h
    · rename_i t cs hbk
      simp only [hb _ _ hbk]; exact h
    · rename_i t sz n rw' hbk
      simp only [hb _ _ hbk]; exact h
    · exact h.no.elim
  · exact h
  · exact h.no.elim

theorem evLoad_one {ti : TI} {p : V} (h : evLoad ti blk p K) : ∃ v, K v ∧ evLoad ti blk p (fun u => u = v) := by
  unfold evLoad at h ⊢
  split at h
  · rename_i id row off
    split at h
    · split at h
      · rw [forceV_eq] at h; exact ⟨_, h, by simp [forceV_eq]⟩
      · exact h.no.elim
    · split at h
      · rw [forceV_eq] at h; exact ⟨_, h, by simp [forceV_eq]⟩
      · exact h.no.elim
    · exact h.no.elim
  · split at h
    · rw [forceV_eq] at h; exact ⟨_, h, by simp [forceV_eq]⟩
    · exact h.no.elim
  · exact h.no.elim

theorem evInt_one {op k x y} (h : evInt sc op k x y K) : ∃ v, K v ∧ evInt sc op k x y (fun u => u = v) := by
  cases op <;> simp only [evInt] at h ⊢ <;> first | exact h.no.elim | exact ⟨_, h.2, h.1, rfl⟩ | exact ⟨_, h, rfl⟩

theorem evP_local {op : Op} (hx : ∀ x ∈ op.operands.toList, ∀ al, ev al x = ev' al x) (hb : ∀ id b, blk id = some b → blk' id = some b) (h : evP tb ev blk sc op K) : evP tb ev' blk' sc op K := by
  cases op <;> simp only [Op.operands] at hx <;> simp only [evP] at h ⊢ <;> first | exact h.no.elim | skip
  case move x => rw [← hx x (by simp)]; exact h
  case assign x => rw [← hx x (by simp)]; exact h
  case pick c x y =>
    rw [← hx c (by simp)]
    split at h
    · rename_i p hp
      split at h
      · rename_i tc
        rw [← hx x (by simp)]; exact h
      · rename_i tc hno
        rw [hx y (by simp)] at h
        exact h
      · exact h.no.elim
    · exact h.no.elim
  case build t parts =>
    have e : (parts.toList.map fun p => (p.1, ev [] p.2)) = (parts.toList.map fun p => (p.1, ev' [] p.2)) := List.map_congr_left fun p hp => by
      rw [hx p.2 (by simpa using ⟨p.1, by simpa using hp⟩)]
    rw [← e]; exact h
  case buildSlice t len parts =>
    have e : (parts.toList.map fun p => (p.1, ev [] p.2)) = (parts.toList.map fun p => (p.1, ev' [] p.2)) := List.map_congr_left fun p hp => by
      rw [hx p.2 (by simpa using ⟨p.1, by simpa using hp⟩)]
    rw [← e]; exact h
  case load t x =>
    rw [← hx x (by simp)]
    split at h
    · exact evLoad_local hb h
    · exact h.no.elim
  case nilCheck x => rw [← hx x (by simp)]; exact h
  case binOp op t x y ty => rw [← hx x (by simp), ← hx y (by simp)]; exact h
  case unOp op t x => rw [← hx x (by simp)]; exact h
  case convert s t x => rw [← hx x (by simp)]; exact h
  case makeFunc f first captured =>
    have e : captured.toList.map (ev []) = captured.toList.map (ev' []) := List.map_congr_left fun p hp => by
      rw [hx p (by simp; exact .inr (by simpa using hp))]
    rw [← e]; exact h
  case fieldAddr s x f => rw [← hx x (by simp)]; exact h
  case field s x f => rw [← hx x (by simp)]; exact h
  case indexAddr t x i =>
    rw [← hx x (by simp), ← hx i (by simp)]
    split at h
    · split at h
      · split at h
        · rename_i hbk
          simp only [hb _ _ hbk]; exact h
        · exact h.no.elim
      · exact h
      · exact h.no.elim
    · exact h.no.elim
  case extract x i => rw [← hx x (by simp)]; exact h
  case call c =>
    split at h
    · rename_i hcal
      split at h
      · rename_i x t hargs htys
        rw [← hx x (by simp [Call.operands, hcal, hargs])]
        exact h
      · exact h.no.elim
    · exact h.no.elim

theorem evP_one {op : Op} (h : evP tb ev blk sc op K) : ∃ v, K v ∧ evP tb ev blk sc op (fun u => u = v) := by
  cases op <;> simp only [evP, forceV_eq, forceVL_eq, forceDL_eq] at h ⊢ <;> first | exact h.no.elim | skip
  case load t x =>
    split at h
    · exact evLoad_one h
    · exact h.no.elim
  case binOp op t x y ty =>
    split at h
    · split at h
      · exact evInt_one h
      · exact h.no.elim
    all_goals (repeat' split at h)
    all_goals first
      | exact h.no.elim
      | exact ⟨_, h, by simp_all⟩
  all_goals (repeat' split at h)
  all_goals first
    | exact h.no.elim
    | exact h.2.no.elim
    | exact ⟨_, h, by simp_all⟩
    | exact ⟨_, h.2, by simp_all⟩
    | exact ⟨_, h, rfl⟩

end Go.Ab
namespace Go.Ab
open Go.RowKit

def allI (f : Nat → Rs → Bool) : Nat → List Rs → Bool
  | _, [] => true
  | i, r :: rs => match f i r with
    | true => allI f (i + 1) rs
    | false => false

theorem allI_spec {f : Nat → Rs → Bool} : ∀ {R : List Rs} {i0 : Nat}, allI f i0 R = true → ∀ (j : Nat) (r : Rs), R[j]? = some r → f (i0 + j) r = true
  | q :: R, i0, h, j, r, hj => by
    simp only [allI] at h
    split at h
    · rename_i hf
      cases j with
      | zero => simp at hj; subst hj; simpa using hf
      | succ j => rw [show i0 + (j + 1) = i0 + 1 + j by omega]; exact allI_spec h j r (by simpa using hj)
    · cases h
  | [], _, _, _, _, hj => by simp at hj

def nodupN : List Nat → Bool
  | [] => true
  | x :: r => !memN r x && nodupN r
theorem nodupN_spec : ∀ {l : List Nat}, nodupN l = true → l.Pairwise (fun x y => x ≠ y)
  | [], _ => .nil
  | x :: r, h => by
    simp only [nodupN, Bool.and_eq_true, Bool.not_eq_true'] at h
    refine List.pairwise_cons.2 ⟨fun y hy e => ?_, nodupN_spec h.2⟩
    subst e
    rw [memN_iff.2 hy] at h; cases h.1

def dstNe : Option Nat → Option Nat → Bool
  | some a, some b => !Nat.beq a b
  | _, _ => true

def chkAll (S0 : St) (ancs : List (List Nat)) (R : List Rs) : Bool :=
  allI (fun i ri => allI (fun j rj => Nat.beq i j || dstNe ri.dst rj.dst) 0 R) 0 R &&
  (nodupN ((bsOf (fun _ => true) 0 R).map (·.1)) &&
  (allI (fun _ ri => ri.nb.all fun p => !S0.mentions p.1) 0 R &&
  (allI (fun i ri => allI (fun j rj => Nat.beq i j || (memN (nth ancs i) j || rj.nb.all fun p => !ri.v.mentions p.1 && ri.nb.all fun q => !q.2.mentions p.1)) 0 R) 0 R &&
  allI (fun _ ri => match ri.dst with | some t => Nat.blt t S0.nt && (match ri.g with | some (k, _) => !Nat.beq k t | none => true) | none => false) 0 R)))

def allLt (j : Nat) : List Nat → Bool
  | [] => true
  | i :: r => Nat.blt i j && allLt j r

def forced (m : Nat) : Nat → List Oper → Bool
  | _, [] => true
  | k, o :: r => (Nat.blt k m || (List.range k).all (memN (edgesOf o.after.toList))) && forced m (k + 1) r

def edgesLt : Nat → List Oper → Bool
  | _, [] => true
  | k, o :: r => allLt k (edgesOf o.after.toList) && edgesLt (k + 1) r

def stK (S : St) (K : St → Prop) : Prop := match S with
  | ⟨base, nt, ts, gs, bs, fs⟩ => forceT ts fun ts => forceG gs fun gs => forceB bs fun bs => K ⟨base, nt, ts, gs, bs, fs⟩

theorem stK_eq (S : St) (K : St → Prop) : stK S K = K S := by
  obtain ⟨base, nt, ts, gs, bs, fs⟩ := S
  simp [stK, forceT_eq, forceG_eq, forceB_eq]

def S0of (dsts : List (Option Nat)) (S : St) : St := match S with
  | ⟨base, nt, ts, _, bs, fs⟩ => ⟨base, nt, maskT dsts ts, [], bs, fs⟩

def evDraw (P : Program) (tb : Tb) (cs : Nat → Option (Nat × V × List Nb)) (m : Nat) (ops : List Oper) (S : St) (K : St → Prop) : Prop :=
  match forced m 0 ops && edgesLt 0 ops with
  | true => stK (S0of ((ops.take m).map (·.dst)) S) fun S0 => evM P tb cs ops ((ops.take m).map (·.dst)) S0 (ops.take m) 0 [] [] fun ancs R =>
      match chkAll S0 ancs R with
      | true => stK (stOf S0 R fun _ => true) fun S1 => evOps P tb ops (ops.drop m) S1 fun S => S.noGds K
      | false => Stuck "drawn region what is made is named too early"
  | false => Stuck "drawn region its end is not forced"

variable {P : Program} {tb : Tb} {w : World} {ρ : Env} {a : Act} {B : Nat} {w0 : World} {F : List (Array Value)} {S : St}

theorem evN_one {ev : Operand → V} {base : Nat} {dst : Option Nat} {op : Op} {K : Nat → V → Blk → Prop} (h : evN tb ev base dst op K) : ∃ i v b, K i v b ∧ evN tb ev base dst op (fun i' v' b' => i' = i ∧ v' = v ∧ b' = b) := by
  cases op <;> simp only [evN, forceVL_eq, St.idK_eq] at h ⊢ <;> first | exact h.no.elim | skip
  all_goals (repeat' split at h)
  all_goals first
    | exact h.no.elim
    | exact ⟨_, _, _, h, by simp_all⟩
    | exact ⟨_, _, _, h.2, h.1, by simp_all⟩

theorem evN_mono {ev : Operand → V} {base : Nat} {dst : Option Nat} {op : Op} {K K' : Nat → V → Blk → Prop} (h : evN tb ev base dst op K) (hk : ∀ i v b, K i v b → K' i v b) : evN tb ev base dst op K' := by
  obtain ⟨i, v, b, h1, h2⟩ := evN_one h
  have h3 := hk i v b h1
  clear h h1
  cases op <;> simp only [evN, forceVL_eq, St.idK_eq] at h2 ⊢ <;> first | exact h2.no.elim | skip
  all_goals (repeat' split at h2)
  all_goals first
    | exact h2.no.elim
    | (obtain ⟨rfl, rfl, rfl⟩ := h2; simp_all)
    | (obtain ⟨hc, rfl, rfl, rfl⟩ := h2; simp_all)

theorem evLoad_mono {ti : TI} {blk : Nat → Option Blk} {p : V} {K K' : V → Prop} (h : evLoad ti blk p K) (hk : ∀ v, K v → K' v) : evLoad ti blk p K' := by
  unfold evLoad at h ⊢
  repeat' split at h
  all_goals first | exact h.no.elim | (rw [forceV_eq] at h; simp_all [forceV_eq])

theorem evInt_mono {sc : Prop → Prop} {op k x y} {K K' : V → Prop} (h : evInt sc op k x y K) (hk : ∀ v, K v → K' v) : evInt sc op k x y K' := by
  cases op <;> simp only [evInt] at h ⊢ <;> first | exact h.no.elim | exact ⟨h.1, hk _ h.2⟩ | exact hk _ h

theorem evP_mono {ev : List (Nat × Bool) → Operand → V} {blk : Nat → Option Blk} {sc : Prop → Prop} {op : Op} {K K' : V → Prop} (h : evP tb ev blk sc op K) (hk : ∀ v, K v → K' v) : evP tb ev blk sc op K' := by
  cases op <;> simp only [evP, forceV_eq, forceVL_eq, forceDL_eq] at h ⊢ <;> first | exact h.no.elim | skip
  case load t x =>
    split at h
    · exact evLoad_mono h hk
    · exact h.no.elim
  case binOp op t x y ty =>
    split at h
    · split at h
      · exact evInt_mono h hk
      · exact h.no.elim
    all_goals (repeat' split at h)
    all_goals first
      | exact h.no.elim
      | (have := hk _ h; simp_all)
  all_goals (repeat' split at h)
  all_goals first
    | exact h.no.elim
    | exact h.2.no.elim
    | exact hk _ h
    | (have := hk _ h; simp_all)
    | (have := hk _ h.2; simp_all)

theorem evN_local {ev ev' : Operand → V} {base : Nat} {dst : Option Nat} {op : Op} {K : Nat → V → Blk → Prop} (hx : ∀ x ∈ op.operands.toList, ev x = ev' x) (h : evN tb ev base dst op K) : evN tb ev' base dst op K := by
  cases op <;> simp only [Op.operands] at hx <;> simp only [evN] at h ⊢ <;> first | exact h.no.elim | skip
  case alloc t => exact h
  case box t x => rw [← hx x (by simp)]; exact h
  case makeSlice t l c => rw [← hx l (by simp), ← hx c (by simp)]; exact h
  case buildSlice t len parts =>
    have e : (parts.toList.map fun p => (p.1, ev p.2)) = (parts.toList.map fun p => (p.1, ev' p.2)) := List.map_congr_left fun p hp => by
      rw [hx p.2 (by simpa using ⟨p.1, by simpa using hp⟩)]
    rw [← e]; exact h

theorem evN_evE {dst : Option Nat} {op : Op} {K : Nat → V → Blk → Prop} (hm : ∀ t, dst = some t → S.mentions (St.idOf S.base t) = false) (h : evN tb (S.ev []) S.base dst op K) :
    evE tb dst op S (fun v S' => ∃ i b, K i v b ∧ S' = ⟨S.base, S.nt, S.tmps, S.gds, (i, b) :: S.blks, S.frames⟩) := by
  obtain ⟨base, nt, ts, gs, bs, fs⟩ := S
  cases op <;> simp only [evN, St.idK_eq, forceVL_eq] at h <;> first | exact h.no.elim | skip
  all_goals simp only [evE, St.idK_eq, forceVL_eq]
  all_goals dsimp only at hm
  case alloc t =>
    split at h
    · rename_i ti d hti
      simp only [hti, hm d rfl]
      exact ⟨_, _, h, rfl⟩
    · exact h.no.elim
  case box t x =>
    split at h
    · rename_i d hst
      simp only [hm d rfl, hst, Bool.not_true, Bool.or_self]
      exact ⟨_, _, h, rfl⟩
    · exact h.no.elim
  case makeSlice t l c =>
    split at h
    · rename_i e s1 s2 s3 s4 d hti
      split at h
      · rename_i h1 h2 h3
        simp only [hti, h1, h2, h3, hm d rfl]
        exact ⟨h.1, _, _, h.2, rfl⟩
      · exact h.no.elim
    · exact h.no.elim
  case buildSlice t len parts =>
    split at h
    · rename_i e s1 s2 s3 s4 d hti
      split at h
      · rename_i h1
        split at h
        · rename_i h2 h3
          split at h
          · rename_i h4
            simp only [hti, h1, h2, h3, h4, hm d rfl]
            exact ⟨_, _, h, rfl⟩
          · exact h.no.elim
        · exact h.no.elim
      · exact h.no.elim
    · exact h.no.elim

theorem evD_one {cs : Nat → Option (Nat × V × List Nb)} {ops : List Oper} {j : Nat} {o : Oper} {K : Option (Nat × Bool) → V → List (Nat × Blk) → Prop} (h : evD P tb cs ops j o S K) :
    ∃ g v nb, K g v nb ∧ evD P tb cs ops j o S (fun g' v' nb' => g' = g ∧ v' = v ∧ nb' = nb) := by
  have kP : ∀ {ev blk sc op} {K : V → Prop} {K' : V → V → Prop}, evP tb ev blk sc op K → (∀ v, K' v v) → ∃ v, K v ∧ evP tb ev blk sc op (K' v) := by
    intro ev blk sc op K K' h hr
    obtain ⟨v, h1, h2⟩ := evP_one h
    exact ⟨v, h1, evP_mono h2 fun u hu => by subst hu; exact hr _⟩
  obtain ⟨dst, op, ty, pos, after, guard⟩ := o
  cases guard with
  | none =>
    cases op <;> simp only [evD, isN] at h ⊢
    case call c =>
      obtain ⟨callee, args, tys⟩ := c
      cases callee <;> try simp only at h ⊢
      case value f =>
        split at h
        · rename_i h1 h2
          rw [forceV_eq] at h
          exact ⟨_, _, _, h.2, h.1, by simp [forceV_eq]⟩
        · exact h.no.elim
      all_goals (obtain ⟨v, h1, h2⟩ := kP (K' := fun v u => none = none ∧ u = v ∧ [] = []) h (fun v => ⟨rfl, rfl, rfl⟩); exact ⟨_, _, _, h1, h2⟩)
    all_goals first
      | (obtain ⟨i, v, b, h1, h2⟩ := evN_one h
         exact ⟨_, _, _, h1, evN_mono h2 fun i' v' b' ⟨e1, e2, e3⟩ => by subst e1 e2 e3; exact ⟨rfl, rfl, rfl⟩⟩)
      | (obtain ⟨v, h1, h2⟩ := kP (K' := fun v u => (none : Option (Nat × Bool)) = none ∧ u = v ∧ ([] : List (Nat × Blk)) = []) h (fun v => ⟨rfl, rfl, rfl⟩)
         exact ⟨_, _, _, h1, h2⟩)
  | some gd =>
    obtain ⟨jg, want⟩ := gd
    simp only [evD] at h ⊢
    split at h
    · rename_i key _ _ _ _ _ hjg
      cases op <;> try simp only at h ⊢
      case call c =>
        obtain ⟨callee, args, tys⟩ := c
        cases callee <;> try simp only at h ⊢
        case value f =>
          split at h
          · rename_i h1 h2
            rw [forceV_eq] at h
            exact ⟨_, _, _, h.2, h.1, by simp [forceV_eq]⟩
          · exact h.no.elim
        all_goals (obtain ⟨v, h1, h2⟩ := kP (K' := fun v u => some (key, want) = some (key, want) ∧ u = v ∧ ([] : List (Nat × Blk)) = []) h (fun v => ⟨rfl, rfl, rfl⟩); exact ⟨_, _, _, h1, h2⟩)
      all_goals (obtain ⟨v, h1, h2⟩ := kP (K' := fun v u => some (key, want) = some (key, want) ∧ u = v ∧ ([] : List (Nat × Blk)) = []) h (fun v => ⟨rfl, rfl, rfl⟩); exact ⟨_, _, _, h1, h2⟩)
    · exact h.no.elim

end Go.Ab
namespace Go.Ab
open Go.RowKit
variable {P : Program} {tb : Tb} {w : World} {ρ : Env} {a : Act} {B : Nat} {w0 : World} {F : List (Array Value)} {S : St}

theorem nth_eq : ∀ (A : List (List Nat)) (j : Nat), nth A j = (A[j]?).getD []
  | [], j => by simp [nth]
  | a :: r, 0 => by simp [nth]
  | a :: r, j + 1 => by simpa [nth] using nth_eq r j

theorem nth_take {A : List (List Nat)} {j i : Nat} (h : i < j) : nth (A.take j) i = nth A i := by
  rw [nth_eq, nth_eq, List.getElem?_take, if_pos h]

theorem mem_ancIn {A : List (List Nat)} {i : Nat} : ∀ {es : List Nat}, i ∈ ancIn A es ↔ ∃ e ∈ es, i = e ∨ i ∈ nth A e
  | [] => by simp [ancIn]
  | e :: r => by
    have ih := mem_ancIn (A := A) (i := i) (es := r)
    simp only [ancIn, List.mem_cons, List.mem_append, ih]
    constructor
    · rintro (h | h | ⟨e', h1, h2⟩)
      · exact ⟨e, .inl rfl, .inl h⟩
      · exact ⟨e, .inl rfl, .inr h⟩
      · exact ⟨e', .inr h1, h2⟩
    · rintro ⟨e', h1 | h1, h2⟩
      · subst h1; rcases h2 with h2 | h2
        · exact .inl h2
        · exact .inr (.inl h2)
      · exact .inr (.inr ⟨e', h1, h2⟩)

theorem allLt_spec {j : Nat} : ∀ {l : List Nat}, allLt j l = true → ∀ i ∈ l, i < j
  | x :: r, h, i, hi => by
    simp only [allLt, Bool.and_eq_true] at h
    rcases List.mem_cons.1 hi with hi | hi
    · subst hi; simpa [Nat.blt_eq] using h.1
    · exact allLt_spec h.2 i hi
  | [], _, _, hi => by simp at hi

theorem edgesLt_spec : ∀ {os : List Oper} {k : Nat}, edgesLt k os = true → ∀ (i : Nat) (o : Oper), os[i]? = some o → ∀ e ∈ edgesOf o.after.toList, e < k + i
  | q :: os, k, h, i, o, hi, e, he => by
    simp only [edgesLt, Bool.and_eq_true] at h
    cases i with
    | zero => simp at hi; subst hi; simpa using allLt_spec h.1 e he
    | succ i =>
      have := edgesLt_spec h.2 i o (by simpa using hi) e he
      omega
  | [], _, _, _, _, hi, _, _ => by simp at hi

theorem mem_edgesOf : ∀ {es : List Edge} {i : Nat}, i ∈ edgesOf es ↔ ∃ e ∈ es, Region.binds .any e = true ∧ e.on = i
  | [], i => by simp [edgesOf]
  | e :: r, i => by
    have ih := mem_edgesOf (es := r) (i := i)
    simp only [edgesOf]
    split
    · rename_i hb
      simp only [List.mem_cons, ih]
      constructor
      · rintro (h | ⟨e', h1, h2⟩)
        · exact ⟨e, .inl rfl, hb, h.symm⟩
        · exact ⟨e', .inr h1, h2⟩
      · rintro ⟨e', h1 | h1, h2⟩
        · subst h1; exact .inl h2.2.symm
        · exact .inr ⟨e', h1, h2⟩
    · rename_i hb
      simp only [List.mem_cons, ih]
      constructor
      · rintro ⟨e', h1, h2⟩; exact ⟨e', .inr h1, h2⟩
      · rintro ⟨e', h1 | h1, h2⟩
        · subst h1; rw [hb] at h2; cases h2.1
        · exact ⟨e', h1, h2⟩

theorem forced_spec {m : Nat} : ∀ {os : List Oper} {k : Nat}, forced m k os = true → ∀ (i : Nat) (o : Oper), os[i]? = some o → m ≤ k + i → ∀ e, e < k + i → e ∈ edgesOf o.after.toList
  | q :: os, k, h, i, o, hi, hm, e, he => by
    simp only [forced, Bool.and_eq_true, Bool.or_eq_true] at h
    cases i with
    | zero =>
      simp at hi; subst hi
      rcases h.1 with h1 | h1
      · have : k < m := by simpa [Nat.blt_eq] using h1
        omega
      · exact memN_iff.1 (List.all_eq_true.1 h1 e (by simpa using he))
    | succ i => exact forced_spec h.2 i o (by simpa using hi) (by omega) e (by omega)
  | [], _, _, _, _, hi, _, _, _ => by simp at hi

/-- What the walk leaves of operation j. -/
def Fact (P : Program) (tb : Tb) (cs : Nat → Option (Nat × V × List Nb)) (ops : List Oper) (dsts : List (Option Nat)) (S0 : St) (A : List (List Nat)) (R : List Rs) (j : Nat) (o : Oper) : Prop :=
  ∃ r, R[j]? = some r ∧ nth A j = ancOf (A.take j) o ∧ r.dst = o.dst ∧ (∀ x ∈ o.op.operands.toList, operandOk dsts (nth A j) x = true) ∧
    (∀ jg want, o.guard = some (jg, want) → ∃ oj key, ops[jg]? = some oj ∧ oj.dst = some key ∧ jg ∈ nth A j ∧ okT (nth A j) key 0 dsts = true) ∧
    evD P tb cs ops j o (stOf S0 (R.take j) (memN (nth A j))) (fun g v nb => g = r.g ∧ v = r.v ∧ nb = r.nb)

theorem evM_facts {cs : Nat → Option (Nat × V × List Nb)} {ops : List Oper} {dsts : List (Option Nat)} {S0 : St} : ∀ (rest : List Oper) (j : Nat) (A : List (List Nat)) (R : List Rs) (K : List (List Nat) → List Rs → Prop), A.length = j → R.length = j →
    evM P tb cs ops dsts S0 rest j A R K → ∃ A' R', A'.length = j + rest.length ∧ R'.length = j + rest.length ∧ A'.take j = A ∧ R'.take j = R ∧ K A' R' ∧ ∀ (i : Nat) (o : Oper), rest[i]? = some o → Fact P tb cs ops dsts S0 A' R' (j + i) o
  | [], j, A, R, K, hA, hR, h => ⟨A, R, by simpa using hA, by simpa using hR, by rw [← hA]; simp, by rw [← hR]; simp, h, fun i o hi => by simp at hi⟩
  | o :: rest, j, A, R, K, hA, hR, h => by
    simp only [evM] at h
    split at h
    case h_2 => exact h.no.elim
    rename_i h1 h2
    obtain ⟨g, v, nb, h3, h4⟩ := evD_one h
    rw [snocK_eq] at h3
    obtain ⟨A', R', e1, e2, e3, e4, e5, e6⟩ := evM_facts rest (j + 1) (A ++ [ancOf A o]) (R ++ [⟨o.dst, g, v, nb⟩]) K (by simp [hA]) (by simp [hR]) h3
    have hAj : A'.take j = A := by
      have : (A'.take (j + 1)).take j = A := by rw [e3, ← hA]; simp
      rwa [List.take_take, Nat.min_eq_left (by omega)] at this
    have hRj : R'.take j = R := by
      have : (R'.take (j + 1)).take j = R := by rw [e4, ← hR]; simp
      rwa [List.take_take, Nat.min_eq_left (by omega)] at this
    have hAn : nth A' j = ancOf A o := by
      rw [← nth_take (A := A') (j := j + 1) (by omega), e3, nth_eq, ← hA]; simp
    have hRn : R'[j]? = some ⟨o.dst, g, v, nb⟩ := by
      have : (R'.take (j + 1))[j]? = some ⟨o.dst, g, v, nb⟩ := by rw [e4, ← hR]; simp
      rwa [List.getElem?_take, if_pos (by omega)] at this
    refine ⟨A', R', by rw [e1]; simp; omega, by rw [e2]; simp; omega, hAj, hRj, e5, fun i o' hi => ?_⟩
    cases i with
    | succ i => rw [show j + (i + 1) = j + 1 + i by omega]; exact e6 i o' (by simpa using hi)
    | zero =>
      simp at hi; subst hi
      refine ⟨⟨o.dst, g, v, nb⟩, hRn, by rw [Nat.add_zero, hAj]; exact hAn, rfl, fun x hx => ?_, fun jg want hg => ?_, ?_⟩
      · rw [Nat.add_zero, hAn]; exact List.all_eq_true.1 h1 x hx
      · rw [Nat.add_zero, hAn]
        rw [hg] at h2
        dsimp only at h2
        split at h2
        · rename_i key q1 q2 q3 q4 q5 hjg
          simp only [Bool.and_eq_true] at h2
          exact ⟨_, key, hjg, rfl, memN_iff.1 h2.1, h2.2⟩
        · cases h2
      · rw [Nat.add_zero, hAn, hRj]; exact h4

/-- All that the walk gives, and its checks. -/
structure Walked (P : Program) (tb : Tb) (cs : Nat → Option (Nat × V × List Nb)) (m : Nat) (ops : List Oper) (S0 : St) (A : List (List Nat)) (R : List Rs) : Prop where
  hm : R.length = m
  facts : ∀ (j : Nat) (o : Oper), j < m → ops[j]? = some o → Fact P tb cs ops ((ops.take m).map (·.dst)) S0 A R j o
  lt : ∀ (j : Nat) (o : Oper), ops[j]? = some o → ∀ e ∈ edgesOf o.after.toList, e < j
  dsts : R.map (·.dst) = (ops.take m).map (·.dst)
  ne : ∀ (i j : Nat) (ri rj : Rs), R[i]? = some ri → R[j]? = some rj → i ≠ j → ∀ t, ri.dst = some t → rj.dst ≠ some t
  ids : (bsOf (fun _ => true) 0 R).Pairwise fun x y => x.1 ≠ y.1
  new : ∀ (i : Nat) (ri : Rs), R[i]? = some ri → ∀ p ∈ ri.nb, S0.mentions p.1 = false
  ment : ∀ (i j : Nat) (ri rj : Rs), R[i]? = some ri → R[j]? = some rj → i ≠ j → j ∉ nth A i → ∀ p ∈ rj.nb, ri.v.mentions p.1 = false ∧ ∀ q ∈ ri.nb, q.2.mentions p.1 = false
  slots : ∀ (i : Nat) (ri : Rs), R[i]? = some ri → ∃ t, ri.dst = some t ∧ t < S0.nt ∧ ∀ k b, ri.g = some (k, b) → k ≠ t
  mask : ∀ (i : Nat) (ri : Rs) (t : Nat), R[i]? = some ri → ri.dst = some t → look S0.tmps t = none
  len : m ≤ ops.length

theorem maskT_none {ds : List (Option Nat)} {t : Nat} (ht : some t ∈ ds) : ∀ (ts : List (Nat × V)), look (maskT ds ts) t = none
  | [] => rfl
  | (u, v) :: r => by
    simp only [maskT]
    split
    · exact maskT_none ht r
    · rename_i hf
      rw [look_other fun e => ?_]
      · exact maskT_none ht r
      · subst e
        rw [List.any_eq_false] at hf
        have := hf _ ht
        simp at this

theorem walked_of {cs : Nat → Option (Nat × V × List Nb)} {m : Nat} {ops : List Oper} {S : St} {A : List (List Nat)} {R : List Rs} (hlen : R.length = (ops.take m).length) (hml : m ≤ ops.length)
    (hf : ∀ (i : Nat) (o : Oper), (ops.take m)[i]? = some o → Fact P tb cs ops ((ops.take m).map (·.dst)) (S0of ((ops.take m).map (·.dst)) S) A R (0 + i) o) (he : edgesLt 0 ops = true) (hc : chkAll (S0of ((ops.take m).map (·.dst)) S) A R = true) :
    Walked P tb cs m ops (S0of ((ops.take m).map (·.dst)) S) A R := by
  simp only [chkAll, Bool.and_eq_true] at hc
  obtain ⟨c1, c2, c3, c4, c5⟩ := hc
  have hmlen : R.length = m := by rw [hlen]; simp; omega
  have hdst : R.map (·.dst) = (ops.take m).map (·.dst) := by
    apply List.ext_getElem?
    intro i
    simp only [List.getElem?_map]
    cases ho : (ops.take m)[i]? with
    | none =>
      have : R[i]? = none := by
        rw [List.getElem?_eq_none_iff] at ho ⊢; omega
      simp [this]
    | some o =>
      obtain ⟨r, h1, _, h3, _⟩ := hf i o ho
      rw [Nat.zero_add] at h1
      simp [h1, h3]
  refine ⟨hmlen, fun j o hj ho => ?_, fun j o ho e hee => ?_, hdst, fun i j ri rj hi hj hne t ht hjt => ?_, ?_, fun i ri hi p hp => ?_, fun i j ri rj hi hj hne hnot p hp => ?_, fun i ri hi => ?_, fun i ri t hi ht => ?_, hml⟩
  · have := hf j o (by rw [List.getElem?_take, if_pos hj]; exact ho)
    rwa [Nat.zero_add] at this
  · have := edgesLt_spec he j o ho e hee
    omega
  · have := allI_spec (allI_spec c1 i ri hi) j rj hj
    rw [Nat.zero_add, Nat.zero_add] at this
    simp only [Bool.or_eq_true] at this
    rcases this with h | h
    · exact hne (Nat.eq_of_beq_eq_true h)
    · rw [ht, hjt] at h; simp [dstNe] at h
  · have := nodupN_spec c2
    rw [List.pairwise_map] at this
    exact this
  · have := allI_spec c3 i ri hi
    have := List.all_eq_true.1 this p hp
    simpa using this
  · have := allI_spec (allI_spec c4 i ri hi) j rj hj
    rw [Nat.zero_add, Nat.zero_add] at this
    simp only [Bool.or_eq_true] at this
    rcases this with h | h | h
    · exact absurd (Nat.eq_of_beq_eq_true h) hne
    · exact absurd (memN_iff.1 h) hnot
    · have := List.all_eq_true.1 h p hp
      simp only [Bool.and_eq_true, Bool.not_eq_true'] at this
      refine ⟨this.1, fun q hq => ?_⟩
      have := List.all_eq_true.1 this.2 q hq
      simpa using this
  · have := allI_spec c5 i ri hi
    split at this
    · rename_i t ht
      simp only [Bool.and_eq_true] at this
      refine ⟨t, ht, by simpa [Nat.blt_eq] using this.1, fun k b hg e => ?_⟩
      rw [hg] at this
      subst e
      simp at this
    · cases this
  · have : some t ∈ (ops.take m).map (·.dst) := by
      rw [← hdst, ← ht]; exact List.mem_map.2 ⟨ri, List.mem_of_getElem? hi, rfl⟩
    obtain ⟨base, nt, ts, gs, bs, fs⟩ := S
    exact maskT_none this ts

end Go.Ab
namespace Go.Ab
open Go.RowKit
variable {P : Program} {tb : Tb} {w : World} {ρ : Env} {a : Act} {B : Nat} {w0 : World} {F : List (Array Value)}
  {cs : Nat → Option (Nat × V × List Nb)} {m : Nat} {ops : List Oper} {S0 : St} {A : List (List Nat)} {R : List Rs}

theorem okT_spec {anc : List Nat} {t : Nat} : ∀ {ds : List (Option Nat)} {i0 : Nat}, okT anc t i0 ds = true → ∀ i, ds[i]? = some (some t) → i0 + i ∈ anc
  | d :: r, i0, h, i, hi => by
    simp only [okT] at h
    cases i with
    | zero =>
      simp at hi; subst hi
      split at h
      · cases h
      · rename_i hno
        cases hm : memN anc i0
        · exact absurd hm (hno (by simp))
        · simpa using memN_iff.1 hm
    | succ i =>
      rw [show i0 + (i + 1) = i0 + 1 + i by omega]
      split at h
      · cases h
      · exact okT_spec h i (by simpa using hi)
  | [], _, _, _, hi => by simp at hi

theorem Walked.anc (W : Walked P tb cs m ops S0 A R) {j : Nat} {o : Oper} (hj : j < m) (ho : ops[j]? = some o) {i : Nat} : i ∈ nth A j ↔ ∃ e ∈ edgesOf o.after.toList, i = e ∨ i ∈ nth A e := by
  obtain ⟨r, h1, h2, _⟩ := W.facts j o hj ho
  rw [h2, ancOf, mem_ancIn]
  constructor
  · rintro ⟨e, he, h⟩
    rw [nth_take (W.lt j o ho e he)] at h
    exact ⟨e, he, h⟩
  · rintro ⟨e, he, h⟩
    refine ⟨e, he, ?_⟩
    rw [nth_take (W.lt j o ho e he)]
    exact h

theorem Walked.op (W : Walked P tb cs m ops S0 A R) {j : Nat} (hj : j < m) : ∃ o, ops[j]? = some o := ⟨_, List.getElem?_eq_getElem (Nat.lt_of_lt_of_le hj W.len)⟩

theorem Walked.ancLt (W : Walked P tb cs m ops S0 A R) : ∀ (n j : Nat), j < n → j < m → ∀ i ∈ nth A j, i < j
  | 0, j, hn, _, _, _ => by omega
  | n + 1, j, hn, hj, i, hi => by
    obtain ⟨o, ho⟩ := W.op hj
    obtain ⟨e, he, h⟩ := (W.anc hj ho).1 hi
    have hlt := W.lt j o ho e he
    rcases h with h | h
    · omega
    · have := W.ancLt n e (by omega) (by omega) i h
      omega

theorem Walked.trans (W : Walked P tb cs m ops S0 A R) : ∀ (n j : Nat), j < n → j < m → ∀ i ∈ nth A j, ∀ k ∈ nth A i, k ∈ nth A j
  | 0, j, hn, _, _, _, _, _ => by omega
  | n + 1, j, hn, hj, i, hi, k, hk => by
    obtain ⟨o, ho⟩ := W.op hj
    obtain ⟨e, he, h⟩ := (W.anc hj ho).1 hi
    have hlt := W.lt j o ho e he
    rcases h with h | h
    · subst h; exact (W.anc hj ho).2 ⟨_, he, .inr hk⟩
    · exact (W.anc hj ho).2 ⟨e, he, .inr (W.trans n e (by omega) (by omega) i h k hk)⟩

/-- The set of what has run is closed. -/
def Closed (m : Nat) (A : List (List Nat)) (E : Nat → Bool) : Prop := ∀ i, i < m → E i = true → ∀ k ∈ nth A i, E k = true

theorem Walked.ancIn (W : Walked P tb cs m ops S0 A R) {E : Nat → Bool} (hE : Closed m A E) {j : Nat} {o : Oper} (hj : j < m) (ho : ops[j]? = some o) (hr : ∀ e ∈ edgesOf o.after.toList, E e = true) : ∀ i ∈ nth A j, E i = true := by
  intro i hi
  obtain ⟨e, he, h⟩ := (W.anc hj ho).1 hi
  rcases h with h | h
  · subst h; exact hr _ he
  · exact hE e (by have := W.lt j o ho e he; omega) (hr e he) i h

theorem pw_of (W : Walked P tb cs m ops S0 A R) (R' : List Rs) (h : ∀ (i : Nat) (r : Rs), R'[i]? = some r → R[i]? = some r) : R'.Pairwise (fun x y => ∀ t, x.dst = some t → y.dst ≠ some t) := by
  rw [List.pairwise_iff_getElem]
  intro i j hi hj hij t h1 h2
  have e1 := h i _ (List.getElem?_eq_getElem hi)
  have e2 := h j _ (List.getElem?_eq_getElem hj)
  exact W.ne i j _ _ e1 e2 (by omega) t h1 h2

theorem take_sub {j i : Nat} {r : Rs} (h : (R.take j)[i]? = some r) : i < j ∧ R[i]? = some r := by
  rw [List.getElem?_take] at h
  split at h
  · rename_i hlt; exact ⟨hlt, h⟩
  · cases h

/-- A slot that forerunners alone write reads the same, whoever else has run. -/
theorem slot_loc (W : Walked P tb cs m ops S0 A R) {E : Nat → Bool} {j t : Nat} {anc : List Nat} (hlt : ∀ i ∈ anc, i < j) (hE : ∀ i ∈ anc, E i = true) (hok : okT anc t 0 ((ops.take m).map (·.dst)) = true) (ts : List (Nat × V)) :
    look (tsOf E 0 R ++ ts) t = look (tsOf (memN anc) 0 (R.take j) ++ ts) t ∧ lookG (gsOf E 0 R) t = lookG (gsOf (memN anc) 0 (R.take j)) t := by
  have pw := pw_of W R fun _ _ h => h
  have pw' := pw_of W (R.take j) fun _ _ h => (take_sub h).2
  have hin : ∀ (i : Nat) (r : Rs), R[i]? = some r → r.dst = some t → i ∈ anc := fun i r hi hd => by
    have : ((ops.take m).map (·.dst))[i]? = some (some t) := by rw [← W.dsts, List.getElem?_map, hi]; simp [hd]
    simpa using okT_spec hok i this
  have uniq : ∀ (i : Nat) (r : Rs) (i' : Nat) (r' : Rs), R[i]? = some r → R[i']? = some r' → r.dst = some t → r'.dst = some t → i = i' := fun i r i' r' h1 h2 h3 h4 => by
    rcases Nat.lt_trichotomy i i' with h | h | h
    · exact absurd h4 (W.ne i i' r r' h1 h2 (by omega) t h3)
    · exact h
    · exact absurd h4 (W.ne i i' r r' h1 h2 (by omega) t h3)
  by_cases hex : ∃ (i : Nat) (r : Rs), R[i]? = some r ∧ r.dst = some t
  · obtain ⟨i, r, hi, hd⟩ := hex
    have him := hin i r hi hd
    have hij := hlt i him
    have hi' : (R.take j)[i]? = some r := by rw [List.getElem?_take, if_pos hij]; exact hi
    refine ⟨?_, ?_⟩
    · rw [look_append, look_append, tsOf_in pw hi (by simpa using hE i him) hd, tsOf_in pw' hi' (by simpa using memN_iff.2 him) hd]
    · have side : ∀ (E' : Nat → Bool) (R' : List Rs), (∀ (i : Nat) (r : Rs), R'[i]? = some r → R[i]? = some r) → R'[i]? = some r → E' i = true → lookG (gsOf E' 0 R') t = r.g.map fun p => ⟨t, p.1, p.2, r.v⟩ := by
        intro E' R' hsub hi' hEi
        cases hl : lookG (gsOf E' 0 R') t with
        | none =>
          cases hg : r.g with
          | none => rfl
          | some p =>
            have : (⟨t, p.1, p.2, r.v⟩ : Gd) ∈ gsOf E' 0 R' := gsOf_mem.2 ⟨i, r, hi', by simpa using hEi, hd, hg, rfl⟩
            exact absurd rfl (lookG_none hl _ this)
        | some g =>
          obtain ⟨hm, ht⟩ := lookG_mem hl
          obtain ⟨i2, r2, h1, h2, h3, h4, h5⟩ := gsOf_mem.1 hm
          rw [ht] at h3
          have e := uniq i r i2 r2 hi (hsub _ _ h1) hd h3
          subst e
          rw [hi'] at h1; cases h1
          rw [h4]
          cases g; simp at h5 ht ⊢; exact ⟨ht, h5⟩
      rw [side E R (fun _ _ h => h) hi (hE i him), side (memN anc) (R.take j) (fun _ _ h => (take_sub h).2) hi' (memN_iff.2 him)]
  · have none1 : ∀ (E' : Nat → Bool) (R' : List Rs), (∀ (i : Nat) (r : Rs), R'[i]? = some r → R[i]? = some r) → look (tsOf E' 0 R') t = none := by
      intro E' R' hsub
      cases hl : look (tsOf E' 0 R') t with
      | none => rfl
      | some v => obtain ⟨i, r, h1, _, h3, _⟩ := tsOf_out hl; exact absurd ⟨i, r, hsub _ _ h1, h3⟩ hex
    have none2 : ∀ (E' : Nat → Bool) (R' : List Rs), (∀ (i : Nat) (r : Rs), R'[i]? = some r → R[i]? = some r) → lookG (gsOf E' 0 R') t = none := by
      intro E' R' hsub
      cases hl : lookG (gsOf E' 0 R') t with
      | none => rfl
      | some g =>
        obtain ⟨hm, ht⟩ := lookG_mem hl
        obtain ⟨i, r, h1, _, h3, _⟩ := gsOf_mem.1 hm
        rw [ht] at h3
        exact absurd ⟨i, r, hsub _ _ h1, h3⟩ hex
    refine ⟨?_, ?_⟩
    · rw [look_append, look_append, none1 E R fun _ _ h => h, none1 (memN anc) (R.take j) fun _ _ h => (take_sub h).2]
    · rw [none2 E R fun _ _ h => h, none2 (memN anc) (R.take j) fun _ _ h => (take_sub h).2]

theorem ev_loc (W : Walked P tb cs m ops S0 A R) {E : Nat → Bool} {j : Nat} {anc : List Nat} (hlt : ∀ i ∈ anc, i < j) (hE : ∀ i ∈ anc, E i = true) {x : Operand} (hok : operandOk ((ops.take m).map (·.dst)) anc x = true) (al : List (Nat × Bool)) :
    (stOf S0 (R.take j) (memN anc)).ev al x = (stOf S0 R E).ev al x := by
  obtain ⟨base, nt, ts, gs, bs, fs⟩ := S0
  cases x with
  | tmp t =>
    obtain ⟨h1, h2⟩ := slot_loc W hlt hE hok ts
    simp only [stOf, St.ev, getT]
    rw [h1, h2]
  | _ => rfl

theorem blk_loc (W : Walked P tb cs m ops S0 A R) {E : Nat → Bool} {j : Nat} {anc : List Nat} (hE : ∀ i ∈ anc, E i = true) {id : Nat} {b : Blk} (h : look (stOf S0 (R.take j) (memN anc)).blks id = some b) : look (stOf S0 R E).blks id = some b := by
  have W' := W
  obtain ⟨base, nt, ts, gs, bs, fs⟩ := S0
  simp only [stOf] at h ⊢
  rw [look_append] at h ⊢
  have sub : ∀ (E' : Nat → Bool) (p : Nat × Blk), p ∈ bsOf E' 0 R → p ∈ bsOf (fun _ => true) 0 R := fun E' p hp => by
    obtain ⟨i, r, h1, _, h3⟩ := bsOf_mem.1 hp
    exact bsOf_mem.2 ⟨i, r, h1, rfl, h3⟩
  have pwE : (bsOf E 0 R).Pairwise fun x y => x.1 ≠ y.1 := by
    have : ∀ (E' : Nat → Bool) (i0 : Nat) (R' : List Rs), (bsOf E' i0 R').Sublist (bsOf (fun _ => true) i0 R') := by
      intro E' i0 R'
      induction R' generalizing i0 with
      | nil => exact List.Sublist.refl _
      | cons r R' ih =>
        simp only [bsOf]
        split
        · exact (List.Sublist.refl _).append (ih _)
        · exact (ih _).trans (List.sublist_append_right _ _)
    exact W.ids.sublist (this E 0 R)
  cases h1 : look (bsOf (memN anc) 0 (R.take j)) id with
  | some b' =>
    rw [h1] at h; simp at h; subst h
    obtain ⟨i, r, g1, g2, g3⟩ := bsOf_mem.1 (look_mem h1)
    rw [Nat.zero_add] at g2
    have : (id, b') ∈ bsOf E 0 R := bsOf_mem.2 ⟨i, r, (take_sub g1).2, by rw [Nat.zero_add]; exact hE i (memN_iff.1 g2), g3⟩
    rw [look_of_mem pwE this]; rfl
  | none =>
    rw [h1] at h; simp at h
    cases h2 : look (bsOf E 0 R) id with
    | none => simpa using h
    | some b' =>
      obtain ⟨i, r, g1, _, g3⟩ := bsOf_mem.1 (look_mem h2)
      have hnew := W.new i r g1 _ g3
      obtain ⟨_, _, m3, _⟩ := St.mentions_parts hnew
      have := mentionsB_of (id := id) h (.inl rfl)
      dsimp only at m3
      rw [m3] at this; cases this

/-- With operation j run too. -/
def Eadd (E : Nat → Bool) (j : Nat) : Nat → Bool := fun i => E i || Nat.beq i j

theorem Eadd_iff {E : Nat → Bool} {j i : Nat} : Eadd E j i = true ↔ E i = true ∨ i = j := by
  simp only [Eadd, Bool.or_eq_true]
  exact or_congr Iff.rfl ⟨Nat.eq_of_beq_eq_true, fun h => by subst h; simp⟩

theorem closed_add {E : Nat → Bool} (hE : Closed m A E) {j : Nat} (ha : ∀ i ∈ nth A j, E i = true) : Closed m A (Eadd E j) := by
  intro i hi hEi k hk
  rcases Eadd_iff.1 hEi with h | h
  · exact Eadd_iff.2 (.inl (hE i hi h k hk))
  · subst h; exact Eadd_iff.2 (.inl (ha k hk))

/-- The state with operation j's own entries at its head is the state of the greater set. -/
theorem sim_add (W : Walked P tb cs m ops S0 A R) {E : Nat → Bool} {j t : Nat} {r : Rs} (hr : R[j]? = some r) (hd : r.dst = some t) (hj : E j = false) {x : Value}
    (h : Sim B w0 F ρ ⟨S0.base, S0.nt, tsOf E 0 R ++ S0.tmps, gsOf E 0 R, r.nb ++ (bsOf E 0 R ++ S0.blks), S0.frames⟩ a w)
    (hv : match r.g with
      | none => VR w (own (r.nb ++ (bsOf E 0 R ++ S0.blks)) ρ) ρ r.v x
      | some (key, want) => (a.tmps.getD key undef = .bool want ∧ VR w (own (r.nb ++ (bsOf E 0 R ++ S0.blks)) ρ) ρ r.v x) ∨ (a.tmps.getD key undef ≠ .bool want ∧ x = undef))
    (hkey : ∀ g ∈ gsOf E 0 R, g.t ≠ t ∧ g.key ≠ t) : Sim B w0 F ρ (stOf S0 R (Eadd E j)) (a.put (some t) x) w := by
  have hS : stOf S0 R (Eadd E j) = ⟨S0.base, S0.nt, tsOf (Eadd E j) 0 R ++ S0.tmps, gsOf (Eadd E j) 0 R, bsOf (Eadd E j) 0 R ++ S0.blks, S0.frames⟩ := by
    obtain ⟨base, nt, ts, gs, bs, fs⟩ := S0; rfl
  rw [hS]
  obtain ⟨t', ht', htn, hgk⟩ := W.slots j r hr
  rw [hd] at ht'; cases ht'
  have h1 : Sim B w0 F ρ ⟨S0.base, S0.nt, (t, r.shown) :: (tsOf E 0 R ++ S0.tmps), (match r.g with | some (key, want) => [⟨t, key, want, r.v⟩] | none => []) ++ gsOf E 0 R, r.nb ++ (bsOf E 0 R ++ S0.blks), S0.frames⟩ (a.put (some t) x) w := by
    cases hg : r.g with
    | none =>
      rw [hg] at hv
      simp only [Rs.shown, hg, List.nil_append]
      exact sim_put h hv hkey htn
    | some p =>
      obtain ⟨key, want⟩ := p
      rw [hg] at hv
      simp only [Rs.shown, hg, List.singleton_append]
      exact sim_putG h hv hkey (hgk key want hg) htn
  have pw := pw_of W R fun _ _ h => h
  refine h1.congr (fun u v hu => ?_) (fun g hg => ?_) (fun id b => ?_)
  · rw [look_append] at hu
    cases hl : look (tsOf (Eadd E j) 0 R) u with
    | some v' =>
      rw [hl] at hu; simp at hu; subst hu
      obtain ⟨i, q, g1, g2, g3, g4⟩ := tsOf_out hl
      rw [Nat.zero_add] at g2
      rcases Eadd_iff.1 g2 with h2 | h2
      · have hne : t ≠ u := fun e => by
          subst e
          have : i ≠ j := fun e => by subst e; rw [hj] at h2; cases h2
          exact W.ne j i r q hr g1 (Ne.symm this) t hd g3
        rw [look_other hne, look_append, tsOf_in pw g1 (by simpa using h2) g3, g4]; rfl
      · subst h2
        rw [hr] at g1; cases g1
        rw [hd] at g3; cases g3
        rw [look_same, g4]
    | none =>
      rw [hl] at hu; simp at hu
      have hne : t ≠ u := fun e => by
        subst e
        have := W.mask j r t hr hd
        rw [this] at hu; cases hu
      rw [look_other hne, look_append]
      cases hl2 : look (tsOf E 0 R) u with
      | none => simpa using hu
      | some v' =>
        obtain ⟨i, q, g1, g2, g3, g4⟩ := tsOf_out hl2
        rw [Nat.zero_add] at g2
        have := tsOf_in pw g1 (E := Eadd E j) (i0 := 0) (by rw [Nat.zero_add]; exact Eadd_iff.2 (.inl g2)) g3
        rw [hl] at this; cases this
  · obtain ⟨i, q, g1, g2, g3, g4, g5⟩ := gsOf_mem.1 hg
    rw [Nat.zero_add] at g2
    rcases Eadd_iff.1 g2 with h2 | h2
    · exact List.mem_append_right _ (gsOf_mem.2 ⟨i, q, g1, by simpa using h2, g3, g4, g5⟩)
    · subst h2
      rw [hr] at g1; cases g1
      refine List.mem_append_left _ ?_
      rw [g4]
      rw [hd] at g3
      cases g; simp at g3 g5 ⊢; exact ⟨g3.symm, g5⟩
  · -- the blocks
    have sub : ∀ (E' : Nat → Bool) (i0 : Nat) (R' : List Rs), (bsOf E' i0 R').Sublist (bsOf (fun _ => true) i0 R') := by
      intro E' i0 R'
      induction R' generalizing i0 with
      | nil => exact List.Sublist.refl _
      | cons r R' ih =>
        simp only [bsOf]
        split
        · exact (List.Sublist.refl _).append (ih _)
        · exact (ih _).trans (List.sublist_append_right _ _)
    have pwA : (bsOf (Eadd E j) 0 R).Pairwise fun x y => x.1 ≠ y.1 := W.ids.sublist (sub _ 0 R)
    have pwE : (bsOf E 0 R).Pairwise fun x y => x.1 ≠ y.1 := W.ids.sublist (sub _ 0 R)
    have same : ∀ (i : Nat) (q : Rs) (p p' : Nat × Blk), R[i]? = some q → p ∈ q.nb → (p' ∈ bsOf (fun _ => true) 0 R) → p.1 = p'.1 → p = p' := by
      intro i q p p' g1 g2 g3 e
      have g4 : p ∈ bsOf (fun _ => true) 0 R := bsOf_mem.2 ⟨i, q, g1, rfl, g2⟩
      have l1 := look_of_mem W.ids (t := p.1) (v := p.2) (by simpa using g4)
      have l2 := look_of_mem W.ids (t := p'.1) (v := p'.2) (by simpa using g3)
      rw [e, l2] at l1
      cases p; cases p'; simp at e l1 ⊢; exact ⟨e, l1.symm⟩
    have toAll : ∀ E' (p : Nat × Blk), p ∈ bsOf E' 0 R → p ∈ bsOf (fun _ => true) 0 R := fun E' p hp => (sub E' 0 R).subset hp
    have fresh : ∀ (p : Nat × Blk), p ∈ bsOf (fun _ => true) 0 R → ∀ b, look S0.blks p.1 = some b → False := fun p hp b hb => by
      obtain ⟨i, q, g1, _, g3⟩ := bsOf_mem.1 hp
      obtain ⟨_, _, m3, _⟩ := St.mentions_parts (W.new i q g1 _ g3)
      have := mentionsB_of (id := p.1) hb (.inl rfl)
      rw [m3] at this; cases this
    rw [look_append, look_append, look_append]
    have key : ∀ b, look (bsOf (Eadd E j) 0 R) id = some b ↔ (look r.nb id = some b ∨ (look r.nb id = none ∧ look (bsOf E 0 R) id = some b)) := by
      intro b
      constructor
      · intro hl
        have hm := look_mem hl
        obtain ⟨i, q, g1, g2, g3⟩ := bsOf_mem.1 hm
        rw [Nat.zero_add] at g2
        have hcase : (id, b) ∈ r.nb ∨ (id, b) ∈ bsOf E 0 R := by
          rcases Eadd_iff.1 g2 with h2 | h2
          · exact .inr (bsOf_mem.2 ⟨i, q, g1, by simpa using h2, g3⟩)
          · subst h2; rw [hr] at g1; cases g1; exact .inl g3
        cases hn : look r.nb id with
        | some b' =>
          have := same j r (id, b') (id, b) hr (look_mem hn) (toAll _ _ hm) rfl
          cases this; exact .inl rfl
        | none =>
          rcases hcase with h2 | h2
          · exfalso
            have : ∀ (l : List (Nat × Blk)), (id, b) ∈ l → look l id ≠ none := by
              intro l
              induction l with
              | nil => intro h; simp at h
              | cons p l ih =>
                intro h hl
                simp only [look] at hl
                split at hl
                · cases hl
                · rename_i hb
                  rcases List.mem_cons.1 h with h | h
                  · subst h; simp at hb
                  · exact ih h hl
            exact this _ h2 hn
          · exact .inr ⟨rfl, look_of_mem pwE h2⟩
      · rintro (h2 | ⟨_, h2⟩)
        · exact look_of_mem pwA (bsOf_mem.2 ⟨j, r, hr, by rw [Nat.zero_add]; exact Eadd_iff.2 (.inr rfl), look_mem h2⟩)
        · obtain ⟨i, q, g1, g2, g3⟩ := bsOf_mem.1 (look_mem h2)
          rw [Nat.zero_add] at g2
          exact look_of_mem pwA (bsOf_mem.2 ⟨i, q, g1, by rw [Nat.zero_add]; exact Eadd_iff.2 (.inl g2), g3⟩)
    cases hA : look (bsOf (Eadd E j) 0 R) id with
    | some b' =>
      rcases (key b').1 hA with h2 | ⟨h2, h3⟩
      · simp [h2]
      · simp [h2, h3]
    | none =>
      have n1 : look r.nb id = none := by
        cases hn : look r.nb id with
        | none => rfl
        | some b' => have := (key b').2 (.inl hn); rw [hA] at this; cases this
      have n2 : look (bsOf E 0 R) id = none := by
        cases hn : look (bsOf E 0 R) id with
        | none => rfl
        | some b' => have := (key b').2 (.inr ⟨n1, hn⟩); rw [hA] at this; cases this
      simp [n1, n2]

end Go.Ab
namespace Go.Ab
open Go.RowKit
variable {P : Program} {tb : Tb} {w : World} {ρ : Env} {a : Act} {B : Nat} {w0 : World} {F : List (Array Value)}
  {cs : Nat → Option (Nat × V × List Nb)} {m : Nat} {ops : List Oper} {S0 : St} {A : List (List Nat)} {R : List Rs}

theorem evD_form {ops : List Oper} {j : Nat} {o : Oper} {S : St} {K : Option (Nat × Bool) → V → List (Nat × Blk) → Prop} (h : evD P tb cs ops j o S K) :
    ∃ g v nb, K g v nb ∧ ((o.guard = none ∧ g = none) ∨ ∃ jg want oj key, o.guard = some (jg, want) ∧ ops[jg]? = some oj ∧ oj.dst = some key ∧ g = some (key, want)) := by
  obtain ⟨dst, op, ty, pos, after, guard⟩ := o
  cases guard with
  | none =>
    refine (?_ : ∃ g v nb, K g v nb ∧ g = none).elim fun g ⟨v, nb, h1, h2⟩ => ⟨g, v, nb, h1, .inl ⟨rfl, h2⟩⟩
    cases op <;> simp only [evD, isN] at h
    case call c =>
      obtain ⟨callee, args, tys⟩ := c
      cases callee <;> try simp only at h
      case value f =>
        split at h
        · rw [forceV_eq] at h; exact ⟨_, _, _, h.2, rfl⟩
        · exact h.no.elim
      all_goals (obtain ⟨v, h1⟩ := evP_some h; exact ⟨_, _, _, h1, rfl⟩)
    all_goals first
      | (obtain ⟨i, v, b, h1, h2⟩ := evN_one h; exact ⟨_, _, _, h1, rfl⟩)
      | (obtain ⟨v, h1⟩ := evP_some h; exact ⟨_, _, _, h1, rfl⟩)
  | some gd =>
    obtain ⟨jg, want⟩ := gd
    simp only [evD] at h
    split at h
    · rename_i key _ _ _ _ _ hjg
      refine (?_ : ∃ g v nb, K g v nb ∧ g = some (key, want)).elim fun g ⟨v, nb, h1, h2⟩ => ⟨g, v, nb, h1, .inr ⟨jg, want, _, key, rfl, hjg, rfl, h2⟩⟩
      cases op <;> try simp only at h
      case call c =>
        obtain ⟨callee, args, tys⟩ := c
        cases callee <;> try simp only at h
        case value f =>
          split at h
          · rw [forceV_eq] at h; exact ⟨_, _, _, h.2, rfl⟩
          · exact h.no.elim
        all_goals (obtain ⟨v, h1⟩ := evP_some h; exact ⟨_, _, _, h1, rfl⟩)
      all_goals (obtain ⟨v, h1⟩ := evP_some h; exact ⟨_, _, _, h1, rfl⟩)
    · exact h.no.elim

theorem evN_id {ev : Operand → V} {base t : Nat} {op : Op} {K : Nat → V → Blk → Prop} (h : evN tb ev base (some t) op K) : evN tb ev base (some t) op (fun i v b => i = St.idOf base t ∧ K i v b) := by
  cases op <;> simp only [evN, forceVL_eq, St.idK_eq] at h ⊢ <;> first | exact h.no.elim | skip
  all_goals (repeat' split at h)
  all_goals first
    | exact h.no.elim
    | (simp_all; done)
    | skip

theorem evD_guard_nb {ops : List Oper} {j : Nat} {S : St} {g : Option (Nat × Bool)} {v : V} {nb : List (Nat × Blk)} {jg : Nat} {want : Bool} {dst op ty pos after} (h : evD P tb cs ops j ⟨dst, op, ty, pos, after, some (jg, want)⟩ S (fun g' v' nb' => g' = g ∧ v' = v ∧ nb' = nb)) : nb = [] := by
  simp only [evD] at h
  split at h
  · cases op <;> try simp only at h
    case call c =>
      obtain ⟨callee, args, tys⟩ := c
      cases callee <;> try simp only at h
      case value f =>
        split at h
        · rw [forceV_eq] at h; exact h.2.2.2.symm
        · exact h.no.elim
      all_goals (obtain ⟨v, h1⟩ := evP_some h; exact h1.2.2.symm)
    all_goals (obtain ⟨v, h1⟩ := evP_some h; exact h1.2.2.symm)
  · exact h.no.elim

theorem mentionsT_all {id : Nat} : ∀ {ts : List (Nat × V)}, mentionsT id ts = false ↔ ∀ p ∈ ts, p.2.mentions id = false
  | [] => by simp [mentionsT]
  | (u, v) :: r => by
    have ih := mentionsT_all (id := id) (ts := r)
    simp only [mentionsT]
    split
    · rename_i h; simp [h]
    · rename_i h; simp [h, ih]
theorem mentionsG_all {id : Nat} : ∀ {gs : List Gd}, mentionsG id gs = false ↔ ∀ g ∈ gs, g.v.mentions id = false
  | [] => by simp [mentionsG]
  | g :: r => by
    have ih := mentionsG_all (id := id) (gs := r)
    simp only [mentionsG]
    split
    · rename_i h; simp [h]
    · rename_i h; simp [h, ih]
theorem mentionsB_all {id : Nat} : ∀ {bs : List (Nat × Blk)}, mentionsB id bs = false ↔ ∀ p ∈ bs, p.1 ≠ id ∧ p.2.mentions id = false
  | [] => by simp [mentionsB]
  | (i, b) :: r => by
    have ih := mentionsB_all (id := id) (bs := r)
    simp only [mentionsB]
    split
    · rename_i h; simp [Nat.eq_of_beq_eq_true h]
    · rename_i h
      have hne : i ≠ id := fun e => by subst e; simp at h
      split
      · rename_i h2; simp [h2]
      · rename_i h2; simp [h2, ih, hne]

theorem St.mentions_mk {S : St} {id : Nat} (h1 : mentionsT id S.tmps = false) (h2 : mentionsG id S.gds = false) (h3 : mentionsB id S.blks = false) (h4 : mentionsF id S.frames = false) : S.mentions id = false := by
  simp [St.mentions, h1, h2, h3, h4]

theorem tsOf_mem {E : Nat → Bool} : ∀ {R : List Rs} {i0 : Nat} {p : Nat × V}, p ∈ tsOf E i0 R → ∃ (j : Nat) (r : Rs), R[j]? = some r ∧ E (i0 + j) = true ∧ p.2 = r.shown
  | [], _, _, h => by simp [tsOf] at h
  | r :: R, i0, p, h => by
    have rec_ : p ∈ tsOf E (i0 + 1) R → ∃ (j : Nat) (q : Rs), (r :: R)[j]? = some q ∧ E (i0 + j) = true ∧ p.2 = q.shown := fun h => by
      obtain ⟨j, q, h1, h2, h3⟩ := tsOf_mem h
      exact ⟨j + 1, q, by simpa using h1, by rw [show i0 + (j + 1) = i0 + 1 + j by omega]; exact h2, h3⟩
    simp only [tsOf] at h
    split at h
    · rename_i t hE hd
      rcases List.mem_cons.1 h with h | h
      · subst h; exact ⟨0, r, rfl, by simpa using hE, rfl⟩
      · exact rec_ h
    · exact rec_ h

theorem ment_E (W : Walked P tb cs m ops S0 A R) {E : Nat → Bool} (hE : Closed m A E) {j : Nat} {r : Rs} (hr : R[j]? = some r) (hj : E j = false) {p : Nat × Blk} (hp : p ∈ r.nb) : (stOf S0 R E).mentions p.1 = false := by
  have hnew := W.new j r hr p hp
  obtain ⟨m1, m2, m3, m4⟩ := St.mentions_parts hnew
  have hother : ∀ (i : Nat) (q : Rs), R[i]? = some q → E i = true → q.v.mentions p.1 = false ∧ (∀ x ∈ q.nb, x.2.mentions p.1 = false) ∧ ∀ x ∈ q.nb, x.1 ≠ p.1 := fun i q hi hEi => by
    have hne : i ≠ j := fun e => by subst e; rw [hj] at hEi; cases hEi
    have him : i < m := by rw [← W.hm]; exact (List.getElem?_eq_some_iff.1 hi).1
    have hnot : j ∉ nth A i := fun h => by have := hE i him hEi j h; rw [hj] at this; cases this
    obtain ⟨h1, h2⟩ := W.ment i j q r hi hr hne hnot p hp
    refine ⟨h1, h2, fun x hx e => ?_⟩
    have l1 : x ∈ bsOf (fun _ => true) 0 R := bsOf_mem.2 ⟨i, q, hi, rfl, hx⟩
    have l2 : p ∈ bsOf (fun _ => true) 0 R := bsOf_mem.2 ⟨j, r, hr, rfl, hp⟩
    -- two entries of one number: they are one entry, of one operation
    have key : ∀ (i0 : Nat) (R' : List Rs), (bsOf (fun _ => true) i0 R').Pairwise (fun x y => x.1 ≠ y.1) → ∀ (i j : Nat) (q r : Rs), R'[i]? = some q → R'[j]? = some r → i < j → ∀ x ∈ q.nb, ∀ p ∈ r.nb, x.1 ≠ p.1 := by
      intro i0 R'
      induction R' generalizing i0 with
      | nil => intro _ i j q r h; simp at h
      | cons y R' ih =>
        intro hpw i j q r hi hj hij x hx p hp
        simp only [bsOf] at hpw
        obtain ⟨w1, w2, w3⟩ := List.pairwise_append.1 hpw
        cases j with
        | zero => omega
        | succ j =>
          cases i with
          | zero =>
            simp at hi; subst hi
            exact w3 x hx p (bsOf_mem.2 ⟨j, r, by simpa using hj, rfl, hp⟩)
          | succ i => exact ih _ w2 i j q r (by simpa using hi) (by simpa using hj) (by omega) x hx p hp
    rcases Nat.lt_or_gt_of_ne hne with hlt | hgt
    · exact key 0 R W.ids i j q r hi hr hlt x hx p hp e
    · exact key 0 R W.ids j i r q hr hi hgt p hp x hx e.symm
  obtain ⟨base, nt, ts, gs, bs, fs⟩ := S0
  dsimp only at m1 m2 m3 m4
  refine St.mentions_mk ?_ ?_ ?_ m4
  · refine mentionsT_all.2 fun x hx => ?_
    rcases List.mem_append.1 hx with hx | hx
    · obtain ⟨i, q, h1, h2, h3⟩ := tsOf_mem hx
      rw [Nat.zero_add] at h2
      rw [h3]
      simp only [Rs.shown]
      split
      · exact (hother i q h1 h2).1
      · rfl
    · exact mentionsT_all.1 m1 x hx
  · refine mentionsG_all.2 fun g hg => ?_
    obtain ⟨i, q, h1, h2, _, _, h5⟩ := gsOf_mem.1 hg
    rw [Nat.zero_add] at h2
    rw [h5]
    exact (hother i q h1 h2).1
  · refine mentionsB_all.2 fun x hx => ?_
    rcases List.mem_append.1 hx with hx | hx
    · obtain ⟨i, q, h1, h2, h3⟩ := bsOf_mem.1 hx
      rw [Nat.zero_add] at h2
      exact ⟨(hother i q h1 h2).2.2 x h3, (hother i q h1 h2).2.1 x h3⟩
    · exact mentionsB_all.1 m3 x hx

theorem toDsV_mono {blk blk' : Nat → Option Blk} (hb : ∀ id b, blk id = some b → blk' id = some b) : ∀ {cs : List V} {ds : List D}, toDsV blk cs = some ds → toDsV blk' cs = some ds
  | [], ds, h => h
  | u :: r, ds, h => by
    cases u <;> simp only [toDsV] at h ⊢ <;> first | cases h | skip
    · split at h
      · rename_i xs hxs
        rw [toDsV_mono hb hxs]; exact h
      · cases h
    · split at h
      · rename_i h1 h2
        rw [hb _ _ h1, toDsV_mono hb h2]; exact h
      · cases h
mutual
theorem viewV_mono {blk blk' : Nat → Option Blk} (hb : ∀ id b, blk id = some b → blk' id = some b) (v : V) (u : V) (h : viewV blk v = some u) : viewV blk' v = some u := by
  cases v with
  | any => exact h
  | d => exact h
  | rp => exact h
  | osl id off len =>
    simp only [viewV] at h ⊢
    split at h
    · rename_i h1; rw [hb _ _ h1]; exact h
    · cases h
  | ref id row off =>
    simp only [viewV] at h ⊢
    split at h
    · rename_i h1
      split at h
      · rename_i h2; rw [hb _ _ h1]; simp only [toDsV_mono hb h2]; exact h
      · cases h
    · rename_i h1; rw [hb _ _ h1]; exact h
    · cases h
  | agg vs =>
    simp only [viewV] at h ⊢
    split at h
    · rename_i us h1; rw [viewL_mono hb vs us h1]; exact h
    · cases h
  | tup vs =>
    simp only [viewV] at h ⊢
    split at h
    · rename_i us h1; rw [viewL_mono hb vs us h1]; exact h
    · cases h
  | fn f vs =>
    simp only [viewV] at h ⊢
    split at h
    · rename_i us h1; rw [viewL_mono hb vs us h1]; exact h
    · cases h
theorem viewL_mono {blk blk' : Nat → Option Blk} (hb : ∀ id b, blk id = some b → blk' id = some b) (vs us : List V) (h : viewL blk vs = some us) : viewL blk' vs = some us := by
  cases vs with
  | nil => exact h
  | cons v r =>
    simp only [viewL] at h ⊢
    split at h
    · rename_i u us' h1 h2
      rw [viewV_mono hb v u h1, viewL_mono hb r us' h2]; exact h
    · cases h
end

theorem mem_operands_call {f : Operand} {args : Array Operand} {tys : Array TypeId} {x : Operand} : x ∈ (Op.operands (.call ⟨.value f, args, tys⟩)).toList ↔ x = f ∨ x ∈ args := by
  simp [Op.operands, Call.operands]

end Go.Ab
namespace Go.Ab
open Go.RowKit
variable {P : Program} {tb : Tb} {w : World} {ρ : Env} {a : Act} {B : Nat} {w0 : World} {F : List (Array Value)}
  {cs : Nat → Option (Nat × V × List Nb)} {m : Nat} {ops : List Oper} {S0 : St} {A : List (List Nat)} {R : List Rs}

theorem wpOp_run {opsA : Array Oper} {Q : Exit → Act → World → Prop} {j : Nat} {o : Oper} {next : Act → World → Prop} (ho : opsA[j]? = some o) (hw : Region.wanted o (yielded opsA a.tmps) = true) (h : o.wp P a w next Q) : wpOp P opsA Q j next a w := by
  unfold wpOp
  simp only [ho, hw, if_true]
  exact .inl h

theorem draw_step (hT : TOk P tb) (W : Walked P tb cs m ops S0 A R) {opsA : Array Oper} (hops : opsA.toList = ops) {E : Nat → Bool} (hE : Closed m A E) {j : Nat} {o : Oper} (hj : j < m) (hjE : E j = false) (ho : ops[j]? = some o)
    (hr : ∀ e ∈ edgesOf o.after.toList, E e = true) (h : Sim B w0 F ρ (stOf S0 R E) a w) {next : Act → World → Prop} (hn : ∀ ρ' a' w', Sim B w0 F ρ' (stOf S0 R (Eadd E j)) a' w' → next a' w') (Q : Exit → Act → World → Prop) :
    wpOp P opsA Q j next a w := by
  have hoA : opsA[j]? = some o := by rw [← hops] at ho; simpa using ho
  obtain ⟨r, hr1, hanc, hrd, hopr, hgd, hev⟩ := W.facts j o hj ho
  have hin := W.ancIn hE hj ho hr
  have hlt : ∀ i ∈ nth A j, i < j := W.ancLt (j + 1) j (by omega) hj
  obtain ⟨t, htd, htn, hkt⟩ := W.slots j r hr1
  have hod : o.dst = some t := by rw [← hrd]; exact htd
  have hloc : ∀ x ∈ o.op.operands.toList, ∀ al, (stOf S0 (R.take j) (memN (nth A j))).ev al x = (stOf S0 R E).ev al x := fun x hx al => ev_loc W hlt hin (hopr x hx) al
  have hblk : ∀ id b, look (stOf S0 (R.take j) (memN (nth A j))).blks id = some b → look (stOf S0 R E).blks id = some b := fun id b hb => blk_loc W hin hb
  have hkey : ∀ g ∈ gsOf E 0 R, g.t ≠ t ∧ g.key ≠ t := fun g hg => by
    obtain ⟨i, q, g1, g2, g3, g4, g5⟩ := gsOf_mem.1 hg
    rw [Nat.zero_add] at g2
    have hne : i ≠ j := fun e => by subst e; rw [hjE] at g2; cases g2
    refine ⟨fun e => W.ne j i r q hr1 g1 (Ne.symm hne) t htd (by rw [← e]; exact g3), fun e => ?_⟩
    have him : i < m := by rw [← W.hm]; exact (List.getElem?_eq_some_iff.1 g1).1
    obtain ⟨oi, hoi⟩ := W.op him
    obtain ⟨q', f1, _, _, _, f5, f6⟩ := W.facts i oi him hoi
    rw [g1] at f1; cases f1
    obtain ⟨gg, vv, nn, ⟨k1, _, _⟩, k4⟩ := evD_form f6
    rcases k4 with ⟨_, k5⟩ | ⟨jg, want, oj, key, k5, k6, k7, k8⟩
    · rw [← k1, k5] at g4; cases g4
    · rw [← k1, k8] at g4
      simp only [Option.some.injEq, Prod.mk.injEq] at g4
      obtain ⟨oj', key', l1, l2, l3, _⟩ := f5 jg want k5
      rw [k6] at l1; cases l1
      have hEjg := hE i him g2 jg l3
      have hjgne : jg ≠ j := fun e => by subst e; rw [hjE] at hEjg; cases hEjg
      have hjgm : jg < m := by have := W.ancLt (i + 1) i (by omega) him jg l3; omega
      obtain ⟨rj, r1, _, r3, _⟩ := W.facts jg oj hjgm k6
      refine W.ne jg j rj r r1 hr1 hjgne key (by rw [r3]; exact k7) ?_
      rw [g4.1, e]; exact htd
  -- the state as it stands
  have hSt : stOf S0 R E = ⟨S0.base, S0.nt, tsOf E 0 R ++ S0.tmps, gsOf E 0 R, bsOf E 0 R ++ S0.blks, S0.frames⟩ := by
    obtain ⟨base, nt, ts, gs, bs, fs⟩ := S0; rfl
  have hment : ∀ p ∈ r.nb, (stOf S0 R E).mentions p.1 = false := fun p hp => ment_E W hE hr1 hjE hp
  have hsbase : ∀ (R' : List Rs) (E' : Nat → Bool), (stOf S0 R' E').base = S0.base := fun R' E' => by obtain ⟨base, nt, ts, gs, bs, fs⟩ := S0; rfl
  obtain ⟨dst, op, ty, pos, after, guard⟩ := o
  dsimp only at hod hopr hloc hgd
  subst hod
  cases guard with
  | none =>
    have hwd : Region.wanted ⟨some t, op, ty, pos, after, none⟩ (yielded opsA a.tmps) = true := by simp [Region.wanted]
    refine wpOp_run hoA hwd ?_
    have done : ∀ {n v w' ρ' S'}, (execOp a.eval ⟨some t, op, ty, pos, after, none⟩).run P w = .ok n w' → (n = .value v ∨ (n = .skip ∧ v = undef)) →
        Sim B w0 F ρ' S' a w' → S' = ⟨S0.base, S0.nt, tsOf E 0 R ++ S0.tmps, gsOf E 0 R, r.nb ++ (bsOf E 0 R ++ S0.blks), S0.frames⟩ → VR w' (own S'.blks ρ') ρ' r.v v → r.g = none →
        Oper.wp P ⟨some t, op, ty, pos, after, none⟩ a w next Q := by
      intro n v w' ρ' S' h1 h2 h3 h4 h5 h6
      subst h4
      have := sim_add W hr1 htd hjE h3 (x := v) (by rw [h6]; exact h5) hkey
      unfold Oper.wp
      rw [h1]
      rcases h2 with rfl | ⟨rfl, rfl⟩
      · exact hn ρ' _ w' this
      · exact hn ρ' _ w' this
    have pureCase : ∀ {K : V → Prop}, evP tb (stOf S0 (R.take j) (memN (nth A j))).ev (look (stOf S0 (R.take j) (memN (nth A j))).blks) id op K → (∀ v, K v → none = r.g ∧ v = r.v ∧ [] = r.nb) →
        Oper.wp P ⟨some t, op, ty, pos, after, none⟩ a w next Q := by
      intro K hk hK
      have h1 := evP_local (ev' := (stOf S0 R E).ev) (blk' := look (stOf S0 R E).blks) (fun x hx al => hloc x hx al) hblk hk
      obtain ⟨v, w', x, h2, h3, h4, h5⟩ := evP_sound hT h.evR h.blks (fun _ ho => own_lt' h ho) (fun p hp => hp) ⟨some t, op, ty, pos, after, none⟩ h1
      obtain ⟨k1, k2, k3⟩ := hK x h5
      subst k2
      refine done h2 (.inl rfl) (h.pure h3) (by rw [← k3]; exact hSt) h4 k1.symm
    have newCase : evN tb ((stOf S0 (R.take j) (memN (nth A j))).ev []) (stOf S0 (R.take j) (memN (nth A j))).base (some t) op (fun id v b => none = r.g ∧ v = r.v ∧ [(id, b)] = r.nb) → Oper.wp P ⟨some t, op, ty, pos, after, none⟩ a w next Q := by
      intro hk
      have h1 := evN_local (ev' := (stOf S0 R E).ev []) (fun x hx => hloc x hx []) hk
      rw [hsbase, ← hsbase R E] at h1
      obtain ⟨i, v, b, ⟨hi, k1, k2, k3⟩, _⟩ := evN_one (evN_id h1)
      have hid : ∀ t', some t = some t' → (stOf S0 R E).mentions (St.idOf (stOf S0 R E).base t') = false := fun t' ht' => by
        cases ht'
        rw [← hi]
        exact hment (i, b) (by rw [← k3]; simp)
      have h2 := evN_evE hid h1
      obtain ⟨n, v', w', ρ', x, S', g1, g2, g3, g4, g5⟩ := evE_sound hT h ⟨some t, op, ty, pos, after, none⟩ h2
      obtain ⟨i', b', ⟨l1, l2, l3⟩, rfl⟩ := g5
      subst l2
      refine done g1 g2 g3 ?_ g4 l1.symm
      rw [← l3, hSt]; rfl
    cases op <;> simp only [evD, isN] at hev
    case call c =>
      obtain ⟨callee, args, tys⟩ := c
      cases callee <;> try simp only at hev
      case value f =>
        split at hev
        · rename_i g cap k res nb hf hcs
          rw [forceV_eq] at hev
          obtain ⟨hcd, k1, k2, k3⟩ := hev
          obtain ⟨args', hvw, hpc⟩ := hcd.out
          have hfE : (stOf S0 R E).ev [] f = .fn g cap := by rw [← hloc f (mem_operands_call.2 (.inl rfl)) []]; exact hf
          have hargsE : args.toList.map ((stOf S0 (R.take j) (memN (nth A j))).ev []) = args.toList.map ((stOf S0 R E).ev []) := List.map_congr_left fun x hx => hloc x (mem_operands_call.2 (.inr (by simpa using hx))) []
          rw [hargsE] at hvw
          have hvw' := viewL_mono hblk _ _ hvw
          obtain ⟨fcs, hfv, hcl, hcv⟩ := fn_inv (h.evR.eq hfE)
          have hargs := args_sound (ev := (stOf S0 R E).ev) (al := []) h.evR.at args hcl hcv
          have hcp : CallP P g (args.toList.map ((stOf S0 R E).ev []) ++ cap) (stOf S0 R E) (fun v S' => v = r.v ∧ S' = ⟨S0.base, S0.nt, tsOf E 0 R ++ S0.tmps, gsOf E 0 R, r.nb ++ (bsOf E 0 R ++ S0.blks), S0.frames⟩) := by
            refine callPure k hpc hvw' (fun b hb => ?_) ⟨k2, ?_⟩
            · have : Nb.ent k b ∈ r.nb := by rw [← k3]; exact List.mem_map.2 ⟨b, hb, rfl⟩
              exact hment _ this
            · rw [← k3, hSt]
          have hcall := hcp.out B w0 F ρ a w _ h hargs
          unfold Oper.wp
          rw [call_run hfv hpc.can, Oper.upon_enter]
          refine Calls.mono hcall ?_
          rintro e w' ⟨v, ρ', x, S', rfl, h1, h2, rfl, rfl⟩
          exact hn ρ' _ w' (sim_add W hr1 htd hjE h1 (x := v) (by rw [← k1]; exact h2) hkey)
        · exact hev.no.elim
      all_goals exact pureCase hev fun v hv => hv
    all_goals first
      | exact newCase hev
      | exact pureCase hev fun v hv => hv
  | some gdd =>
    obtain ⟨jg, want⟩ := gdd
    obtain ⟨oj, key, l1, l2, l3, l4⟩ := hgd jg want rfl
    have hjgA : opsA[jg]? = some oj := by rw [← hops] at l1; simpa using l1
    have hy := yielded_iff (tmps := a.tmps) (want := want) hjgA l2
    have hwd : Region.wanted ⟨some t, op, ty, pos, after, some (jg, want)⟩ (yielded opsA a.tmps) = (yielded opsA a.tmps jg == some want) := by simp [Region.wanted]
    have hkeyloc : ∀ al, (stOf S0 (R.take j) (memN (nth A j))).ev al (.tmp key) = (stOf S0 R E).ev al (.tmp key) := fun al => ev_loc W hlt hin (x := .tmp key) l4 al
    have hcond : ∀ p, condP (stOf S0 (R.take j) (memN (nth A j))) [(key, want)] [(key, want)] p = condP (stOf S0 R E) [(key, want)] [(key, want)] p := fun p => by
      simp only [condP, hkeyloc]
    obtain ⟨odst, oop, oty, opos, oaft, ogd⟩ := oj
    dsimp only at l2
    subst l2
    have skip : ∀ {gg : Option (Nat × Bool)} {v : V} {nb : List (Nat × Blk)}, gg = r.g ∧ v = r.v ∧ nb = r.nb → gg = some (key, want) → nb = [] → a.tmps.getD key undef ≠ .bool want →
        wpOp P opsA Q j next a w := by
      intro gg v nb ⟨k1, k2, k3⟩ hgg hnb hw
      have hwf : Region.wanted ⟨some t, op, ty, pos, after, some (jg, want)⟩ (yielded opsA a.tmps) = false := by
        rw [hwd]
        cases hb : (yielded opsA a.tmps jg == some want)
        · rfl
        · exact absurd (hy.1 hb) hw
      unfold wpOp
      simp only [hoA, hwf, Bool.false_eq_true, if_false]
      refine hn ρ _ w (sim_add W hr1 htd hjE ?_ (x := undef) (by rw [← k1, hgg]; exact .inr ⟨hw, rfl⟩) hkey)
      rw [← k3, hnb]
      rw [hSt] at h; exact h
    by_cases hw : a.tmps.getD key undef = .bool want
    · have hwt : Region.wanted ⟨some t, op, ty, pos, after, some (jg, want)⟩ (yielded opsA a.tmps) = true := by rw [hwd]; exact hy.2 hw
      refine wpOp_run hoA hwt ?_
      have hal : ∀ k g, (k, g) ∈ [(key, want)] → a.tmps.getD k undef = .bool g := fun k g hm => by simp at hm; obtain ⟨rfl, rfl⟩ := hm; exact hw
      have hsc : ∀ p, condP (stOf S0 (R.take j) (memN (nth A j))) [(key, want)] [(key, want)] p → p := fun p hp => by
        rw [hcond] at hp
        exact condP_sound h _ hal _ p (fun _ hx => hx) hp
      have hev' : EvR w (own (stOf S0 R E).blks ρ) ρ a (fun ex x => (stOf S0 R E).ev (ex ++ [(key, want)]) x) := ⟨fun al x hx => h.evR.h _ x fun k g hm => by
        rcases List.mem_append.1 hm with hm | hm
        · exact hx k g hm
        · exact hal k g hm⟩
      have pureCase : ∀ {K : V → Prop}, evP tb (fun ex x => (stOf S0 (R.take j) (memN (nth A j))).ev (ex ++ [(key, want)]) x) (look (stOf S0 (R.take j) (memN (nth A j))).blks) (condP (stOf S0 (R.take j) (memN (nth A j))) [(key, want)] [(key, want)]) op K →
          (∀ v, K v → some (key, want) = r.g ∧ v = r.v ∧ [] = r.nb) → Oper.wp P ⟨some t, op, ty, pos, after, some (jg, want)⟩ a w next Q := by
        intro K hk hK
        have h1 := evP_local (ev' := fun ex x => (stOf S0 R E).ev (ex ++ [(key, want)]) x) (blk' := look (stOf S0 R E).blks) (fun x hx al => hloc x hx _) hblk hk
        obtain ⟨v, w', x, h2, h3, h4, h5⟩ := evP_sound hT hev' h.blks (fun _ ho => own_lt' h ho) hsc ⟨some t, op, ty, pos, after, some (jg, want)⟩ h1
        obtain ⟨k1, k2, k3⟩ := hK x h5
        subst k2
        unfold Oper.wp
        rw [h2]
        refine hn ρ _ w' (sim_add W hr1 htd hjE ?_ (x := v) ?_ hkey)
        · rw [← k3]; have := h.pure h3; rw [hSt] at this; exact this
        · rw [← k1, ← k3]; rw [hSt] at h4; exact .inl ⟨hw, h4⟩
      simp only [evD] at hev
      rw [l1] at hev
      dsimp only at hev
      cases op <;> try simp only at hev
      case call c =>
        obtain ⟨callee, args, tys⟩ := c
        cases callee <;> try simp only at hev
        case value f =>
          split at hev
          · rename_i g cap k0 res hf hcs
            rw [forceV_eq] at hev
            obtain ⟨hcd, k1, k2, k3⟩ := hev
            obtain ⟨args', hvw, hpc⟩ := hsc _ hcd.out
            have hfE : (stOf S0 R E).ev [(key, want)] f = .fn g cap := by rw [← hloc f (mem_operands_call.2 (.inl rfl)) _]; exact hf
            have hargsE : args.toList.map ((stOf S0 (R.take j) (memN (nth A j))).ev [(key, want)]) = args.toList.map ((stOf S0 R E).ev [(key, want)]) := List.map_congr_left fun x hx => hloc x (mem_operands_call.2 (.inr (by simpa using hx))) _
            rw [hargsE] at hvw
            have hvw' := viewL_mono hblk _ _ hvw
            have hf' := h.evR.h [(key, want)] f hal
            rw [hfE] at hf'
            obtain ⟨fcs, hfv, hcl, hcv⟩ := fn_inv hf'
            have hargs := args_sound (ev := (stOf S0 R E).ev) (al := [(key, want)]) (fun x => h.evR.h _ x hal) args hcl hcv
            have hcg : CallG P id g (args.toList.map ((stOf S0 R E).ev [(key, want)]) ++ cap) (stOf S0 R E) (fun v => v = res) :=
              callPureG (res := res) hpc.can hpc (fun p q hpq => hpq) hpc.flat (fun id => by
                cases hmi : res.mentions id
                · rfl
                · obtain ⟨b, hb, _⟩ := hpc.ids id hmi; simp at hb) hvw' rfl
            obtain ⟨x, rfl, hc⟩ := hcg.out
            have hcall := hc B w0 F ρ a w _ h hargs
            unfold Oper.wp
            rw [call_run hfv hpc.can, Oper.upon_enter]
            refine Calls.mono hcall ?_
            rintro e w' ⟨v, rfl, h1, h2⟩
            refine hn ρ _ w' (sim_add W hr1 htd hjE ?_ (x := v) ?_ hkey)
            · rw [← k3]; have := h.pure h1; rw [hSt] at this; exact this
            · rw [← k1, ← k2, ← k3]; rw [hSt] at h2; exact .inl ⟨hw, h2⟩
          · exact hev.no.elim
        all_goals exact pureCase hev fun v hv => hv
      all_goals exact pureCase hev fun v hv => hv
    · obtain ⟨gg, vv, nn, k1, k4⟩ := evD_form hev
      have hnb : r.nb = [] := evD_guard_nb hev
      rcases k4 with ⟨k5, _⟩ | ⟨jg', want', oj', key', k5, k6, k7, k8⟩
      · cases k5
      · cases k5
        rw [l1] at k6; cases k6
        cases k7
        exact skip k1 k8 (by rw [k1.2.2]; exact hnb) hw

end Go.Ab
namespace Go.Ab
open Go.RowKit
variable {P : Program} {tb : Tb} {w : World} {ρ : Env} {a : Act} {B : Nat} {w0 : World} {F : List (Array Value)}
  {cs : Nat → Option (Nat × V × List Nb)} {m : Nat} {ops : List Oper} {S0 : St} {A : List (List Nat)} {R : List Rs}

theorem maskT_some {ds : List (Option Nat)} {t : Nat} {v : V} : ∀ {ts : List (Nat × V)}, look (maskT ds ts) t = some v → look ts t = some v
  | [], h => by simp [maskT, look] at h
  | (u, x) :: r, h => by
    simp only [maskT] at h
    split at h
    · rename_i hb
      by_cases e : u = t
      · subst e
        have hm : some u ∈ ds := by
          obtain ⟨d, hd, hq⟩ := List.any_eq_true.1 hb
          cases d with
          | none => cases hq
          | some y => have := Nat.eq_of_beq_eq_true hq; subst this; exact hd
        rw [maskT_none hm] at h; cases h
      · rw [look_other e]; exact maskT_some h
    · rcases look_cons h with ⟨rfl, rfl⟩ | ⟨hn, h⟩
      · exact look_same
      · rw [look_other hn]; exact maskT_some h

theorem tsOf_congr {E E' : Nat → Bool} : ∀ {R : List Rs} {i0 : Nat}, (∀ i, i < R.length → E (i0 + i) = E' (i0 + i)) → tsOf E i0 R = tsOf E' i0 R ∧ gsOf E i0 R = gsOf E' i0 R ∧ bsOf E i0 R = bsOf E' i0 R
  | [], _, _ => ⟨rfl, rfl, rfl⟩
  | r :: R, i0, h => by
    have h0 : E i0 = E' i0 := by simpa using h 0 (by simp)
    obtain ⟨h1, h2, h3⟩ := tsOf_congr (E := E) (E' := E') (R := R) (i0 := i0 + 1) fun i hi => by
      have := h (i + 1) (by simp; omega)
      rwa [show i0 + 1 + i = i0 + (i + 1) by omega]
    simp only [tsOf, gsOf, bsOf, h0, h1, h2, h3, and_self]

theorem stOf_congr {E E' : Nat → Bool} (h : ∀ i, i < R.length → E i = E' i) : stOf S0 R E = stOf S0 R E' := by
  obtain ⟨base, nt, ts, gs, bs, fs⟩ := S0
  obtain ⟨h1, h2, h3⟩ := tsOf_congr (E := E) (E' := E') (R := R) (i0 := 0) fun i hi => by rw [Nat.zero_add]; exact h i hi
  simp only [stOf, h1, h2, h3]

/-- What is not listed yet. -/
def unl (listed : Array Bool) : Nat := listed.toList.countP (· == false)

theorem unl_set {listed : Array Bool} {i : Nat} (hi : listed.getD i true = false) : unl listed = unl (listed.setIfInBounds i true) + 1 := by
  have hlt : i < listed.size := by
    by_cases h : i < listed.size
    · exact h
    · rw [Array.getD_eq_getD_getElem?, Array.getElem?_eq_none (by omega)] at hi; cases hi
  have hv : listed[i] = false := by rw [Array.getD_eq_getD_getElem?, Array.getElem?_eq_getElem hlt] at hi; exact hi
  have hv' : listed.toList[i]'(by simpa using hlt) = false := by simpa using hv
  unfold unl
  rw [Array.toList_setIfInBounds, List.countP_set (by simpa using hlt)]
  have hpos : 0 < listed.toList.countP (· == false) := List.countP_pos_iff.2 ⟨false, by rw [← hv']; exact List.getElem_mem _, rfl⟩
  have hv2 : (listed.toList[i]'(by simpa using hlt) == false) = true := by rw [hv']; rfl
  rw [if_pos hv2, if_neg (by decide)]
  omega

theorem unl_pos {listed : Array Bool} {i : Nat} (hi : listed.getD i true = false) : 0 < unl listed := by rw [unl_set hi]; omega

theorem getD_ft {listed : Array Bool} {i : Nat} (hi : i < listed.size) : listed.getD i true = listed.getD i false := by
  simp [Array.getD_eq_getD_getElem?, Array.getElem?_eq_getElem hi]

theorem getD_set {listed : Array Bool} {j : Nat} (hj : j < listed.size) : (fun i => (listed.setIfInBounds j true).getD i false) = Eadd (fun i => listed.getD i false) j := by
  funext i
  simp only [Eadd, Array.getD_eq_getD_getElem?, Array.getElem?_setIfInBounds]
  by_cases h : j = i
  · subst h; simp [hj]
  · simp [h, Ne.symm h]

theorem any_T {opsA : Array Oper} (hf : forced m 0 opsA.toList = true) (he : edgesLt 0 opsA.toList = true) {Q : Exit → Act → World → Prop} :
    ∀ (fuel k : Nat) (listed : Array Bool), m ≤ k → k ≤ opsA.size → listed.size = opsA.size → unl listed = fuel → (∀ i, i < opsA.size → listed.getD i false = decide (i < k)) →
    ∀ (a : Act) (w : World), wpOps P opsA Q (List.range' k (opsA.size - k)) a w → wpAny P .any opsA Q fuel listed a w := by
  intro fuel
  induction fuel with
  | zero =>
    intro k listed hm hk hs hu hl a w h
    have hkn : k = opsA.size := by
      apply Nat.le_antisymm hk
      apply Nat.le_of_not_lt
      intro hlt
      have := hl k hlt
      rw [← getD_ft (by omega)] at this
      have := unl_pos (listed := listed) (i := k) (by simpa using this)
      omega
    refine ⟨?_, ?_⟩
    · rw [List.eq_nil_iff_forall_not_mem]
      intro j hj
      obtain ⟨h1, o, ho, _⟩ := mem_ready.1 hj
      have := unl_pos h1
      omega
    · subst hkn; simpa [wpOps] using h
  | succ fuel ih =>
    intro k listed hm hk hs hu hl a w h
    have huniq : ∀ j ∈ Region.ready .any opsA listed, j = k ∧ k < opsA.size := by
      intro j hj
      obtain ⟨h1, o, ho, h2⟩ := mem_ready.1 hj
      have hjlt : j < opsA.size := (Array.getElem?_eq_some_iff.1 ho).1
      have hjk : k ≤ j := by
        apply Nat.le_of_not_lt
        intro hlt
        have := hl j hjlt
        rw [getD_ft (by omega)] at h1
        rw [h1] at this
        simp at this; omega
      refine ⟨?_, by omega⟩
      by_cases e : j = k
      · exact e
      · exfalso
        have hin := forced_spec hf j o (by simpa using ho) (by omega) k (by omega)
        obtain ⟨ed, hed, hb, hon⟩ := mem_edgesOf.1 hin
        have := h2 ed (by simpa using hed) hb
        rw [hon, hl k (by omega)] at this
        simp at this
    by_cases hkn : k = opsA.size
    · refine ⟨fun _ => ?_, fun i hi => ?_⟩
      · subst hkn; simpa [wpOps] using h
      · have := (huniq i hi).2; omega
    · have hklt : k < opsA.size := by omega
      obtain ⟨o, ho⟩ : ∃ o, opsA[k]? = some o := ⟨_, Array.getElem?_eq_getElem hklt⟩
      have hkun : listed.getD k true = false := by rw [getD_ft (by omega), hl k hklt]; simp
      have hkr : k ∈ Region.ready .any opsA listed := by
        refine mem_ready.2 ⟨hkun, o, ho, fun e hee hb => ?_⟩
        have hlt := edgesLt_spec he k o (by simpa using ho) e.on (mem_edgesOf.2 ⟨e, by simpa using hee, hb, rfl⟩)
        rw [hl e.on (by omega)]
        simp; omega
      refine ⟨fun hnil => ?_, fun i hi => ?_⟩
      · rw [hnil] at hkr; simp at hkr
      · obtain ⟨rfl, _⟩ := huniq i hi
        have hr : List.range' i (opsA.size - i) = i :: List.range' (i + 1) (opsA.size - (i + 1)) := by
          rw [show opsA.size - i = (opsA.size - (i + 1)) + 1 by omega, List.range'_succ]
        rw [hr, wpOps_cons] at h
        refine wpOp_mono (fun a w h => ?_) h
        refine ih (i + 1) _ (by omega) (by omega) (by simpa using hs) ?_ (fun x hx => ?_) a w h
        · have := unl_set hkun; omega
        · have := congrFun (getD_set (listed := listed) (j := i) (by omega)) x
          rw [this, Eadd, hl x hx]
          by_cases e : x = i
          · subst e; simp
          · have : Nat.beq x i = false := by
              cases hb : Nat.beq x i
              · rfl
              · exact absurd (Nat.eq_of_beq_eq_true hb) e
            rw [this]
            simp; omega

theorem any_M (hT : TOk P tb) {opsA : Array Oper} (W : Walked P tb cs m opsA.toList S0 A R) (hf : forced m 0 opsA.toList = true) (he : edgesLt 0 opsA.toList = true) {Q : Exit → St → Prop}
    (hend : evOps P tb opsA.toList (opsA.toList.drop m) (stOf S0 R fun _ => true) fun S => Q .normal S) :
    ∀ (fuel : Nat) (listed : Array Bool), listed.size = opsA.size → unl listed = fuel → (∀ i, listed.getD i false = true → i < m) → Closed m A (fun i => listed.getD i false) →
    ∀ (ρ : Env) (a : Act) (w : World), Sim B w0 F ρ (stOf S0 R fun i => listed.getD i false) a w →
    wpAny P .any opsA (fun e a' w' => ∃ ρ' S', Sim B w0 F ρ' S' a' w' ∧ Q e S') fuel listed a w := by
  have hml : m ≤ opsA.size := by simpa using W.len
  intro fuel
  induction fuel with
  | zero =>
    intro listed hs hu hE hc ρ a w h
    by_cases hall : ∀ i, i < m → listed.getD i false = true
    · rw [stOf_congr (E' := fun _ => true) (fun i hi => hall i (by rw [← W.hm]; exact hi))] at h
      refine any_T hf he 0 m listed (Nat.le_refl _) hml hs hu (fun i hi => ?_) a w (evOps_sound hT opsA Q F _ _ (by simp) (fun i k hk => ?_) _ ρ a w h hend)
      · by_cases hi' : i < m
        · simp [hall i hi', hi']
        · cases hb : listed.getD i false
          · simp [hi']
          · exact absurd (hE i hb) hi'
      · rw [List.getElem?_eq_some_iff] at hk
        obtain ⟨_, hk⟩ := hk
        simp at hk
        subst hk
        simp
    · exfalso
      have : ∃ i, i < m ∧ listed.getD i false = false := by
        apply Classical.byContradiction
        intro hno
        apply hall
        intro i hi
        cases hb : listed.getD i false
        · exact absurd ⟨i, hi, hb⟩ hno
        · rfl
      obtain ⟨i, hi, hb⟩ := this
      have := unl_pos (listed := listed) (i := i) (by rw [getD_ft (by omega)]; exact hb)
      omega
  | succ fuel ih =>
    intro listed hs hu hE hc ρ a w h
    by_cases hall : ∀ i, i < m → listed.getD i false = true
    · rw [stOf_congr (E' := fun _ => true) (fun i hi => hall i (by rw [← W.hm]; exact hi))] at h
      refine any_T hf he (fuel + 1) m listed (Nat.le_refl _) hml hs hu (fun i hi => ?_) a w (evOps_sound hT opsA Q F _ _ (by simp) (fun i k hk => ?_) _ ρ a w h hend)
      · by_cases hi' : i < m
        · simp [hall i hi', hi']
        · cases hb : listed.getD i false
          · simp [hi']
          · exact absurd (hE i hb) hi'
      · rw [List.getElem?_eq_some_iff] at hk
        obtain ⟨_, hk⟩ := hk
        simp at hk
        subst hk
        simp
    · have hex : ∃ i, i < m ∧ listed.getD i false = false ∧ ∀ k, k < i → listed.getD k false = true := by
        apply Classical.byContradiction
        intro hno
        apply hall
        intro i
        induction i using Nat.strongRecOn with
        | ind i ih =>
          intro hi
          cases hb : listed.getD i false
          · exact absurd ⟨i, hi, hb, fun k hk => ih k hk (by omega)⟩ hno
          · rfl
      obtain ⟨i, hi, hb, hlow⟩ := hex
      obtain ⟨o, ho⟩ := W.op hi
      refine ⟨fun hnil => ?_, fun j hj => ?_⟩
      · have : i ∈ Region.ready .any opsA listed := by
          refine mem_ready.2 ⟨by rw [getD_ft (by omega)]; exact hb, o, by simpa using ho, fun e hee hbd => ?_⟩
          exact hlow _ (W.lt i o ho e.on (mem_edgesOf.2 ⟨e, by simpa using hee, hbd, rfl⟩))
        rw [hnil] at this; simp at this
      · obtain ⟨h1, oj, hoj, h2⟩ := mem_ready.1 hj
        have hjlt : j < opsA.size := (Array.getElem?_eq_some_iff.1 hoj).1
        have hjm : j < m := by
          apply Nat.lt_of_not_le
          intro hle
          have hin := forced_spec hf j oj (by simpa using hoj) (by omega) i (by omega)
          obtain ⟨ed, hed, hbd, hon⟩ := mem_edgesOf.1 hin
          have := h2 ed (by simpa using hed) hbd
          rw [hon, hb] at this
          cases this
        have hrdy : ∀ e ∈ edgesOf oj.after.toList, (fun i => listed.getD i false) e = true := fun e hee => by
          obtain ⟨ed, hed, hbd, hon⟩ := mem_edgesOf.1 hee
          rw [← hon]; exact h2 ed (by simpa using hed) hbd
        have hjE : listed.getD j false = false := by rw [← getD_ft (by omega)]; exact h1
        refine draw_step hT W rfl hc hjm hjE (by simpa using hoj) hrdy h (fun ρ' a' w' h' => ?_) _
        refine ih _ (by simpa using hs) ?_ (fun x hx => ?_) ?_ ρ' a' w' ?_
        · have := unl_set h1; omega
        · have hx' := congrFun (getD_set (listed := listed) (j := j) (by omega)) x
          rw [hx', Eadd_iff] at hx
          rcases hx with hx | hx
          · exact hE x hx
          · omega
        · rw [getD_set (by omega)]
          exact closed_add hc (W.ancIn hc hjm (by simpa using hoj) hrdy)
        · rw [getD_set (by omega)]; exact h'

/-- A REGION WHOSE ORDER GO LEAVES OPEN. -/
theorem draw_rule (hT : TOk P tb) (hmx : P.follows .mixedOrders = true) {id : Nat} {opsA : Array Oper} {S : St} {K : St → Prop} (cs : Nat → Option (Nat × V × List Nb)) (m : Nat) (hml : m ≤ opsA.size)
    (h : evDraw P tb cs m opsA.toList S K) : DrawP P id opsA S K := by
  refine ⟨fun B w0 F ρ a w hs => ?_⟩
  unfold evDraw at h
  split at h
  case h_2 => exact h.no.elim
  rename_i hfe
  simp only [Bool.and_eq_true] at hfe
  rw [stK_eq] at h
  obtain ⟨A, R, h1, h2, _, _, h5, h6⟩ := evM_facts _ 0 _ _ _ rfl rfl h
  split at h5
  case h_2 => exact h5.no.elim
  rename_i hchk
  rw [stK_eq] at h5
  have W := walked_of (by simpa using h2) (by simpa using hml) h6 hfe.2 hchk
  have hdrew : Pure w { w with drawn := w.drawn + 1 } := ⟨rfl, rfl, rfl, Nat.le_refl _, fun _ _ => rfl⟩
  have hs0 : Sim B w0 F ρ (S0of ((opsA.toList.take m).map (·.dst)) S) a { w with drawn := w.drawn + 1 } := by
    have := hs.pure hdrew
    obtain ⟨base, nt, ts, gs, bs, fs⟩ := S
    exact this.congr (fun t v hv => maskT_some hv) (fun g hg => by simp at hg) (fun _ _ => Iff.rfl)
  refine wp_mono (Q := fun e a' w' => ∃ ρ' S', Sim B w0 F ρ' S' a' w' ∧ e = .normal ∧ S'.noGds K) (wp_region_any hmx ?_) (fun e a' w' h => by
    obtain ⟨ρ', S', g1, g2, g3⟩ := h
    obtain ⟨S'', g4, g5⟩ := noGds_sound g1 g3
    exact ⟨ρ', S'', g4, g2, g5⟩)
  have hE0 : (fun i => (Array.replicate opsA.size false).getD i false) = fun _ => false := by
    funext i; rw [Array.getD_eq_getD_getElem?, Array.getElem?_replicate]; split <;> rfl
  have hst0 : ∀ S0 : St, S0.gds = [] → stOf S0 R (fun _ => false) = S0 := by
    intro S0 hg
    obtain ⟨base, nt, ts, gs, bs, fs⟩ := S0
    dsimp only at hg
    subst hg
    have : ∀ (i0 : Nat) (R : List Rs), tsOf (fun _ => false) i0 R = [] ∧ gsOf (fun _ => false) i0 R = [] ∧ bsOf (fun _ => false) i0 R = [] := by
      intro i0 R
      induction R generalizing i0 with
      | nil => exact ⟨rfl, rfl, rfl⟩
      | cons r R ih =>
        obtain ⟨g1, g2, g3⟩ := ih (i0 + 1)
        exact ⟨by simp [tsOf, g1], by simp [gsOf, g2], by simp [bsOf, g3]⟩
    obtain ⟨g1, g2, g3⟩ := this 0 R
    unfold stOf
    rw [g1, g2, g3]; rfl
  have hun : unl (Array.replicate opsA.size false) = opsA.size := by
    simp [unl, List.countP_replicate]
  have hend : evOps P tb opsA.toList (opsA.toList.drop m) (stOf (S0of ((opsA.toList.take m).map (·.dst)) S) R fun _ => true) fun S => (fun (e : Exit) (S' : St) => e = .normal ∧ S'.noGds K) .normal S := by
    simpa using h5
  exact any_M (B := B) (w0 := w0) (F := F) hT W hfe.1 hfe.2 (Q := fun (e : Exit) (S' : St) => e = .normal ∧ S'.noGds K) hend opsA.size (Array.replicate opsA.size false) (by simp) hun
    (fun i hi => by rw [congrFun hE0 i] at hi; cases hi) (by rw [hE0]; exact fun i _ hi => by cases hi) ρ a { w with drawn := w.drawn + 1 } (by
      rw [hE0, hst0 _ (by obtain ⟨base, nt, ts, gs, bs, fs⟩ := S; rfl)]; exact hs0)

end Go.Ab
