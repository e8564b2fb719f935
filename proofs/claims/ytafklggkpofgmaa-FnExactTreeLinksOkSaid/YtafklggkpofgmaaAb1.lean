/-
  What an abstract state says of a real one, and the operations that read: a part of the frame in which a given row's proof walks the program; no condition.
-/
import Derived.WalkKit
import Derived.Deep.MidRow
namespace Go.Ab

inductive Zn where
  | ptr | func | iface | map
  deriving DecidableEq

/-- Data in memory that nobody writes. A slice: how many elements, and the cells of each. -/
inductive D where
  | int (k : IntKind) (n : Int)
  | bool (b : Bool)
  | str (s : ByteArray)
  | nil
  | zn (z : Zn)
  | sl (n : Nat) (row : Nat → List D)

/-- What a slot or a cell of a variable holds. 'ref', 'osl': into a block of the call's own; 'rp': into memory that nobody writes. -/
inductive V where
  | any
  | d (x : D)
  | ref (id row off : Nat)
  | osl (id off len : Nat)
  | rp (cells : List D)
  | agg (vs : List V)
  | tup (vs : List V)
  | fn (f : FuncId) (cap : List V)

/-- A block of the call's own: a variable, or a row of elements. -/
inductive Blk where
  | box (t : TypeId) (cells : List V)
  | arr (t : TypeId) (sz n : Nat) (row : Nat → List D)

/-- A slot that was written under a guard: the slot, the guard's slot, what that must hold, the value. -/
structure Gd where
  t : Nat
  key : Nat
  want : Bool
  v : V

structure Fr where
  tmps : List (Nat × V)
  gds : List Gd

structure St where
  base : Nat
  nt : Nat
  tmps : List (Nat × V)
  gds : List Gd
  blks : List (Nat × Blk)
  frames : List Fr

/-- What the evaluator knows of a type. -/
inductive TK where
  | bool | int (k : IntKind) | str | ptr (e : TypeId) | slice (e : TypeId) | struct (fs : List (TypeId × Nat)) | array (n : Nat) (e : TypeId)
  | map (k e : TypeId) | other

structure TI where
  kind : TK
  size : Nat
  bytes : Nat
  zero : List D
  eq : Bool

inductive Tb where
  | leaf
  | node (k : Nat) (ti : TI) (l r : Tb)

def Tb.find : Tb → Nat → Option TI
  | .leaf, _ => none
  | .node k ti l r, n => match Nat.beq n k with
    | true => some ti
    | false => match Nat.blt n k with
      | true => l.find n
      | false => r.find n

def look {α : Type} : List (Nat × α) → Nat → Option α
  | [], _ => none
  | (u, v) :: r, t => match Nat.beq u t with
    | true => some v
    | false => look r t

def lookG : List Gd → Nat → Option Gd
  | [], _ => none
  | g :: r, t => match Nat.beq g.t t with
    | true => some g
    | false => lookG r t

def getT (ts : List (Nat × V)) (t : Nat) : V := match look ts t with
  | some v => v
  | none => .any

def ofAtom : Value → V
  | .int k n => .d (.int k n)
  | .bool b => .d (.bool b)
  | .string s => .d (.str s)
  | .slice none 0 0 => .d .nil
  | .pointer none => .d (.zn .ptr)
  | .nilFunc => .d (.zn .func)
  | .nilIface => .d (.zn .iface)
  | .map none => .d (.zn .map)
  | _ => .any

def ofConst : Value → V
  | .agg cs => (match cs.toList.all Value.oneCell' with
    | true => .agg (cs.toList.map ofAtom)
    | false => .any)
  | v => ofAtom v

def hasG : List (Nat × Bool) → Nat → Bool → Bool
  | [], _, _ => false
  | (k, w) :: r, key, want => match Nat.beq k key, w == want with
    | true, true => true
    | _, _ => hasG r key want

/-- An operand, as an operation sees it where the guards 'al' hold. -/
def St.ev (S : St) (al : List (Nat × Bool)) : Operand → V
  | .tmp t => (match lookG S.gds t with
    | some g => (match hasG al g.key g.want with
      | true => g.v
      | false => .any)
    | none => getT S.tmps t)
  | .const v => ofConst v
  | .func f => .fn f []
  | .global _ => .any

def V.cells : V → List V
  | .agg vs => vs
  | v => [v]

mutual
def V.mentions (id : Nat) : V → Bool
  | .ref i _ _ => Nat.beq i id
  | .osl i _ _ => Nat.beq i id
  | .agg vs => mentionsL id vs
  | .tup vs => mentionsL id vs
  | .fn _ vs => mentionsL id vs
  | _ => false
def mentionsL (id : Nat) : List V → Bool
  | [] => false
  | v :: r => match v.mentions id with
    | true => true
    | false => mentionsL id r
end

def mentionsT (id : Nat) : List (Nat × V) → Bool
  | [] => false
  | (_, v) :: r => match v.mentions id with
    | true => true
    | false => mentionsT id r

def mentionsG (id : Nat) : List Gd → Bool
  | [] => false
  | g :: r => match g.v.mentions id with
    | true => true
    | false => mentionsG id r

def Blk.mentions (id : Nat) : Blk → Bool
  | .box _ cs => mentionsL id cs
  | .arr .. => false

/-- A block is named by a block (itself among them). -/
def mentionsB (id : Nat) : List (Nat × Blk) → Bool
  | [] => false
  | (i, b) :: r => match Nat.beq i id with
    | true => true
    | false => match b.mentions id with
      | true => true
      | false => mentionsB id r

def mentionsF (id : Nat) : List Fr → Bool
  | [] => false
  | f :: r => match mentionsT id f.tmps with
    | true => true
    | false => match mentionsG id f.gds with
      | true => true
      | false => mentionsF id r

def St.mentions (S : St) (id : Nat) : Bool := match mentionsT id S.tmps with
  | true => true
  | false => match mentionsG id S.gds with
    | true => true
    | false => match mentionsB id S.blks with
      | true => true
      | false => mentionsF id S.frames

mutual
def V.kill (id : Nat) : V → V
  | .ref i r o => match Nat.beq i id with
    | true => .any
    | false => .ref i r o
  | .osl i o l => match Nat.beq i id with
    | true => .any
    | false => .osl i o l
  | .agg vs => .agg (killL id vs)
  | .tup vs => .tup (killL id vs)
  | .fn f vs => .fn f (killL id vs)
  | .any => .any
  | .d x => .d x
  | .rp cs => .rp cs
def killL (id : Nat) : List V → List V
  | [] => []
  | v :: r => v.kill id :: killL id r
end

def killT (id : Nat) (ts : List (Nat × V)) : List (Nat × V) := ts.map fun p => (p.1, p.2.kill id)
def killG (id : Nat) (gs : List Gd) : List Gd := gs.map fun g => ⟨g.t, g.key, g.want, g.v.kill id⟩
def Blk.kill (id : Nat) : Blk → Blk
  | .box t cs => .box t (killL id cs)
  | .arr t sz n row => .arr t sz n row
/-- Block 'id' goes, and what names it. -/
def killB (id : Nat) : List (Nat × Blk) → List (Nat × Blk)
  | [] => []
  | (i, b) :: r => match Nat.beq i id with
    | true => killB id r
    | false => (i, b.kill id) :: killB id r
def killF (id : Nat) (fs : List Fr) : List Fr := fs.map fun f => ⟨killT id f.tmps, killG id f.gds⟩

def updB : List (Nat × Blk) → Nat → Blk → List (Nat × Blk)
  | [], _, _ => []
  | (u, v) :: r, t, x => match Nat.beq u t with
    | true => (t, x) :: r
    | false => (u, v) :: updB r t x

/-- What remains to be shown where the evaluator has no rule. -/
structure Stuck (why : String) : Prop where
  no : False

/- Written out: the constructors come to the top. -/
def forceD : D → (D → Prop) → Prop
  | .int k n, K => K (.int k n)
  | .bool b, K => K (.bool b)
  | .str s, K => K (.str s)
  | .nil, K => K .nil
  | .zn z, K => K (.zn z)
  | .sl n row, K => K (.sl n row)
def forceDL : List D → (List D → Prop) → Prop
  | [], K => K []
  | x :: r, K => forceD x fun x' => forceDL r fun r' => K (x' :: r')
mutual
def forceV : V → (V → Prop) → Prop
  | .any, K => K .any
  | .d x, K => forceD x fun x' => K (.d x')
  | .ref i r o, K => K (.ref i r o)
  | .osl i o l, K => K (.osl i o l)
  | .rp cs, K => forceDL cs fun cs' => K (.rp cs')
  | .agg vs, K => forceVL vs fun vs' => K (.agg vs')
  | .tup vs, K => forceVL vs fun vs' => K (.tup vs')
  | .fn f vs, K => forceVL vs fun vs' => K (.fn f vs')
def forceVL : List V → (List V → Prop) → Prop
  | [], K => K []
  | v :: r, K => forceV v fun v' => forceVL r fun r' => K (v' :: r')
end
def forceT : List (Nat × V) → (List (Nat × V) → Prop) → Prop
  | [], K => K []
  | (t, v) :: r, K => forceV v fun v' => forceT r fun r' => K ((t, v') :: r')
def forceG : List Gd → (List Gd → Prop) → Prop
  | [], K => K []
  | ⟨t, k, w, v⟩ :: r, K => forceV v fun v' => forceG r fun r' => K (⟨t, k, w, v'⟩ :: r')
def forceB : List (Nat × Blk) → (List (Nat × Blk) → Prop) → Prop
  | [], K => K []
  | (i, .box t cs) :: r, K => forceVL cs fun cs' => forceB r fun r' => K ((i, .box t cs') :: r')
  | (i, .arr t sz n row) :: r, K => forceB r fun r' => K ((i, .arr t sz n row) :: r')
def forceF : List Fr → (List Fr → Prop) → Prop
  | [], K => K []
  | ⟨ts, gs⟩ :: r, K => forceT ts fun ts' => forceG gs fun gs' => forceF r fun r' => K (⟨ts', gs'⟩ :: r')

theorem forceD_eq (x : D) (K : D → Prop) : forceD x K = K x := by cases x <;> rfl
theorem forceDL_eq (l : List D) : ∀ K : List D → Prop, forceDL l K = K l := by
  induction l with
  | nil => intro K; rfl
  | cons x r ih => intro K; simp [forceDL, forceD_eq, ih]
mutual
theorem forceV_eq (v : V) (K : V → Prop) : forceV v K = K v := by
  cases v with
  | d x => simp [forceV, forceD_eq]
  | rp cs => simp [forceV, forceDL_eq]
  | agg vs => simp only [forceV]; rw [forceVL_eq vs]
  | tup vs => simp only [forceV]; rw [forceVL_eq vs]
  | fn f vs => simp only [forceV]; rw [forceVL_eq vs]
  | any => rfl
  | ref => rfl
  | osl => rfl
theorem forceVL_eq (l : List V) (K : List V → Prop) : forceVL l K = K l := by
  cases l with
  | nil => rfl
  | cons v r => simp only [forceVL]; rw [forceV_eq v, forceVL_eq r]
end
theorem forceT_eq (l : List (Nat × V)) : ∀ K : List (Nat × V) → Prop, forceT l K = K l := by
  induction l with
  | nil => intro K; rfl
  | cons x r ih => intro K; obtain ⟨t, v⟩ := x; simp [forceT, forceV_eq, ih]
theorem forceG_eq (l : List Gd) : ∀ K : List Gd → Prop, forceG l K = K l := by
  induction l with
  | nil => intro K; rfl
  | cons x r ih => intro K; obtain ⟨t, k, w, v⟩ := x; simp [forceG, forceV_eq, ih]
theorem forceB_eq (l : List (Nat × Blk)) : ∀ K : List (Nat × Blk) → Prop, forceB l K = K l := by
  induction l with
  | nil => intro K; rfl
  | cons x r ih => intro K; obtain ⟨t, b⟩ := x; cases b <;> simp [forceB, forceVL_eq, ih]
theorem forceF_eq (l : List Fr) : ∀ K : List Fr → Prop, forceF l K = K l := by
  induction l with
  | nil => intro K; rfl
  | cons x r ih => intro K; obtain ⟨t, b⟩ := x; simp [forceF, forceT_eq, forceG_eq, ih]

def setAt {α : Type} : List α → Nat → List α → List α
  | l, _, [] => l
  | [], _, _ => []
  | _ :: r, 0, x :: xs => x :: setAt r 0 xs
  | a :: r, n + 1, xs => a :: setAt r n xs

def toDs : List V → Option (List D)
  | [] => some []
  | .d x :: r => (match toDs r with
    | some xs => some (x :: xs)
    | none => none)
  | _ => none

def TK.agg : TK → Bool
  | .struct _ => true
  | .array _ _ => true
  | _ => false

/-- The value of a type of 's' cells, off a list of cells. -/
def ofCells (agg : Bool) (s : Nat) (cs : List V) : V := match agg with
  | true => .agg (cs.take s)
  | false => (match cs with
    | v :: _ => v
    | [] => .any)

def evLoad (ti : TI) (blk : Nat → Option Blk) (p : V) (K : V → Prop) : Prop := match p with
  | .ref id row off => (match blk id with
    | some (.box _ cs) => (match Nat.ble (off + ti.size) cs.length with
      | true => forceV (ofCells ti.kind.agg ti.size (cs.drop off)) K
      | false => Stuck "load out of the variable")
    | some (.arr _ sz _ rw) => (match Nat.ble (off + ti.size) sz with
      | true => forceV (ofCells ti.kind.agg ti.size (((rw row).drop off).map .d)) K
      | false => Stuck "load out of the element")
    | none => Stuck "load no such block")
  | .rp cs => (match Nat.ble ti.size cs.length with
    | true => forceV (ofCells ti.kind.agg ti.size (cs.map .d)) K
    | false => Stuck "load out of the row")
  | _ => Stuck "load no address"

def evInt (sc : Prop → Prop) (op : BinOp) (k : IntKind) (x y : Int) (K : V → Prop) : Prop := match op with
  | .add => K (.d (.int k (k.wrap (x + y))))
  | .sub => K (.d (.int k (k.wrap (x - y))))
  | .mul => K (.d (.int k (k.wrap (x * y))))
  | .quo => sc (y ≠ 0) ∧ K (.d (.int k (k.wrap (x.tdiv y))))
  | .rem => sc (y ≠ 0) ∧ K (.d (.int k (x.tmod y)))
  | .and => K (.d (.int k (bits .and k x y)))
  | .or => K (.d (.int k (bits .or k x y)))
  | .xor => K (.d (.int k (bits .xor k x y)))
  | .andNot => K (.d (.int k (bits .andNot k x y)))
  | .eql => K (.d (.bool (x == y)))
  | .neq => K (.d (.bool (x != y)))
  | .lss => K (.d (.bool (decide (x < y))))
  | .leq => K (.d (.bool (decide (x ≤ y))))
  | .gtr => K (.d (.bool (decide (x > y))))
  | .geq => K (.d (.bool (decide (x ≥ y))))
  | _ => Stuck "binOp int"

/-- Both equal: integers, bools, strings, and structs of these. -/
def eqFs (f : TypeId → List V → List V → Option Bool) (tb : Tb) : List (TypeId × Nat) → List V → List V → Option Bool
  | [], _, _ => some true
  | (t, o) :: r, xs, ys => match tb.find t with
    | some ti => (match Nat.ble (o + ti.size) xs.length, Nat.ble (o + ti.size) ys.length with
      | true, true => (match f t ((xs.drop o).take ti.size) ((ys.drop o).take ti.size), eqFs f tb r xs ys with
        | some a, some b => some (a && b)
        | _, _ => none)
      | _, _ => none)
    | none => none

def eqT (tb : Tb) : Nat → TypeId → List V → List V → Option Bool
  | 0, _, _, _ => none
  | n + 1, t, xs, ys => match tb.find t with
    | some ⟨.struct fs, _, _, _, true⟩ => eqFs (eqT tb n) tb fs xs ys
    | some ⟨.int _, _, _, _, _⟩ => (match xs, ys with
      | .d (.int k a) :: _, .d (.int k' b) :: _ => (match k == k' with
        | true => some (a == b)
        | false => none)
      | _, _ => none)
    | some ⟨.bool, _, _, _, _⟩ => (match xs, ys with
      | .d (.bool a) :: _, .d (.bool b) :: _ => some (a == b)
      | _, _ => none)
    | some ⟨.str, _, _, _, _⟩ => (match xs, ys with
      | .d (.str a) :: _, .d (.str b) :: _ => some (a == b)
      | _, _ => none)
    | _ => none

/-- A value whose cells are known to be cells. -/
def V.storable : V → Bool
  | .any => false
  | .tup _ => false
  | _ => true

/-- The parts of a struct, laid over its zero cells. -/
def fillV (fs : List (TypeId × Nat)) (tb : Tb) : List V → List (Nat × V) → Option (List V)
  | cs, [] => some cs
  | cs, (i, v) :: r => match fs[i]? with
    | some (t, o) => (match tb.find t with
      | some ti => (match (v.storable && Nat.beq v.cells.length ti.size), Nat.ble (o + ti.size) cs.length with
        | true, true => fillV fs tb (setAt cs o v.cells) r
        | _, _ => none)
      | none => none)
    | none => none

/-- The elements of a slice written out: each part a whole element, in order from 'i' on, none left out. -/
def rowsV (sz : Nat) : Nat → List (Nat × V) → Option (List (List D))
  | _, [] => some []
  | i, (k, v) :: r => match Nat.beq k i, toDs v.cells with
    | true, some ds => (match Nat.beq ds.length sz, rowsV sz (i + 1) r with
      | true, some rs => some (ds :: rs)
      | _, _ => none)
    | _, _ => none

def rowAt (rs : List (List D)) (i : Nat) : List D := match rs[i]? with
  | some r => r
  | none => []

/-- What the operations do that leave the call's own blocks as they are. -/
def evP (tb : Tb) (ev : List (Nat × Bool) → Operand → V) (blk : Nat → Option Blk) (sc : Prop → Prop) (op : Op) (K : V → Prop) : Prop := match op with
  | .move x => forceV (ev [] x) K
  | .assign x => forceV (ev [] x) K
  | .load t a => (match tb.find t with
    | some ti => evLoad ti blk (ev [] a) K
    | none => Stuck "load type")
  | .nilCheck x => (match ev [] x with
    | .ref i r o => K (.ref i r o)
    | .rp cs => K (.rp cs)
    | _ => Stuck "nilCheck")
  | .fieldAddr s x f => (match tb.find s with
    | some ⟨.struct fs, _, _, _, _⟩ => (match fs[f]?, ev [] x with
      | some (t, o), .ref i r off => (match tb.find t with
        | some ⟨_, _ + 1, _, _, _⟩ => K (.ref i r (off + o))
        | _ => Stuck "fieldAddr a field of no size")
      | some (t, o), .rp cs => (match tb.find t with
        | some ⟨_, _ + 1, _, _, _⟩ => forceDL (cs.drop o) fun cs => K (.rp cs)
        | _ => Stuck "fieldAddr a field of no size")
      | _, _ => Stuck "fieldAddr")
    | _ => Stuck "fieldAddr type")
  | .field s x f => (match tb.find s with
    | some ⟨.struct fs, _, _, _, _⟩ => (match fs[f]?, ev [] x with
      | some (t, o), .agg vs => (match tb.find t with
        | some ti => (match Nat.ble (o + ti.size) vs.length with
          | true => forceV (ofCells ti.kind.agg ti.size (vs.drop o)) K
          | false => Stuck "field size")
        | none => Stuck "field type")
      | _, _ => Stuck "field")
    | _ => Stuck "field type")
  | .indexAddr t x i => (match tb.find t with
    | some ⟨.slice e, _, _, _, _⟩ => (match tb.find e, ev [] x, ev [] i with
      | some te, .osl id off len, .d (.int _ n) => (match blk id with
        | some (.arr _ sz _ _) => (match Nat.beq te.size sz with
          | true => sc (0 ≤ n ∧ n < len) ∧ K (.ref id (off + n.toNat) 0)
          | false => Stuck "indexAddr size")
        | _ => Stuck "indexAddr no such block")
      | some te, .d (.sl len row), .d (.int _ n) => sc (0 ≤ n ∧ n < len) ∧ forceDL (row n.toNat) fun cs => (match Nat.beq te.size cs.length with
        | true => K (.rp cs)
        | false => Stuck "indexAddr size of the row")
      | _, _, _ => Stuck "indexAddr")
    | _ => Stuck "indexAddr type")
  | .binOp op t x y _ => (match ev [] x, ev [] y with
    | .d (.int k a), .d (.int k' b) => (match k == k' with
      | true => evInt sc op k a b K
      | false => Stuck "binOp kinds")
    | .d (.bool a), .d (.bool b) => (match op, tb.find t with
      | .eql, some ⟨.bool, _, _, _, _⟩ => K (.d (.bool (a == b)))
      | .neq, some ⟨.bool, _, _, _, _⟩ => K (.d (.bool (!(a == b))))
      | _, _ => Stuck "binOp bool")
    | .agg a, .agg b => (match tb.find t with
      | some ⟨.struct _, _, _, _, true⟩ => (match op, eqT tb 9 t a b with
        | .eql, some e => K (.d (.bool e))
        | .neq, some e => K (.d (.bool !e))
        | _, _ => Stuck "binOp struct")
      | _ => Stuck "binOp a struct that cannot be compared")
    | .d (.str a), .d (.str b) => (match op with
      | .eql => K (.d (.bool (a == b)))
      | .neq => K (.d (.bool !(a == b)))
      | _ => Stuck "binOp string")
    | _, _ => Stuck "binOp")
  | .unOp op _ x => (match op, ev [] x with
    | .not, .d (.bool b) => K (.d (.bool !b))
    | .neg, .d (.int k n) => K (.d (.int k (k.wrap (0 - n))))
    | _, _ => Stuck "unOp")
  | .pick c a b => (match ev [] c with
    | .d (.bool p) => (match c, b with
      | .tmp tc, .const (.bool false) => (match ev [(tc, true)] a with
        | .d (.bool q) => K (.d (.bool (p && q)))
        | _ => Stuck "pick and")
      | .tmp tc, _ => (match a, ev [(tc, false)] b with
        | .const (.bool true), .d (.bool q) => K (.d (.bool (p || q)))
        | _, _ => Stuck "pick or")
      | _, _ => Stuck "pick")
    | _ => Stuck "pick no bool")
  | .extract x i => (match ev [] x with
    | .tup vs => (match vs[i]? with
      | some v => forceV v K
      | none => Stuck "extract")
    | _ => Stuck "extract no tuple")
  | .convert s t x => (match tb.find s, tb.find t, ev [] x with
    | some _, some ⟨.int k, _, _, _, _⟩, .d (.int _ n) => K (.d (.int k (k.wrap n)))
    | _, _, _ => Stuck "convert")
  | .makeFunc f first captured => (match f, first.toList with
    | .func f, [] => forceVL (captured.toList.map (ev [])) fun vs => K (.fn f vs)
    | _, _ => Stuck "makeFunc")
  | .build t parts => (match tb.find t with
    | some ⟨.struct fds, _, _, z, _⟩ => (match fillV fds tb (z.map .d) (parts.toList.map fun p => (p.1, ev [] p.2)) with
      | some cs => forceVL cs fun cs => K (.agg cs)
      | none => Stuck "build")
    | _ => Stuck "build type")
  | .buildSlice t len parts => (match tb.find t with
    | some ⟨.slice e, _, _, _, _⟩ => (match tb.find e with
      | some te => (match rowsV te.size 0 (parts.toList.map fun p => (p.1, ev [] p.2)), Nat.ble (len * te.size) 1000000 with
        | some rs, true => (match Nat.beq rs.length len with
          | true => K (.d (.sl len (rowAt rs)))
          | false => Stuck "buildSlice parts left out")
        | _, _ => Stuck "buildSlice")
      | none => Stuck "buildSlice element type")
    | _ => Stuck "buildSlice type")
  | .call c => (match c.callee with
    | .builtin .len => (match c.args.toList, c.argTypes.toList with
      | [x], [t] => (match tb.find t, ev [] x with
        | some ⟨.slice _, _, _, _, _⟩, .osl _ _ l => K (.d (.int .i64 l))
        | some ⟨.slice _, _, _, _, _⟩, .d (.sl n _) => K (.d (.int .i64 n))
        | some ⟨.slice _, _, _, _, _⟩, .d .nil => K (.d (.int .i64 0))
        | some ⟨.str, _, _, _, _⟩, .d (.str s) => K (.d (.int .i64 s.size))
        | _, _ => Stuck "len")
      | _, _ => Stuck "len arguments")
    | _ => Stuck "call")
  | _ => Stuck "op"

def St.idOf (base dst : Nat) : Nat := match base with
  | 0 => dst
  | b + 1 => b + 1 + dst

def St.idK (base dst : Nat) (K : Nat → Prop) : Prop := match base with
  | 0 => K dst
  | b + 1 => K (b + 1 + dst)

theorem St.idK_eq (base dst : Nat) (K : Nat → Prop) : St.idK base dst K = K (St.idOf base dst) := by cases base <;> rfl

def viewRow (off : Nat) (row : Nat → List D) : Nat → List D := match off with
  | 0 => row
  | o + 1 => fun i => row (o + 1 + i)

/-- What a slice holds, whoever owns it. -/
def contents (blk : Nat → Option Blk) (sz : Nat) : V → Option (Nat × (Nat → List D))
  | .osl id off len => (match blk id with
    | some (.arr _ s _ row) => (match Nat.beq s sz with
      | true => some (len, viewRow off row)
      | false => none)
    | _ => none)
  | .d (.sl n row) => (match Nat.beq (row 0).length sz with
    | true => some (n, row)
    | false => none)
  | .d .nil => some (0, fun _ => [])
  | _ => none

def catRow (n : Nat) (r s : Nat → List D) : Nat → List D := fun i => if i < n then r i else s (i - n)

/-- What the operations do that make blocks, or write. -/
def evE (tb : Tb) (dst : Option Nat) (op : Op) (S : St) (K : V → St → Prop) : Prop := match S with
  | ⟨base, nt, ts, gs, bs, fs⟩ => match op with
    | .store t a x => (match tb.find t, St.ev ⟨base, nt, ts, gs, bs, fs⟩ [] a, St.ev ⟨base, nt, ts, gs, bs, fs⟩ [] x with
      | some ti, .ref id row off, v => (match (v.storable && Nat.beq v.cells.length ti.size), look bs id with
        | true, some (.box t cs) => (match Nat.ble (off + ti.size) cs.length with
          | true => forceVL (setAt cs off v.cells) fun cs' => forceB (updB bs id (.box t cs')) fun bs' => K .any ⟨base, nt, ts, gs, bs', fs⟩
          | false => Stuck "store out of the variable")
        | true, some (.arr t sz n rw) => (match Nat.ble (off + ti.size) sz, toDs v.cells with
          | true, some ds => forceDL ds fun ds => forceB (updB bs id (.arr t sz n fun i => if i = row then setAt (rw row) off ds else rw i)) fun bs' => K .any ⟨base, nt, ts, gs, bs', fs⟩
          | _, _ => Stuck "store into the element")
        | _, _ => Stuck "store size or no such block")
      | _, _, _ => Stuck "store no address of a block of the calls own")
    | .alloc t => (match tb.find t, dst with
      | some ti, some dst => St.idK base dst fun id => (match St.mentions ⟨base, nt, ts, gs, bs, fs⟩ id with
        | true => Stuck "alloc the block is named already"
        | false => forceVL (ti.zero.map .d) fun cs => K (.ref id 0 0) ⟨base, nt, ts, gs, (id, .box t cs) :: bs, fs⟩)
      | _, _ => Stuck "alloc")
    | .box t x => (match dst with
      | some dst => St.idK base dst fun id => (match St.mentions ⟨base, nt, ts, gs, bs, fs⟩ id || !(St.ev ⟨base, nt, ts, gs, bs, fs⟩ [] x).storable with
        | true => Stuck "box the block is named already or what is stored is not known"
        | false => forceVL (St.ev ⟨base, nt, ts, gs, bs, fs⟩ [] x).cells fun cs => K (.ref id 0 0) ⟨base, nt, ts, gs, (id, .box t cs) :: bs, fs⟩)
      | _ => Stuck "box")
    | .makeSlice t l c => (match tb.find t, dst with
      | some ⟨.slice e, _, _, _, _⟩, some dst => (match tb.find e, St.ev ⟨base, nt, ts, gs, bs, fs⟩ [] l, St.ev ⟨base, nt, ts, gs, bs, fs⟩ [] c with
        | some ⟨_, sz, byt, z, _⟩, .d (.int .i64 n), .d (.int .i64 m) => St.idK base dst fun id => (match St.mentions ⟨base, nt, ts, gs, bs, fs⟩ id with
          | true => Stuck "makeSlice the block is named already"
          | false => (0 ≤ n ∧ n ≤ m ∧ m * byt ≤ 140737488355328 ∧ m ≤ 140737488355328) ∧ K (.osl id 0 n.toNat) ⟨base, nt, ts, gs, (id, .arr e sz n.toNat fun _ => z) :: bs, fs⟩)
        | _, _, _ => Stuck "makeSlice")
      | _, _ => Stuck "makeSlice type")
    | .buildSlice t len parts => (match tb.find t, dst with
      | some ⟨.slice e, _, _, _, _⟩, some dst => (match tb.find e with
        | some ⟨_, sz, _, _, _⟩ => St.idK base dst fun id => (match rowsV sz 0 (parts.toList.map fun p => (p.1, St.ev ⟨base, nt, ts, gs, bs, fs⟩ [] p.2)), St.mentions ⟨base, nt, ts, gs, bs, fs⟩ id, Nat.ble (len * sz) 1000000 with
          | some rs, false, true => (match Nat.beq rs.length len with
            | true => K (.osl id 0 len) ⟨base, nt, ts, gs, (id, .arr e sz len (rowAt rs)) :: bs, fs⟩
            | false => Stuck "buildSlice parts left out")
          | _, _, _ => Stuck "buildSlice")
        | none => Stuck "buildSlice element type")
      | _, _ => Stuck "buildSlice type")
    | .call c => (match c.callee with
      | .builtin .append => (match c.args.toList, c.argTypes.toList with
        | [s, x], [t, t'] => (match tb.find t, tb.find t', dst with
          | some ⟨.slice e, _, _, _, _⟩, some ⟨.slice _, _, _, _, _⟩, some dst => (match tb.find e with
            | some ⟨_, sz, byt, _, _⟩ => (match contents (look bs) sz (St.ev ⟨base, nt, ts, gs, bs, fs⟩ [] s), contents (look bs) sz (St.ev ⟨base, nt, ts, gs, bs, fs⟩ [] x) with
              | some (n, r), some (m, r') => (match St.ev ⟨base, nt, ts, gs, bs, fs⟩ [] s with
                | .osl id _ _ => (n + m) * (byt + 1) ≤ 70368744177664 ∧ forceT (killT id ts) fun ts' => forceG (killG id gs) fun gs' => forceB (killB id bs) fun bs' => forceF (killF id fs) fun fs' =>
                    K (.osl id 0 (n + m)) ⟨base, nt, ts', gs', (id, .arr e sz (n + m) (catRow n r r')) :: bs', fs'⟩
                | .d .nil => St.idK base dst fun id => (match St.mentions ⟨base, nt, ts, gs, bs, fs⟩ id with
                  | true => Stuck "append the block is named already"
                  | false => (n + m) * (byt + 1) ≤ 70368744177664 ∧ K (.osl id 0 m) ⟨base, nt, ts, gs, (id, .arr e sz m r') :: bs, fs⟩)
                | _ => Stuck "append to a slice that is not the calls own")
              | _, _ => Stuck "append contents")
            | none => Stuck "append element type")
          | _, _, _ => Stuck "append type")
        | _, _ => Stuck "append arguments")
      | _ => Stuck "call")
    | _ => Stuck "op"

end Go.Ab
namespace Go.Ab
open Go.RowKit

def Zn.val : Zn → Value
  | .ptr => .pointer none
  | .func => .nilFunc
  | .iface => .nilIface
  | .map => .map none

/-- Where a block of the call's own lies: block, first cell, cells of a row, rows, room for rows; 'ph': nowhere (no rows). -/
structure Loc where
  b : Nat
  o : Nat
  sz : Nat
  n : Nat
  cap : Nat
  ph : Bool

abbrev Env := Nat → Loc

inductive DR (w : World) (own : Nat → Prop) : D → Value → Prop
  | int {k n} : DR w own (.int k n) (.int k n)
  | bool {b} : DR w own (.bool b) (.bool b)
  | str {s} : DR w own (.str s) (.string s)
  | nil : DR w own .nil (.slice none 0 0)
  | zn {z} : DR w own (.zn z) z.val
  | sl0 {n row ad c} : n = 0 → DR w own (.sl n row) (.slice ad 0 c)
  | sl {n row b o c sz} (vals : Nat → Nat → Value) (ho : ¬ own b) (hb : b < w.heap.size) (hl : ∀ i, i < n → (row i).length = sz)
      (hc : ∀ i j d, i < n → (row i)[j]? = some d → w.cell? ⟨b, o + i * sz + j, none⟩ = some (vals i j))
      (hv : ∀ i j d, i < n → (row i)[j]? = some d → DR w own d (vals i j)) : DR w own (.sl n row) (.slice (some ⟨b, o, none⟩) n c)

structure Keep (w : World) (own : Nat → Prop) (w' : World) (own' : Nat → Prop) : Prop where
  size : w.heap.size ≤ w'.heap.size
  old : ∀ b, b < w.heap.size → ¬ own b → w'.heap[b]? = w.heap[b]? ∧ ¬ own' b

theorem cell_lt {w : World} {a : Addr} {v : Value} (h : w.cell? a = some v) : a.block < w.heap.size := block_lt_of_cell h

theorem DR.keep {w own w' own' x v} (h : DR w own x v) (k : Keep w own w' own') : DR w' own' x v := by
  induction h with
  | int => exact .int
  | bool => exact .bool
  | str => exact .str
  | nil => exact .nil
  | zn => exact .zn
  | sl0 h => exact .sl0 h
  | sl vals ho hb hl hc hv ih =>
    have hk := k.old _ hb ho
    refine .sl vals hk.2 (Nat.lt_of_lt_of_le hb k.size) hl (fun i j d hi hd => ?_) ih
    rw [World.cell?_of_block (w := w) hk.1]
    exact hc i j d hi hd

theorem DR.oneCell {w own x v} (h : DR w own x v) : v.oneCell' = true := by
  cases h with
  | zn => rename_i z; cases z <;> rfl
  | _ => rfl

theorem DR.cells1 {w own x v} (h : DR w own x v) : v.cells = #[v] := by
  cases h with
  | zn => rename_i z; cases z <;> rfl
  | _ => rfl

inductive VR (w : World) (own : Nat → Prop) (ρ : Env) : V → Value → Prop
  | any {v} : VR w own ρ .any v
  | d {x v} : DR w own x v → VR w own ρ (.d x) v
  | ref {id row off} : (ρ id).ph = false → row < (ρ id).n → VR w own ρ (.ref id row off) (.pointer (some ⟨(ρ id).b, (ρ id).o + row * (ρ id).sz + off, none⟩))
  | osl0 {id off len ad} : len = 0 → off ≤ (ρ id).n → VR w own ρ (.osl id off len) (.slice ad 0 0)
  | osl {id off len} : (ρ id).ph = false → off + len ≤ (ρ id).n → (ρ id).n ≤ (ρ id).cap →
      VR w own ρ (.osl id off len) (.slice (some ⟨(ρ id).b, (ρ id).o + off * (ρ id).sz, none⟩) len ((ρ id).cap - off))
  | rp {cells b o} (vals : Nat → Value) : ¬ own b → b < w.heap.size → (∀ j d, cells[j]? = some d → w.cell? ⟨b, o + j, none⟩ = some (vals j)) →
      (∀ j d, cells[j]? = some d → DR w own d (vals j)) → VR w own ρ (.rp cells) (.pointer (some ⟨b, o, none⟩))
  | agg {vs cs} : cs.size = vs.length → (∀ j, j < cs.size → (cs.getD j undef).oneCell' = true) → (∀ j v, vs[j]? = some v → VR w own ρ v (cs.getD j undef)) →
      VR w own ρ (.agg vs) (.agg cs)
  | tup {vs cs} : cs.size = vs.length → (∀ j v, vs[j]? = some v → VR w own ρ v (cs.getD j undef)) → VR w own ρ (.tup vs) (.tuple cs)
  | fn {f vs cs} : cs.size = vs.length → (∀ j v, vs[j]? = some v → VR w own ρ v (cs.getD j undef)) → VR w own ρ (.fn f vs) (.func (.func f) #[] cs)

theorem mentionsL_of {id : Nat} : ∀ {vs : List V} {j : Nat} {v : V}, vs[j]? = some v → v.mentions id = true → mentionsL id vs = true
  | v :: r, 0, _, h, hm => by simp at h; subst h; simp [mentionsL, hm]
  | v :: r, j + 1, _, h, hm => by
    have := mentionsL_of (vs := r) (by simpa using h) hm
    simp only [mentionsL]; split <;> simp_all
  | [], _, _, h, _ => by simp at h

theorem VR.keep {w own ρ w' own' ρ' v x} (h : VR w own ρ v x) (k : Keep w own w' own') (hr : ∀ id, v.mentions id = true → ρ' id = ρ id) : VR w' own' ρ' v x := by
  induction h with
  | any => exact .any
  | d h => exact .d (h.keep k)
  | ref h1 h2 => rename_i id row off; rw [← hr id (by simp [V.mentions])] at *; exact .ref h1 h2
  | osl0 h0 h1 => rename_i id off len ad; rw [← hr id (by simp [V.mentions])] at *; exact .osl0 h0 h1
  | osl h1 h2 h3 => rename_i id off len; rw [← hr id (by simp [V.mentions])] at *; exact .osl h1 h2 h3
  | rp vals ho hb hc hd =>
    have hk := k.old _ hb ho
    exact .rp vals hk.2 (Nat.lt_of_lt_of_le hb k.size) (fun j d hj => by rw [World.cell?_of_block (w := w) hk.1]; exact hc j d hj) (fun j d hj => (hd j d hj).keep k)
  | agg hs h1 hv ih => exact .agg hs h1 fun j v hj => ih j v hj fun id hm => hr id (by simpa [V.mentions] using mentionsL_of hj hm)
  | tup hs hv ih => exact .tup hs fun j v hj => ih j v hj fun id hm => hr id (by simpa [V.mentions] using mentionsL_of hj hm)
  | fn hs hv ih => exact .fn hs fun j v hj => ih j v hj fun id hm => hr id (by simpa [V.mentions] using mentionsL_of hj hm)

theorem killL_get {id : Nat} : ∀ (vs : List V) (j : Nat), (killL id vs)[j]? = (vs[j]?).map (V.kill id)
  | [], j => by simp [killL]
  | v :: r, 0 => by simp [killL]
  | v :: r, j + 1 => by simpa [killL] using killL_get r j
theorem killL_length {id : Nat} : ∀ (vs : List V), (killL id vs).length = vs.length
  | [] => rfl
  | v :: r => by simp [killL, killL_length r]

theorem VR.kill {w own ρ v x} (id : Nat) (h : VR w own ρ v x) : VR w own ρ (v.kill id) x := by
  induction h with
  | any => exact .any
  | d h => exact .d h
  | ref h1 h2 => simp only [V.kill]; split <;> first | exact .any | exact .ref h1 h2
  | osl0 h0 h1 => simp only [V.kill]; split <;> first | exact .any | exact .osl0 h0 h1
  | osl h1 h2 h3 => simp only [V.kill]; split <;> first | exact .any | exact .osl h1 h2 h3
  | rp vals ho hb hc hd => exact .rp vals ho hb hc hd
  | agg hs h1 hv ih =>
    refine .agg (by rw [killL_length]; exact hs) h1 fun j v hj => ?_
    rw [killL_get] at hj
    obtain ⟨v', hv', rfl⟩ := Option.map_eq_some_iff.1 hj
    exact ih j v' hv'
  | tup hs hv ih =>
    refine .tup (by rw [killL_length]; exact hs) fun j v hj => ?_
    rw [killL_get] at hj
    obtain ⟨v', hv', rfl⟩ := Option.map_eq_some_iff.1 hj
    exact ih j v' hv'
  | fn hs hv ih =>
    refine .fn (by rw [killL_length]; exact hs) fun j v hj => ?_
    rw [killL_get] at hj
    obtain ⟨v', hv', rfl⟩ := Option.map_eq_some_iff.1 hj
    exact ih j v' hv'

mutual
theorem V.kill_mentions (id k : Nat) (v : V) : (v.kill id).mentions k = true → k ≠ id ∧ v.mentions k = true := by
  cases v with
  | any => simp [V.kill, V.mentions]
  | d => simp [V.kill, V.mentions]
  | rp => simp [V.kill, V.mentions]
  | ref i r o =>
    simp only [V.kill]
    cases hb : Nat.beq i id
    · simp only [V.mentions]
      intro h
      have := Nat.eq_of_beq_eq_true h
      subst this
      exact ⟨fun e => by subst e; simp at hb, h⟩
    · simp [V.mentions]
  | osl i r o =>
    simp only [V.kill]
    cases hb : Nat.beq i id
    · simp only [V.mentions]
      intro h
      have := Nat.eq_of_beq_eq_true h
      subst this
      exact ⟨fun e => by subst e; simp at hb, h⟩
    · simp [V.mentions]
  | agg vs => simp only [V.kill, V.mentions]; exact killL_mentions id k vs
  | tup vs => simp only [V.kill, V.mentions]; exact killL_mentions id k vs
  | fn f vs => simp only [V.kill, V.mentions]; exact killL_mentions id k vs
theorem killL_mentions (id k : Nat) (vs : List V) : mentionsL k (killL id vs) = true → k ≠ id ∧ mentionsL k vs = true := by
  cases vs with
  | nil => simp [killL, mentionsL]
  | cons v r =>
    simp only [killL, mentionsL]
    cases hv : (v.kill id).mentions k
    · intro h
      have := killL_mentions id k r h
      refine ⟨this.1, ?_⟩
      split <;> simp_all
    · intro _
      have := V.kill_mentions id k v hv
      exact ⟨this.1, by simp [this.2]⟩
end

/-- The blocks that the call owns. -/
def own (bs : List (Nat × Blk)) (ρ : Env) (b : Nat) : Prop := ∃ id k, look bs id = some k ∧ (ρ id).ph = false ∧ (ρ id).b = b

inductive BR (w : World) (ow : Nat → Prop) (ρ : Env) (id : Nat) : Blk → Prop
  | box {t cs} (C : Array Value) : (ρ id).ph = false → (ρ id).o = 0 → (ρ id).sz = cs.length → (ρ id).n = 1 → w.heap[(ρ id).b]? = some (.cells C t (0, 0)) → C.size = cs.length →
      (∀ j, j < C.size → (C.getD j undef).oneCell' = true) → (∀ j v, cs[j]? = some v → VR w ow ρ v (C.getD j undef)) → BR w ow ρ id (.box t cs)
  | arr0 {t sz n row} : (ρ id).ph = true → (ρ id).sz = sz → (ρ id).n = n → n = 0 → BR w ow ρ id (.arr t sz n row)
  | arr {t sz n row} (C : Array Value) (et : TypeId) : (ρ id).ph = false → (ρ id).sz = sz → (ρ id).n = n → n ≤ (ρ id).cap → (∀ i, i < n → (row i).length = sz) → w.heap[(ρ id).b]? = some (.cells C et (0, 0)) →
      (ρ id).o + (ρ id).cap * sz ≤ C.size → (∀ i j d, i < n → (row i)[j]? = some d → DR w ow d (C.getD ((ρ id).o + i * sz + j) undef)) → BR w ow ρ id (.arr t sz n row)

theorem BR.keep {w ow ρ w' ow' ρ' id b} (h : BR w ow ρ id b) (k : Keep w ow w' ow') (hid : ρ' id = ρ id) (hsame : (ρ id).ph = false → w'.heap[(ρ id).b]? = w.heap[(ρ id).b]?)
    (hr : ∀ i, b.mentions i = true → ρ' i = ρ i) : BR w' ow' ρ' id b := by
  cases h with
  | box C h1 h2 h3 h4 h5 h6 h7 h8 =>
    refine .box C ?_ ?_ ?_ ?_ ?_ h6 h7 fun j v hj => (h8 j v hj).keep k fun i hm => hr i (by simpa [Blk.mentions] using mentionsL_of hj hm)
    all_goals first | (rw [hid]; assumption) | skip
    rw [hid, hsame h1]; exact h5
  | arr0 h1 h2 h3 h4 => exact .arr0 (by rw [hid]; exact h1) (by rw [hid]; exact h2) (by rw [hid]; exact h3) h4
  | arr C et h1 h2 h3 h4 h5 h6 h7 h8 =>
    refine .arr C et ?_ ?_ ?_ ?_ h5 ?_ ?_ fun i j d hi hd => ?_
    all_goals first | (rw [hid]; assumption) | skip
    · rw [hid, hsame h1]; exact h6
    · rw [hid]; exact (h8 i j d hi hd).keep k

structure GR (w : World) (ow : Nat → Prop) (ρ : Env) (tm : Array Value) (g : Gd) : Prop where
  h : (tm.getD g.key undef = .bool g.want ∧ VR w ow ρ g.v (tm.getD g.t undef)) ∨ (tm.getD g.key undef ≠ .bool g.want ∧ tm.getD g.t undef = undef)

structure FrR (w : World) (ow : Nat → Prop) (ρ : Env) (f : Fr) (tm : Array Value) : Prop where
  tmps : ∀ t v, look f.tmps t = some v → VR w ow ρ v (tm.getD t undef)
  gds : ∀ g, g ∈ f.gds → GR w ow ρ tm g

/-- The whole: the abstract state is true of the real one. 'w0': the world at the beginning, 'B': its size; 'F': the slots of the functions that wait. -/
structure Sim (B : Nat) (w0 : World) (F : List (Array Value)) (ρ : Env) (S : St) (a : Act) (w : World) : Prop where
  below : Below B w0 w
  hB : B ≤ w.heap.size
  defers : a.defers = []
  nt : a.tmps.size = S.nt
  top : FrR w (own S.blks ρ) ρ ⟨S.tmps, S.gds⟩ a.tmps
  blks : ∀ id b, look S.blks id = some b → BR w (own S.blks ρ) ρ id b
  sep : ∀ i j x y, look S.blks i = some x → look S.blks j = some y → (ρ i).ph = false → (ρ j).ph = false → (ρ i).b = (ρ j).b → i = j
  ge : ∀ i x, look S.blks i = some x → (ρ i).ph = false → B ≤ (ρ i).b
  frames : S.frames.length = F.length ∧ ∀ (i : Nat) (f : Fr) (tm : Array Value), S.frames[i]? = some f → F[i]? = some tm → FrR w (own S.blks ρ) ρ f tm

theorem GR.keep {w ow ρ w' ow' ρ' tm g} (h : GR w ow ρ tm g) (k : Keep w ow w' ow') (hr : ∀ i, g.v.mentions i = true → ρ' i = ρ i) : GR w' ow' ρ' tm g := by
  rcases h.h with h | h
  · exact ⟨.inl ⟨h.1, h.2.keep k hr⟩⟩
  · exact ⟨.inr h⟩

theorem mentionsT_of {id : Nat} : ∀ {ts : List (Nat × V)} {t : Nat} {v : V}, look ts t = some v → v.mentions id = true → mentionsT id ts = true
  | (u, x) :: r, t, v, h, hm => by
    simp only [look] at h
    simp only [mentionsT]
    split at h
    · cases h; simp [hm]
    · have := mentionsT_of h hm
      split <;> simp_all
  | [], _, _, h, _ => by simp [look] at h
theorem mentionsG_of {id : Nat} : ∀ {gs : List Gd} {g : Gd}, g ∈ gs → g.v.mentions id = true → mentionsG id gs = true
  | x :: r, g, h, hm => by
    simp only [mentionsG]
    rcases List.mem_cons.1 h with h | h
    · subst h; simp [hm]
    · have := mentionsG_of h hm
      split <;> simp_all
  | [], _, h, _ => by simp at h
theorem mentionsB_of {id : Nat} : ∀ {bs : List (Nat × Blk)} {i : Nat} {b : Blk}, look bs i = some b → (i = id ∨ b.mentions id = true) → mentionsB id bs = true
  | (u, x) :: r, i, b, h, hm => by
    simp only [look] at h
    simp only [mentionsB]
    cases hu : Nat.beq u id
    · dsimp only
      split at h
      · rename_i hb
        cases h
        have := Nat.eq_of_beq_eq_true hb
        subst this
        rcases hm with hm | hm
        · subst hm; simp at hu
        · simp [hm]
      · have := mentionsB_of h hm
        split <;> simp_all
    · simp
  | [], _, _, h, _ => by simp [look] at h
theorem mentionsF_of {id : Nat} : ∀ {fs : List Fr} {i : Nat} {f : Fr}, fs[i]? = some f → (mentionsT id f.tmps = true ∨ mentionsG id f.gds = true) → mentionsF id fs = true
  | x :: r, 0, f, h, hm => by
    simp at h; subst h
    simp only [mentionsF]
    rcases hm with hm | hm
    · simp [hm]
    · rw [hm]; split <;> rfl
  | x :: r, i + 1, f, h, hm => by
    have := mentionsF_of (fs := r) (by simpa using h) hm
    simp only [mentionsF, this]
    split; rfl; split <;> rfl
  | [], _, _, h, _ => by simp at h

theorem FrR.keep {w ow ρ w' ow' ρ' f tm} (h : FrR w ow ρ f tm) (k : Keep w ow w' ow') (hr : ∀ i, (mentionsT i f.tmps = true ∨ mentionsG i f.gds = true) → ρ' i = ρ i) : FrR w' ow' ρ' f tm :=
  ⟨fun t v hv => (h.tmps t v hv).keep k fun i hm => hr i (.inl (mentionsT_of hv hm)), fun g hg => (h.gds g hg).keep k fun i hm => hr i (.inr (mentionsG_of hg hm))⟩

/-- Only what nobody owns, and nothing of it that was there, is touched: what an operation does that the abstract state does not see. -/
structure Pure (w w' : World) : Prop where
  os : w'.os = w.os
  tape : w'.tape = w.tape
  output : w'.output = w.output
  size : w.heap.size ≤ w'.heap.size
  old : ∀ b, b < w.heap.size → w'.heap[b]? = w.heap[b]?

theorem Pure.refl (w : World) : Pure w w := ⟨rfl, rfl, rfl, Nat.le_refl _, fun _ _ => rfl⟩
theorem Pure.trans {a b c : World} (h : Pure a b) (k : Pure b c) : Pure a c :=
  ⟨k.os.trans h.os, k.tape.trans h.tape, k.output.trans h.output, Nat.le_trans h.size k.size, fun i hi => (k.old i (Nat.lt_of_lt_of_le hi h.size)).trans (h.old i hi)⟩
theorem Pure.alloc (w : World) (o : Obj) : Pure w (w.alloc o) := ⟨rfl, rfl, rfl, by simp, fun k hk => Below.heap_alloc w o k hk⟩
theorem Pure.drew (w : World) : Pure w w.drew := ⟨rfl, rfl, rfl, Nat.le_refl _, fun _ _ => rfl⟩
theorem Pure.below {w w' : World} (h : Pure w w') : Below w.heap.size w w' := ⟨h.os, h.tape, h.output, h.size, h.old⟩
theorem Below.pure {w w' : World} (h : Below w.heap.size w w') : Pure w w' := ⟨h.os, h.tape, h.output, h.size, h.block⟩

/-- A block of the call's own lies below the heap's end. -/
theorem BR.lt {w ow ρ id b} (h : BR w ow ρ id b) (hp : (ρ id).ph = false) : (ρ id).b < w.heap.size := by
  cases h with
  | box C h1 h2 h3 h4 h5 => exact (Array.getElem?_eq_some_iff.1 h5).1
  | arr0 h1 => rw [h1] at hp; cases hp
  | arr C et h1 h2 h3 h4 h5 h6 => exact (Array.getElem?_eq_some_iff.1 h6).1

theorem own_lt {w ρ} {bs : List (Nat × Blk)} (h : ∀ id b, look bs id = some b → BR w (own bs ρ) ρ id b) {b : Nat} (ho : own bs ρ b) : b < w.heap.size := by
  obtain ⟨id, k, hk, hp, rfl⟩ := ho
  exact (h id k hk).lt hp

theorem Pure.keep {w w' : World} (h : Pure w w') (ow : Nat → Prop) : Keep w ow w' ow := ⟨h.size, fun b hb ho => ⟨h.old b hb, ho⟩⟩

theorem Sim.pure {B w0 F ρ S a w w'} (h : Sim B w0 F ρ S a w) (p : Pure w w') : Sim B w0 F ρ S a w' where
  below := h.below.trans (p.below.mono h.hB)
  hB := Nat.le_trans h.hB p.size
  defers := h.defers
  nt := h.nt
  top := h.top.keep (p.keep _) fun _ _ => rfl
  blks := fun id b hb => (h.blks id b hb).keep (p.keep _) rfl (fun hp => p.old _ ((h.blks id b hb).lt hp)) fun _ _ => rfl
  sep := h.sep
  ge := h.ge
  frames := ⟨h.frames.1, fun i f tm hf ht => (h.frames.2 i f tm hf ht).keep (p.keep _) fun _ _ => rfl⟩

end Go.Ab
namespace Go.Ab
open Go.RowKit

/-! ### The table of types -/
def atomOk : Value → D → Bool
  | .int k n, .int k' m => decide (k = k') && decide (n = m)
  | .bool b, .bool c => b == c
  | .string s, .str t => decide (s = t)
  | .slice none 0 0, .nil => true
  | .pointer none, .zn .ptr => true
  | .nilFunc, .zn .func => true
  | .nilIface, .zn .iface => true
  | .map none, .zn .map => true
  | _, _ => false

theorem atomOk_sound {w ow v d} (h : atomOk v d = true) : DR w ow d v := by
  unfold atomOk at h
  split at h
  · simp at h; obtain ⟨rfl, rfl⟩ := h; exact .int
  · simp at h; subst h; exact .bool
  · simp at h; subst h; exact .str
  · exact .nil
  · exact .zn
  · exact .zn
  · exact .zn
  · exact .zn
  · cases h

def zeroOk : List Value → List D → Bool
  | [], [] => true
  | v :: r, d :: s => atomOk v d && zeroOk r s
  | _, _ => false

theorem zeroOk_sound : ∀ {vs : List Value} {ds : List D}, zeroOk vs ds = true → vs.length = ds.length ∧ ∀ w ow j d, ds[j]? = some d → DR w ow d (vs.getD j undef)
  | [], [], _ => ⟨rfl, fun _ _ j d h => by simp at h⟩
  | v :: r, d :: s, h => by
    simp only [zeroOk, Bool.and_eq_true] at h
    obtain ⟨h1, h2⟩ := zeroOk_sound h.2
    refine ⟨by simp [h1], fun w ow j x hj => ?_⟩
    cases j with
    | zero => simp at hj; subst hj; simpa using atomOk_sound h.1
    | succ j => simpa using h2 w ow j x (by simpa using hj)
  | [], _ :: _, h => by simp [zeroOk] at h
  | _ :: _, [], h => by simp [zeroOk] at h

def kOk : TK → TypeDesc → Bool
  | .bool, .bool => true
  | .int k, .int k' => decide (k = k')
  | .str, .string => true
  | .ptr e, .pointer e' => e == e'
  | .slice e, .slice e' => e == e'
  | .struct fs, .struct fields => (fs == fields.toList.map fun f => (f.type, f.offset)) && fields.toList.all fun f => decide (f.name ≠ "_")
  | .array n e, .array n' e' => n == n' && e == e'
  | .map k e, .map k' e' => k == k' && e == e'
  | .other, .struct _ => false
  | .other, .array _ _ => false
  | .other, _ => true
  | _, _ => false

def tiOk (P : Program) (t : Nat) (ti : TI) : Bool := match P.info? t, P.underlying t with
  | some i, some d => (i.size == ti.size) && (i.bytes == ti.bytes) && (ti.kind.agg || ti.size == 1) && kOk ti.kind d &&
      (match i.zero with
        | some z => zeroOk z.cells.toList ti.zero && (z.cells.size == ti.size)
        | none => false) && (!ti.eq || (!P.stoodInHeld t && !P.eqGuardType P.depth t)) &&
      (match d with
        | .struct fields => fields.toList.all fun f => (P.info? f.type).isSome
        | _ => true)
  | _, _ => false

def Tb.all (f : Nat → TI → Bool) : Tb → Bool
  | .leaf => true
  | .node k ti l r => f k ti && (l.all f && r.all f)

structure TIok (P : Program) (t : Nat) (ti : TI) : Prop where
  info : ∃ i z, P.info? t = some i ∧ i.size = ti.size ∧ i.bytes = ti.bytes ∧ i.zero = some z ∧ z.cells.size = ti.size ∧ ti.zero.length = ti.size ∧
    (∀ w ow j d, ti.zero[j]? = some d → DR w ow d (z.cells.getD j undef))
  kind : ∃ d, P.underlying t = some d ∧ kOk ti.kind d = true
  one : ti.kind.agg = true ∨ ti.size = 1
  eq : ti.eq = true → P.stoodInHeld t = false ∧ P.eqGuardType P.depth t = false
  flds : ∀ fields, P.underlying t = some (.struct fields) → ∀ f ∈ fields.toList, (P.info? f.type).isSome = true

theorem tiOk_sound {P t ti} (h : tiOk P t ti = true) : TIok P t ti := by
  unfold tiOk at h
  split at h
  · rename_i i d hi hd
    simp only [Bool.and_eq_true, beq_iff_eq, Bool.or_eq_true] at h
    obtain ⟨⟨⟨⟨⟨⟨h1, h2⟩, h3⟩, h4⟩, h5⟩, h9⟩, h10⟩ := h
    split at h5
    · rename_i z hz
      simp only [Bool.and_eq_true, beq_iff_eq] at h5
      obtain ⟨h6, h7⟩ := zeroOk_sound h5.1
      refine ⟨⟨i, z, hi, h1, h2, hz, h5.2, ?_, fun w ow j d hj => ?_⟩, ⟨d, hd, h4⟩, h3, fun he => by simpa [he] using h9, fun fields hf => by rw [hd] at hf; cases hf; exact List.all_eq_true.1 h10⟩
      · have := h5.2; simp at h6; omega
      · have := h7 w ow j d hj; simpa using this
    · cases h5
  · cases h

structure TOk (P : Program) (tb : Tb) : Prop where
  ok : ∀ t ti, tb.find t = some ti → TIok P t ti

theorem Tb.all_find {f : Nat → TI → Bool} : ∀ {tb : Tb} {t ti}, tb.all f = true → tb.find t = some ti → f t ti = true
  | .node k x l r, t, ti, h, hf => by
    simp only [Tb.all, Bool.and_eq_true] at h
    simp only [Tb.find] at hf
    split at hf
    · rename_i hb
      cases hf
      rw [Nat.eq_of_beq_eq_true hb]
      exact h.1
    · split at hf
      · exact Tb.all_find h.2.1 hf
      · exact Tb.all_find h.2.2 hf
  | .leaf, _, _, _, hf => by simp [Tb.find] at hf

theorem TOk.of {P tb} (h : tb.all (tiOk P) = true) : TOk P tb := ⟨fun _ _ hf => tiOk_sound (Tb.all_find h hf)⟩

/-! ### Loads -/
variable {P : Program} {tb : Tb} {w : World} {ow : Nat → Prop} {ρ : Env}

theorem isAgg_run {t ti} (h : TIok P t ti) (w : World) : (isAgg t).run P w = .ok ti.kind.agg w := by
  obtain ⟨d, hd, hk⟩ := h.kind
  unfold isAgg
  rw [Sem.run_bind, run_underlying hd w]
  cases hk' : ti.kind <;> rw [hk'] at hk <;> cases d <;> simp_all [kOk, TK.agg]

theorem sizeOf_run {t ti} (h : TIok P t ti) (w : World) : (sizeOf t).run P w = .ok ti.size w := by
  obtain ⟨i, z, hi, hs, _⟩ := h.info
  simp [sizeOf, typeInfo, hi, hs]

theorem loadVar_sound {t ti} (hti : TIok P t ti) (b o : Nat) (vals : Nat → Value) (hc : ∀ j, j < ti.size → w.cell? ⟨b, o + j, none⟩ = some (vals j)) (cs : List V) (hl : ti.size ≤ cs.length)
    (hv : ∀ j v, cs[j]? = some v → VR w ow ρ v (vals j)) (h1 : ∀ j, j < ti.size → (vals j).oneCell' = true) :
    ∃ v, (loadVar t ⟨b, o, none⟩).run P w = .ok v w ∧ VR w ow ρ (ofCells ti.kind.agg ti.size cs) v := by
  have hagg := isAgg_run hti w
  have hsz := sizeOf_run hti w
  cases hk : ti.kind.agg with
  | true =>
    rw [hk] at hagg
    have hl' := run_loadCells (P := P) w ⟨b, o, none⟩ ti.size vals (fun j hj => by rw [Addr.add_mid]; exact hc j hj)
    refine ⟨.agg ((List.range ti.size).map vals).toArray, by simp [loadVar, Sem.run_bind, hagg, hsz, hl'], ?_⟩
    simp only [ofCells]
    refine .agg (by simp; omega) (fun j hj => ?_) fun j v hj => ?_
    · simp at hj; simpa [hj] using h1 j hj
    · rw [List.getElem?_take] at hj
      split at hj
      · rename_i hlt; simpa [hlt] using hv j v hj
      · cases hj
  | false =>
    rw [hk] at hagg
    have h0 : ti.size = 1 := by rcases hti.one with h | h; rw [hk] at h; cases h; exact h
    have hc0 := hc 0 (by omega)
    rw [Nat.add_zero] at hc0
    refine ⟨vals 0, by simp [loadVar, Sem.run_bind, hagg, hc0], ?_⟩
    cases cs with
    | nil => simp at hl; omega
    | cons v r => exact hv 0 v (by simp)

theorem cell_of {w : World} {b o : Nat} {C : Array Value} {t fz} (hg : w.heap[b]? = some (.cells C t fz)) (h : o < C.size) : w.cell? ⟨b, o, none⟩ = some (C.getD o undef) := by
  simp [World.cell?, hg, h]

theorem evLoad_sound {t ti p val} {blk : Nat → Option Blk} {K : V → Prop} (hti : TIok P t ti) (hb : ∀ id b, blk id = some b → BR w ow ρ id b) (hp : VR w ow ρ p val) (h : evLoad ti blk p K) :
    ∃ v x, (Instr.loadAt t val).run P w = .ok v w ∧ VR w ow ρ x v ∧ K x := by
  unfold evLoad at h
  split at h
  · rename_i id row off
    cases hp with
    | ref hph hrow =>
    split at h
    · rename_i t' cs hblk
      split at h
      · rename_i hle
        have hle := Nat.le_of_ble_eq_true hle
        rw [forceV_eq] at h
        cases hb _ _ hblk with
        | box C h1 h2 h3 h4 h5 h6 h7 h8 =>
        have hr0 : row = 0 := by omega
        subst hr0
        have e : (ρ id).o + 0 * (ρ id).sz + off = off := by omega
        rw [e]
        obtain ⟨v, hv, hr⟩ := loadVar_sound (P := P) (w := w) (ow := ow) (ρ := ρ) hti (ρ id).b off (fun j => C.getD (off + j) undef) (fun j hj => cell_of h5 (by omega)) (cs.drop off) (by simp; omega)
          (fun j v hj => by rw [List.getElem?_drop] at hj; exact h8 _ _ hj) (fun j hj => h7 _ (by omega))
        exact ⟨v, _, by simpa [Instr.loadAt, Instr.sureAddr] using hv, hr, h⟩
      · cases h.no
    · rename_i t' sz n rw' hblk
      split at h
      · rename_i hle
        have hle := Nat.le_of_ble_eq_true hle
        rw [forceV_eq] at h
        cases hb _ _ hblk with
        | arr0 h1 => rw [h1] at hph; cases hph
        | arr C et h1 h2 h3 h4 h5 h6 h7 h8 =>
        have hlen := h5 row (by omega)
        have hbig : (ρ id).o + row * sz + sz ≤ C.size := by
          have : (row + 1) * sz ≤ (ρ id).cap * sz := Nat.mul_le_mul_right _ (by omega)
          have : (row + 1) * sz = row * sz + sz := by rw [Nat.add_mul]; omega
          omega
        obtain ⟨v, hv, hr⟩ := loadVar_sound (P := P) (w := w) (ow := ow) (ρ := ρ) hti (ρ id).b ((ρ id).o + row * (ρ id).sz + off) (fun j => C.getD ((ρ id).o + row * (ρ id).sz + off + j) undef)
          (fun j hj => cell_of h6 (by rw [h2]; omega)) (((rw' row).drop off).map .d) (by simp; omega)
          (fun j v hj => by
            rw [List.getElem?_map, List.getElem?_drop] at hj
            obtain ⟨d, hd, rfl⟩ := Option.map_eq_some_iff.1 hj
            have := h8 row (off + j) d (by omega) hd
            rw [h2, Nat.add_assoc]
            exact .d this)
          (fun j hj => by
            have hlt : off + j < (rw' row).length := by omega
            have := (h8 row (off + j) _ (by omega) (List.getElem?_eq_getElem hlt)).oneCell
            rw [h2, Nat.add_assoc]
            exact this)
        exact ⟨v, _, by simpa [Instr.loadAt, Instr.sureAddr] using hv, hr, h⟩
      · cases h.no
    · cases h.no
  · rename_i cs
    split at h
    · rename_i hle
      have hle := Nat.le_of_ble_eq_true hle
      rw [forceV_eq] at h
      cases hp with
      | rp vals ho hbl hc hd =>
      rename_i b o
      obtain ⟨v, hv, hr⟩ := loadVar_sound (P := P) (w := w) (ow := ow) (ρ := ρ) hti b o vals (fun j hj => hc j _ (List.getElem?_eq_getElem (by omega))) (cs.map .d) (by simpa using hle)
        (fun j v hj => by
          rw [List.getElem?_map] at hj
          obtain ⟨d, hd', rfl⟩ := Option.map_eq_some_iff.1 hj
          exact .d (hd j d hd'))
        (fun j hj => (hd j _ (List.getElem?_eq_getElem (by omega))).oneCell)
      exact ⟨v, _, by simpa [Instr.loadAt, Instr.sureAddr] using hv, hr, h⟩
    · cases h.no
  · cases h.no

/-! ### Equality -/
/-- The value of a type, told by its cells. -/
def RepT (w : World) (ow : Nat → Prop) (ρ : Env) (agg : Bool) (xs : List V) (a : Value) : Prop := match agg with
  | true => ∃ cs, a = .agg cs ∧ cs.size = xs.length ∧ ∀ j v, xs[j]? = some v → VR w ow ρ v (cs.getD j undef)
  | false => ∃ v, xs.head? = some v ∧ VR w ow ρ v a

theorem part_sound {t ti} (hti : TIok P t ti) {cs : Array Value} {xs : List V} (hs : cs.size = xs.length) (hv : ∀ j v, xs[j]? = some v → VR w ow ρ v (cs.getD j undef)) (o : Nat) (ho : o + ti.size ≤ xs.length) :
    ∃ a, (∀ w', (part t cs o).run P w' = .ok a w') ∧ RepT w ow ρ ti.kind.agg ((xs.drop o).take ti.size) a := by
  cases hk : ti.kind.agg with
  | true =>
    refine ⟨.agg (cs.extract o (o + ti.size)), fun w' => ?_, cs.extract o (o + ti.size), rfl, by simp; omega, fun j v hj => ?_⟩
    · have := isAgg_run hti w'; rw [hk] at this
      simp [part, this, sizeOf_run hti]
    · rw [List.getElem?_take] at hj
      split at hj
      · rename_i hlt
        rw [List.getElem?_drop] at hj
        have := hv _ _ hj
        simp only [Array.getD_eq_getD_getElem?, Array.getElem?_extract] at this ⊢
        rw [if_pos (by omega)]
        exact this
      · cases hj
  | false =>
    have h0 : ti.size = 1 := by rcases hti.one with h | h; rw [hk] at h; cases h; exact h
    have hlt : o < cs.size := by omega
    refine ⟨cs.getD o undef, fun w' => ?_, xs[o]'(by omega), ?_, hv o _ (List.getElem?_eq_getElem (by omega))⟩
    · have := isAgg_run hti w'; rw [hk] at this
      simp [part, this, hlt]
    · rw [h0, List.head?_take]
      simp [List.head?_drop, show o < xs.length by omega]

theorem kind_struct {t ti fs} (hti : TIok P t ti) (hk : ti.kind = .struct fs) : ∃ fields, P.underlying t = some (.struct fields) ∧ fs = fields.toList.map (fun f => (f.type, f.offset)) ∧ ∀ f ∈ fields.toList, f.name ≠ "_" := by
  obtain ⟨d, hd, h⟩ := hti.kind
  rw [hk] at h
  cases d <;> simp only [kOk] at h <;> first | cases h | skip
  rename_i fields
  simp only [Bool.and_eq_true, beq_iff_eq, List.all_eq_true, decide_eq_true_eq] at h
  exact ⟨fields, hd, h.1, h.2⟩
theorem kind_int {t ti k} (hti : TIok P t ti) (hk : ti.kind = .int k) : P.underlying t = some (.int k) := by
  obtain ⟨d, hd, h⟩ := hti.kind
  rw [hk] at h
  cases d <;> simp only [kOk] at h <;> first | cases h | skip
  simp at h; rw [hd, h]
theorem kind_bool {t ti} (hti : TIok P t ti) (hk : ti.kind = .bool) : P.underlying t = some .bool := by
  obtain ⟨d, hd, h⟩ := hti.kind
  rw [hk] at h
  cases d <;> simp only [kOk] at h <;> first | exact hd | cases h
theorem kind_str {t ti} (hti : TIok P t ti) (hk : ti.kind = .str) : P.underlying t = some .string := by
  obtain ⟨d, hd, h⟩ := hti.kind
  rw [hk] at h
  cases d <;> simp only [kOk] at h <;> first | exact hd | cases h
theorem kind_slice {t ti e} (hti : TIok P t ti) (hk : ti.kind = .slice e) : P.underlying t = some (.slice e) := by
  obtain ⟨d, hd, h⟩ := hti.kind
  rw [hk] at h
  cases d <;> simp only [kOk] at h <;> first | cases h | skip
  simp at h; rw [hd, h]

theorem eqFs_sound {f : TypeId → List V → List V → Option Bool} (hT : TOk P tb) (m : Nat)
    (hf : ∀ t ti xs ys e a b w', tb.find t = some ti → f t xs ys = some e → RepT w ow ρ ti.kind.agg xs a → RepT w ow ρ ti.kind.agg ys b → (Op.equalIn m t a b).run P w' = .ok e w')
    {cs ds : Array Value} {xs ys : List V} (h1 : cs.size = xs.length) (h2 : ds.size = ys.length)
    (hx : ∀ j v, xs[j]? = some v → VR w ow ρ v (cs.getD j undef)) (hy : ∀ j v, ys[j]? = some v → VR w ow ρ v (ds.getD j undef)) (w' : World) :
    ∀ (fl : List Field) (e : Bool), (∀ g ∈ fl, g.name ≠ "_") → eqFs f tb (fl.map fun g => (g.type, g.offset)) xs ys = some e → (Op.eqFields m cs ds fl).run P w' = .ok e w'
  | [], e, _, h => by simp [eqFs] at h; subst h; simp [Op.eqFields]
  | g :: fl, e, hn, h => by
    simp only [List.map_cons, eqFs] at h
    split at h
    · rename_i ti hti
      split at h
      · rename_i hb1 hb2
        have hb1 := Nat.le_of_ble_eq_true hb1
        have hb2 := Nat.le_of_ble_eq_true hb2
        split at h
        · rename_i a b ha hb
          simp at h; subst h
          obtain ⟨va, hva, hra⟩ := part_sound (hT.ok _ _ hti) h1 hx g.offset hb1
          obtain ⟨vb, hvb, hrb⟩ := part_sound (hT.ok _ _ hti) h2 hy g.offset hb2
          have he := hf _ _ _ _ _ _ _ w' hti ha hra hrb
          have ih := eqFs_sound hT m hf h1 h2 hx hy w' fl b (fun x hx => hn x (by simp [hx])) hb
          simp only [Op.eqFields, if_pos (hn g (by simp)), Sem.run_bind, hva, hvb, Result.andThen_ok, he]
          cases a <;> simp [ih]
        · cases h
      · cases h
    · cases h

theorem eqT_sound (hT : TOk P tb) : ∀ (n m : Nat), n ≤ m → ∀ t ti xs ys e a b w', tb.find t = some ti → eqT tb n t xs ys = some e → RepT w ow ρ ti.kind.agg xs a → RepT w ow ρ ti.kind.agg ys b →
    (Op.equalIn m t a b).run P w' = .ok e w'
  | 0, _, _, _, _, _, _, _, _, _, _, _, h, _, _ => by simp [eqT] at h
  | n + 1, 0, hm, _, _, _, _, _, _, _, _, _, _, _, _ => by omega
  | n + 1, m + 1, hm, t, ti, xs, ys, e, a, b, w', hti, h, ha, hb => by
    simp only [eqT, hti] at h
    have hok := hT.ok _ _ hti
    split at h
    · rename_i fs s by' z heq
      cases heq
      obtain ⟨fields, hu, hfs, hnm⟩ := kind_struct hok rfl
      simp only [TK.agg, RepT] at ha hb
      obtain ⟨cs, rfl, h1, hx⟩ := ha
      obtain ⟨ds, rfl, h2, hy⟩ := hb
      have hfo : P.fieldsOf t = fields := by simp [Program.fieldsOf, hu]
      rw [run_equalIn_struct w' m t cs ds (by rw [hfo]; exact hu) (hok.eq rfl).1, hfo]
      rw [hfs] at h
      exact eqFs_sound hT m (fun t ti xs ys e a b w' h1 h2 h3 h4 => eqT_sound hT n m (by omega) t ti xs ys e a b w' h1 h2 h3 h4) h1 h2 hx hy w' _ e hnm h
    · rename_i k s by' z q heq
      cases heq
      have hu := kind_int hok rfl
      split at h
      · rename_i k1 x r k2 y r'
        split at h
        case h_2 => cases h
        rename_i hkk
        have hkk : k1 = k2 := by simpa using hkk
        subst hkk
        simp at h; subst h
        obtain ⟨v, hv, hr⟩ := ha
        obtain ⟨v', hv', hr'⟩ := hb
        simp at hv hv'; subst hv hv'
        cases hr with | d hr => cases hr with | int =>
        cases hr' with | d hr' => cases hr' with | int =>
        exact run_equalIn_int w' m t _ _ _ _ hu
      · cases h
    · rename_i s by' z q heq
      cases heq
      have hu := kind_bool hok rfl
      split at h
      · simp at h; subst h
        obtain ⟨v, hv, hr⟩ := ha
        obtain ⟨v', hv', hr'⟩ := hb
        simp at hv hv'; subst hv hv'
        cases hr with | d hr => cases hr with | bool =>
        cases hr' with | d hr' => cases hr' with | bool =>
        exact run_equalIn_bool w' m t _ _ hu
      · cases h
    · rename_i s by' z q heq
      cases heq
      have hu := kind_str hok rfl
      split at h
      · simp at h; subst h
        obtain ⟨v, hv, hr⟩ := ha
        obtain ⟨v', hv', hr'⟩ := hb
        simp at hv hv'; subst hv hv'
        cases hr with | d hr => cases hr with | str =>
        cases hr' with | d hr' => cases hr' with | str =>
        rw [run_equalIn_string w' m t _ _ hu, beq_toListBytes]
      · cases h
    · cases h

end Go.Ab
namespace Go.Ab
open Go.RowKit
variable {P : Program} {tb : Tb} {w : World} {ow : Nat → Prop} {ρ : Env} {a : Act} {ev : List (Nat × Bool) → Operand → V} {blk : Nat → Option Blk} {sc : Prop → Prop} {K : V → Prop}

/-- What an operand is taken for is true of it. -/
structure EvR (w : World) (ow : Nat → Prop) (ρ : Env) (a : Act) (ev : List (Nat × Bool) → Operand → V) : Prop where
  h : ∀ al x, (∀ k g, (k, g) ∈ al → a.tmps.getD k undef = .bool g) → VR w ow ρ (ev al x) (a.eval x)

theorem EvR.at (h : EvR w ow ρ a ev) (x : Operand) : VR w ow ρ (ev [] x) (a.eval x) := h.h [] x fun _ _ hm => by cases hm
theorem EvR.eq (h : EvR w ow ρ a ev) {x : Operand} {v : V} (e : ev [] x = v) : VR w ow ρ v (a.eval x) := e ▸ h.at x

/-- An operation runs to a value that the abstract one is true of; nothing that is owned is touched. -/
def RunsTo (P : Program) (w : World) (ow : Nat → Prop) (ρ : Env) (r : Sem Value) (K : V → Prop) : Prop :=
  ∃ v w' x, r.run P w = .ok v w' ∧ Pure w w' ∧ VR w' ow ρ x v ∧ K x

theorem RunsTo.same {r : Sem Value} {v x} (h : r.run P w = .ok v w) (hx : VR w ow ρ x v) (hK : K x) : RunsTo P w ow ρ r K := ⟨v, w, x, h, .refl w, hx, hK⟩

theorem evInt_sound {op k x y t} (hsc : ∀ p, sc p → p) (h : evInt sc op k x y K) : RunsTo P w ow ρ (binOp op t (.int k x) (.int k y)) K := by
  cases op <;> simp only [evInt] at h
  case add => exact .same (by rw [binOp_add]; rfl) (.d .int) h
  case sub => exact .same (by rw [binOp_sub]; rfl) (.d .int) h
  case mul => exact .same (by rw [binOp_mul]; rfl) (.d .int) h
  case quo => exact .same (by rw [binOp_quo]; simp [Op.intDiv, hsc _ h.1]) (.d .int) h.2
  case rem => exact .same (by rw [binOp_rem]; simp [Op.intDiv, hsc _ h.1]) (.d .int) h.2
  case and => exact .same (by rw [binOp_and, intBits_and]; rfl) (.d .int) h
  case or => exact .same (by rw [binOp_or, intBits_or]; rfl) (.d .int) h
  case xor => exact .same (by rw [binOp_xor, intBits_xor]; rfl) (.d .int) h
  case andNot => exact .same (by rw [binOp_andNot, intBits_andNot]; rfl) (.d .int) h
  case eql => exact .same (by rw [binOp_eql]; rfl) (.d .bool) h
  case neq => exact .same (by rw [binOp_neq]; rfl) (.d .bool) h
  case lss => exact .same (by rw [binOp_lss]; rfl) (.d .bool) h
  case leq => exact .same (by rw [binOp_leq]; rfl) (.d .bool) h
  case gtr => exact .same (by rw [binOp_gtr]; rfl) (.d .bool) h
  case geq => exact .same (by rw [binOp_geq]; rfl) (.d .bool) h
  all_goals exact h.no.elim

theorem eqGuard_run (hT : TOk P tb) {op t ti x y u v} (ht : tb.find t = some ti) (he : ti.eq = true) (w : World) {xs ys : Array Value} (hu : u = .agg xs) (hv : v = .agg ys) :
    (eqGuard op t x y u v).run P w = .ok () w := by
  subst hu hv
  exact run_eqGuard_agg w op t x y xs ys ((hT.ok _ _ ht).eq he).2

theorem VR.agg_inv {vs v} (h : VR w ow ρ (.agg vs) v) : ∃ cs, v = .agg cs ∧ cs.size = vs.length ∧ (∀ j, j < cs.size → (cs.getD j undef).oneCell' = true) ∧ ∀ j u, vs[j]? = some u → VR w ow ρ u (cs.getD j undef) := by
  cases h with | agg h1 h2 h3 => exact ⟨_, rfl, h1, h2, h3⟩

theorem ofCells_rep {ti t} (hti : TIok P t ti) {xs : List V} {a : Value} (o : Nat) (h : RepT w ow ρ ti.kind.agg ((xs.drop o).take ti.size) a) (h1 : ti.kind.agg = true → ∀ cs, a = .agg cs → ∀ j, j < cs.size → (cs.getD j undef).oneCell' = true) :
    VR w ow ρ (ofCells ti.kind.agg ti.size (xs.drop o)) a := by
  cases hk : ti.kind.agg with
  | true =>
    rw [hk] at h
    obtain ⟨cs, rfl, h2, h3⟩ := h
    exact .agg h2 (h1 hk cs rfl) h3
  | false =>
    rw [hk] at h
    have h0 : ti.size = 1 := by rcases hti.one with h | h; rw [hk] at h; cases h; exact h
    obtain ⟨v, hv, hr⟩ := h
    rw [h0] at hv
    cases hd : xs.drop o with
    | nil => rw [hd] at hv; simp at hv
    | cons u r => rw [hd] at hv; simp at hv; subst hv; exact hr

theorem setAt_get {α : Type} : ∀ (l : List α) (o : Nat) (xs : List α) (j : Nat), o + xs.length ≤ l.length → (setAt l o xs)[j]? = if o ≤ j ∧ j < o + xs.length then xs[j - o]? else l[j]?
  | l, o, [], j, _ => by
    have : ¬ (o ≤ j ∧ j < o + ([] : List α).length) := by simp
    rw [if_neg this]; simp [setAt]
  | [], o, x :: xs, j, h => by simp at h
  | a :: r, 0, x :: xs, j, h => by
    simp only [setAt]
    cases j with
    | zero => simp
    | succ j =>
      have := setAt_get r 0 xs j (by simp at h ⊢; omega)
      simp only [List.getElem?_cons_succ, this, List.length_cons]
      by_cases hj : j < xs.length
      · rw [if_pos ⟨by omega, by omega⟩, if_pos ⟨by omega, by omega⟩]; simp
      · rw [if_neg (by omega), if_neg (by omega)]
  | a :: r, o + 1, x :: xs, j, h => by
    simp only [setAt]
    cases j with
    | zero => simp
    | succ j =>
      have := setAt_get r o (x :: xs) j (by simp at h ⊢; omega)
      simp only [List.getElem?_cons_succ, this]
      by_cases hj : o ≤ j ∧ j < o + (x :: xs).length
      · rw [if_pos hj, if_pos ⟨by omega, by omega⟩, show j + 1 - (o + 1) = j - o by omega]
      · rw [if_neg hj, if_neg (by omega)]
theorem setAt_length {α : Type} : ∀ (l : List α) (o : Nat) (xs : List α), (setAt l o xs).length = l.length
  | l, o, [] => by simp [setAt]
  | [], o, x :: xs => by simp [setAt]
  | a :: r, 0, x :: xs => by simp [setAt, setAt_length r 0 xs]
  | a :: r, o + 1, x :: xs => by simp [setAt, setAt_length r o (x :: xs)]

/-- The cells of a value that is known to be storable. -/
theorem cells_sound {v : V} {x : Value} (h : VR w ow ρ v x) (hs : v.storable = true) :
    x.cells.size = v.cells.length ∧ (∀ j, j < x.cells.size → (x.cells.getD j undef).oneCell' = true) ∧ ∀ j u, v.cells[j]? = some u → VR w ow ρ u (x.cells.getD j undef) := by
  have one : ∀ (y : Value) (u : V), y.cells = #[y] → y.oneCell' = true → VR w ow ρ u y →
      y.cells.size = [u].length ∧ (∀ j, j < y.cells.size → (y.cells.getD j undef).oneCell' = true) ∧ ∀ j t, [u][j]? = some t → VR w ow ρ t (y.cells.getD j undef) := by
    intro y u hc ho hv
    rw [hc]
    refine ⟨rfl, fun j hj => ?_, fun j t hj => ?_⟩
    · have : j = 0 := by simp at hj; exact hj
      subst this; simpa using ho
    · cases j with
      | zero => simp at hj; subst hj; simpa using hv
      | succ j => simp at hj
  cases h with
  | any => cases hs
  | tup => cases hs
  | d h => exact one _ _ h.cells1 h.oneCell (.d h)
  | ref h1 h2 => exact one _ _ rfl rfl (.ref h1 h2)
  | osl0 h1 h2 => exact one _ _ rfl rfl (.osl0 h1 h2)
  | osl h1 h2 h3 => exact one _ _ rfl rfl (.osl h1 h2 h3)
  | rp v h1 h2 h3 h4 => exact one _ _ rfl rfl (.rp v h1 h2 h3 h4)
  | agg h1 h2 h3 => exact ⟨h1, h2, h3⟩
  | fn h1 h3 => exact one _ _ rfl rfl (.fn h1 h3)

/-- A list of values over an array of cells. -/
structure ListR (w : World) (ow : Nat → Prop) (ρ : Env) (vs : List V) (cs : Array Value) : Prop where
  size : cs.size = vs.length
  one : ∀ j, j < cs.size → (cs.getD j undef).oneCell' = true
  vals : ∀ j u, vs[j]? = some u → VR w ow ρ u (cs.getD j undef)

theorem foldl_set : ∀ (l : List Value) (o i : Nat) (cs : Array Value), o + i + l.length ≤ cs.size →
    ((l.zipIdx i).foldl (fun cs (x : Value × Nat) => cs.setIfInBounds (o + x.2) x.1) cs).size = cs.size ∧
    ∀ j, ((l.zipIdx i).foldl (fun cs (x : Value × Nat) => cs.setIfInBounds (o + x.2) x.1) cs).getD j undef = if o + i ≤ j ∧ j < o + i + l.length then l.getD (j - (o + i)) undef else cs.getD j undef
  | [], o, i, cs, h => by
    refine ⟨rfl, fun j => ?_⟩
    have : ¬ (o + i ≤ j ∧ j < o + i + ([] : List Value).length) := by simp
    rw [if_neg this]; rfl
  | v :: r, o, i, cs, h => by
    simp only [List.zipIdx_cons, List.foldl_cons, List.length_cons] at *
    obtain ⟨h1, h2⟩ := foldl_set r o (i + 1) (cs.setIfInBounds (o + i) v) (by simp; omega)
    refine ⟨by rw [h1]; simp, fun j => ?_⟩
    rw [h2 j]
    by_cases hj : j = o + i
    · subst hj
      rw [if_neg (by omega), if_pos ⟨by omega, by omega⟩]
      simp [Array.getD_eq_getD_getElem?, show o + i < cs.size by omega]
    · by_cases hj2 : o + (i + 1) ≤ j ∧ j < o + (i + 1) + r.length
      · rw [if_pos hj2, if_pos ⟨by omega, by omega⟩]
        rw [show j - (o + i) = (j - (o + (i + 1))) + 1 by omega]
        simp
      · rw [if_neg hj2, if_neg (by omega)]
        simp [Array.getD_eq_getD_getElem?, show ¬ o + i = j by omega]

theorem ListR.set {vs us : List V} {cs ds : Array Value} (h : ListR w ow ρ vs cs) (k : ListR w ow ρ us ds) (o : Nat) (ho : o + us.length ≤ vs.length) :
    ListR w ow ρ (setAt vs o us) (ds.zipIdx.foldl (fun cs (c, j) => cs.setIfInBounds (o + j) c) cs) := by
  have e : ds.zipIdx.foldl (fun cs (x : Value × Nat) => cs.setIfInBounds (o + x.2) x.1) cs = (ds.toList.zipIdx 0).foldl (fun cs (x : Value × Nat) => cs.setIfInBounds (o + x.2) x.1) cs := by
    rw [← Array.foldl_toList, Array.toList_zipIdx]
  have hsz := h.size
  have ksz := k.size
  obtain ⟨h1, h2⟩ := foldl_set ds.toList o 0 cs (by simp; omega)
  show ListR w ow ρ (setAt vs o us) (ds.zipIdx.foldl (fun cs (x : Value × Nat) => cs.setIfInBounds (o + x.2) x.1) cs)
  rw [e]
  refine ⟨by rw [h1, setAt_length]; exact h.size, fun j hj => ?_, fun j u hj => ?_⟩
  · rw [h1] at hj
    rw [h2]
    by_cases hh : o + 0 ≤ j ∧ j < o + 0 + ds.toList.length
    · rw [if_pos hh]
      have := k.one (j - (o + 0)) (by simp at hh; omega)
      simpa using this
    · rw [if_neg hh]; exact h.one j hj
  · rw [setAt_get _ _ _ _ ho] at hj
    rw [h2]
    have hl : ds.toList.length = us.length := by simpa using ksz
    by_cases hc : o ≤ j ∧ j < o + us.length
    · rw [if_pos hc] at hj
      rw [if_pos (by omega)]
      have := k.vals _ _ hj
      simpa using this
    · rw [if_neg hc] at hj
      rw [if_neg (by omega)]
      exact h.vals _ _ hj

theorem cells_list {v : V} {x : Value} (h : VR w ow ρ v x) (hs : v.storable = true) : ListR w ow ρ v.cells x.cells := by
  obtain ⟨h1, h2, h3⟩ := cells_sound h hs
  exact ⟨h1, h2, h3⟩

theorem field_at {fields : Array Field} {f : Nat} {t o : Nat} (h : (fields.toList.map fun f => (f.type, f.offset))[f]? = some (t, o)) : ∃ fld, fields[f]? = some fld ∧ fld.type = t ∧ fld.offset = o := by
  rw [List.getElem?_map] at h
  obtain ⟨fld, h1, h2⟩ := Option.map_eq_some_iff.1 h
  simp only [Prod.mk.injEq] at h2
  exact ⟨fld, by simpa using h1, h2.1, h2.2⟩

theorem fill_sound (hT : TOk P tb) {fields : Array Field} {fs : List (TypeId × Nat)} (hfs : fs = fields.toList.map fun f => (f.type, f.offset)) (places : Array (Nat × Nat))
    (hpl : places.size = fields.size ∧ ∀ (i : Nat) (fld : Field), fields[i]? = some fld → ∀ ti, tb.find fld.type = some ti → places[i]? = some (fld.offset, ti.size)) :
    ∀ (pv : List (Nat × V)) (pr : List (Nat × Value)) (vs : List V) (cs : Array Value) (out : List V),
      pv.map (·.1) = pr.map (·.1) → (∀ (j : Nat) (x : Nat × V) (y : Nat × Value), pv[j]? = some x → pr[j]? = some y → VR w ow ρ x.2 y.2) → ListR w ow ρ vs cs → fillV fs tb vs pv = some out →
      ∃ ds, Instr.fill (places[·]?) cs pr = some ds ∧ ListR w ow ρ out ds
  | [], [], vs, cs, out, _, _, hl, h => by simp only [fillV, Option.some.injEq] at h; subst h; exact ⟨cs, rfl, hl⟩
  | [], _ :: _, _, _, _, h, _, _, _ => by simp at h
  | _ :: _, [], _, _, _, h, _, _, _ => by simp at h
  | (i, v) :: pv, (i', y) :: pr, vs, cs, out, hk, hr, hl, h => by
    simp only [List.map_cons, List.cons.injEq] at hk
    obtain ⟨rfl, hk⟩ := hk
    simp only [fillV] at h
    split at h
    · rename_i t o hf
      rw [hfs] at hf
      obtain ⟨fld, hfld, rfl, rfl⟩ := field_at hf
      split at h
      · rename_i ti hti
        split at h
        · rename_i hb1 hb2
          simp only [Bool.and_eq_true] at hb1
          have hb2 := Nat.le_of_ble_eq_true hb2
          have hsz := Nat.eq_of_beq_eq_true hb1.2
          have hv : VR w ow ρ v y := hr 0 (i, v) (i, y) rfl rfl
          have hcl := cells_list hv hb1.1
          have hp := hpl.2 i fld hfld ti hti
          have hs' := hcl.size
          have hls := hl.size
          obtain ⟨ds, h1, h2⟩ := fill_sound hT hfs places hpl pv pr (setAt vs fld.offset v.cells) _ out hk (fun j x y hx hy => hr (j + 1) x y (by simpa using hx) (by simpa using hy)) (hl.set hcl fld.offset (by omega)) h
          refine ⟨ds, ?_, h2⟩
          simp only [Instr.fill, hp]
          rw [if_neg (by simp; omega)]
          exact h1
        · cases h
      · cases h
    · cases h

/-! ### The operations, one by one -/
theorem rowsV_sound {sz : Nat} : ∀ (i : Nat) (pv : List (Nat × V)) (pr : List (Nat × Value)) (rs : List (List D)) (zs : Array Value) (m : Nat),
    pv.map (·.1) = pr.map (·.1) → (∀ (j : Nat) (x : Nat × V) (y : Nat × Value), pv[j]? = some x → pr[j]? = some y → VR w ow ρ x.2 y.2) → rowsV sz i pv = some rs → zs.size = m * sz → i + rs.length ≤ m →
    ∃ ds, Instr.fill (fun i => some (i * sz, sz)) zs pr = some ds ∧ ds.size = zs.size ∧ (∀ k r, rs[k]? = some r → r.length = sz ∧ ∀ j d, r[j]? = some d → DR w ow d (ds.getD ((i + k) * sz + j) undef)) ∧
      ∀ j, j < i * sz → ds.getD j undef = zs.getD j undef
  | i, [], [], rs, zs, m, _, _, h, hz, hm => by
    simp only [rowsV, Option.some.injEq] at h; subst h
    exact ⟨zs, rfl, rfl, fun k r hk => by simp at hk, fun _ _ => rfl⟩
  | i, [], _ :: _, _, _, _, h, _, _, _, _ => by simp at h
  | i, _ :: _, [], _, _, _, h, _, _, _, _ => by simp at h
  | i, (k, v) :: pv, (k', y) :: pr, rs, zs, m, hk, hr, h, hz, hm => by
    simp only [List.map_cons, List.cons.injEq] at hk
    obtain ⟨rfl, hk⟩ := hk
    simp only [rowsV] at h
    split at h
    · rename_i ds hb1 hds
      have hki := Nat.eq_of_beq_eq_true hb1
      subst hki
      split at h
      · rename_i rs' hb2 hrs'
        simp only [Option.some.injEq] at h
        subst h
        have hlen := Nat.eq_of_beq_eq_true hb2
        simp only [List.length_cons] at hm
        have hv : VR w ow ρ v y := hr 0 (k, v) (k, y) rfl rfl
        have hst : v.storable = true := by
          cases v <;> simp [V.cells, toDs] at hds <;> rfl
        have hcl := cells_list hv hst
        have hdl : ∀ (l : List V) (es : List D), toDs l = some es → es.length = l.length ∧ ∀ (j : Nat) (d : D), es[j]? = some d → l[j]? = some (V.d d) := by
          intro l
          induction l with
          | nil => intro es he; simp [toDs] at he; subst he; exact ⟨rfl, fun j d h => by simp at h⟩
          | cons u r ih =>
            intro es he
            cases u <;> simp only [toDs] at he <;> first | cases he | skip
            rename_i d0
            split at he
            · rename_i xs hxs
              simp only [Option.some.injEq] at he; subst he
              obtain ⟨i1, i2⟩ := ih xs hxs
              refine ⟨by simp [i1], fun j d hj => ?_⟩
              cases j with
              | zero => simp at hj; subst hj; simp
              | succ j => simpa using i2 j d (by simpa using hj)
            · cases he
        obtain ⟨e1, e2⟩ := hdl _ _ hds
        have hsize : y.cells.size = sz := by rw [hcl.size, ← e1, hlen]
        have hmul : k * sz + sz ≤ m * sz := by
          have : (k + 1) * sz ≤ m * sz := Nat.mul_le_mul_right _ (by omega)
          rw [Nat.add_mul] at this; omega
        have hfs := foldl_set y.cells.toList (k * sz) 0 zs (by simp; omega)
        have e : y.cells.zipIdx.foldl (fun cs (x : Value × Nat) => cs.setIfInBounds (k * sz + x.2) x.1) zs = (y.cells.toList.zipIdx 0).foldl (fun cs (x : Value × Nat) => cs.setIfInBounds (k * sz + x.2) x.1) zs := by
          rw [← Array.foldl_toList, Array.toList_zipIdx]
        obtain ⟨ds', h1, h2, h3, h4⟩ := rowsV_sound (k + 1) pv pr rs' (y.cells.zipIdx.foldl (fun cs (x : Value × Nat) => cs.setIfInBounds (k * sz + x.2) x.1) zs) m hk
          (fun j x y hx hy => hr (j + 1) x y (by simpa using hx) (by simpa using hy)) hrs' (by rw [e, hfs.1]; exact hz) (by omega)
        have hz2 : ∀ j, j < (k + 1) * sz → ds'.getD j undef = if k * sz + 0 ≤ j ∧ j < k * sz + 0 + y.cells.toList.length then y.cells.toList.getD (j - (k * sz + 0)) undef else zs.getD j undef := by
          intro j hj
          rw [h4 j hj, e, hfs.2]
        have hmul2 : (k + 1) * sz = k * sz + sz := by rw [Nat.add_mul]; omega
        refine ⟨ds', ?_, by rw [h2, e, hfs.1], fun q r hq => ?_, fun j hj => ?_⟩
        · simp only [Instr.fill]
          rw [if_neg (by simp; omega)]
          exact h1
        · cases q with
          | zero =>
            simp at hq; subst hq
            refine ⟨hlen, fun j d hj => ?_⟩
            have hjl : j < sz := by
              have := (List.getElem?_eq_some_iff.1 hj).1; omega
            rw [Nat.add_zero, hz2 _ (by omega), if_pos (by simp; omega)]
            have := hcl.vals j _ (e2 j d hj)
            cases this with | d this =>
            rw [show k * sz + j - (k * sz + 0) = j by omega]
            simpa using this
          | succ q =>
            have := h3 q r (by simpa using hq)
            rw [show k + (q + 1) = k + 1 + q by omega]
            exact this
        · rw [hz2 j (by omega), if_neg (by omega)]
      · cases h
    · cases h

end Go.Ab
namespace Go.Ab
open Go.RowKit
variable {P : Program} {tb : Tb} {w : World} {ow : Nat → Prop} {ρ : Env} {a : Act} {ev : List (Nat × Bool) → Operand → V} {blk : Nat → Option Blk} {sc : Prop → Prop} {K : V → Prop}

theorem VR.int_inv {k n v} (h : VR w ow ρ (.d (.int k n)) v) : v = .int k n := by cases h with | d h => cases h; rfl
theorem VR.bool_inv {b v} (h : VR w ow ρ (.d (.bool b)) v) : v = .bool b := by cases h with | d h => cases h; rfl
theorem VR.str_inv {s v} (h : VR w ow ρ (.d (.str s)) v) : v = .string s := by cases h with | d h => cases h; rfl

theorem VR.ref_inv {id row off v} (h : VR w ow ρ (.ref id row off) v) : v = .pointer (some ⟨(ρ id).b, (ρ id).o + row * (ρ id).sz + off, none⟩) ∧ (ρ id).ph = false ∧ row < (ρ id).n := by
  cases h with | ref h1 h2 => exact ⟨rfl, h1, h2⟩
theorem VR.rp_inv {cells v} (h : VR w ow ρ (.rp cells) v) : ∃ (b o : Nat) (vals : Nat → Value), v = .pointer (some ⟨b, o, none⟩) ∧ ¬ ow b ∧ b < w.heap.size ∧ (∀ j d, cells[j]? = some d → w.cell? ⟨b, o + j, none⟩ = some (vals j)) ∧
    (∀ j d, cells[j]? = some d → DR w ow d (vals j)) := by
  cases h with | rp vals h1 h2 h3 h4 => exact ⟨_, _, vals, rfl, h1, h2, h3, h4⟩
theorem VR.osl_inv {id off len v} (h : VR w ow ρ (.osl id off len) v) : ∃ ad c, v = .slice ad len c ∧ off + len ≤ (ρ id).n ∧
    ((len = 0 ∧ c = 0) ∨ ((ρ id).ph = false ∧ (ρ id).n ≤ (ρ id).cap ∧ ad = some ⟨(ρ id).b, (ρ id).o + off * (ρ id).sz, none⟩ ∧ c = (ρ id).cap - off)) := by
  cases h with
  | osl0 h1 h2 => subst h1; exact ⟨_, _, rfl, by omega, .inl ⟨rfl, rfl⟩⟩
  | osl h1 h2 h3 => exact ⟨_, _, rfl, h2, .inr ⟨h1, h3, rfl, rfl⟩⟩
theorem VR.sl_inv {n row v} (h : VR w ow ρ (.d (.sl n row)) v) : ∃ ad c, v = .slice ad n c ∧ (n = 0 ∨ ∃ (b o sz : Nat) (vals : Nat → Nat → Value), ad = some ⟨b, o, none⟩ ∧ ¬ ow b ∧ b < w.heap.size ∧ (∀ i, i < n → (row i).length = sz) ∧
    (∀ i j d, i < n → (row i)[j]? = some d → w.cell? ⟨b, o + i * sz + j, none⟩ = some (vals i j)) ∧ (∀ i j d, i < n → (row i)[j]? = some d → DR w ow d (vals i j))) := by
  cases h with | d h =>
  cases h with
  | sl0 h => subst h; exact ⟨_, _, rfl, .inl rfl⟩
  | sl vals h1 h2 h3 h4 h5 => exact ⟨_, _, rfl, .inr ⟨_, _, _, vals, rfl, h1, h2, h3, h4, h5⟩⟩
theorem VR.tup_inv {vs v} (h : VR w ow ρ (.tup vs) v) : ∃ cs, v = .tuple cs ∧ cs.size = vs.length ∧ ∀ j u, vs[j]? = some u → VR w ow ρ u (cs.getD j undef) := by
  cases h with | tup h1 h2 => exact ⟨_, rfl, h1, h2⟩

theorem pick_run {c x y : Operand} {p : Bool} {dst ty pos after guard} (h : a.eval c = .bool p) (w : World) :
    (execOp a.eval ⟨dst, .pick c x y, ty, pos, after, guard⟩).run P w = .ok (.value (if p then a.eval x else a.eval y)) w := by
  simp only [execOp, h, asBool]; rfl

theorem fieldAt_run {s f : Nat} {fields : Array Field} {fld : Field} {b o : Nat} {tf} (hu : P.underlying s = some (.struct fields)) (hf : fields[f]? = some fld) (ht : TIok P fld.type tf) (hs : tf.size ≠ 0) (w : World) :
    (Instr.fieldAt s (.pointer (some ⟨b, o, none⟩)) f).run P w = .ok (.pointer (some ⟨b, o + fld.offset, none⟩)) w := by
  simp [Instr.fieldAt, run_underlying hu, hf, Instr.sureAddr, fieldPlace, sizeOf_run ht, hs, Addr.add_mid]

theorem indexAt_run {t e : Nat} {te} (hu : P.underlying t = some (.slice e)) (ht : TIok P e te) {b o len cap : Nat} {k : IntKind} {i : Int} (h0 : 0 ≤ i) (h1 : i < len) (w : World) :
    (Instr.indexAt t (.slice (some ⟨b, o, none⟩) len cap) (.int k i)).run P w = .ok (.pointer (some ⟨b, o + i.toNat * te.size, none⟩)) w := by
  simp [Instr.indexAt, asIntOf, run_underlying hu, h0, h1, sizeOf_run ht, Addr.add_mid]

theorem foldVR {vs : List Operand} (hev : EvR w ow ρ a ev) : ∀ j v, (vs.map (ev []))[j]? = some v → VR w ow ρ v ((vs.toArray.map a.eval).getD j undef) := by
  intro j v hj
  rw [List.getElem?_map] at hj
  obtain ⟨x, hx, rfl⟩ := Option.map_eq_some_iff.1 hj
  have : (vs.toArray.map a.eval).getD j undef = a.eval x := by simp [hx]
  rw [this]
  exact hev.at x

theorem build_run {t : Nat} {ti fds} (hT : TOk P tb) (hti : tb.find t = some ti) (hk : ti.kind = .struct fds) (parts : Array (Nat × Value)) {pv : List (Nat × V)} {out : List V}
    (hpk : pv.map (·.1) = parts.toList.map (·.1)) (hpr : ∀ (j : Nat) (x : Nat × V) (y : Nat × Value), pv[j]? = some x → parts.toList[j]? = some y → VR w ow ρ x.2 y.2)
    (h : fillV fds tb (ti.zero.map .d) pv = some out) : ∃ cs, (Instr.build t parts).run P w = .ok (.agg cs) w ∧ ListR w ow ρ out cs := by
  obtain ⟨i, z, hi, hs, _, hz, hzs, hzl, hzr⟩ := (hT.ok _ _ hti).info
  obtain ⟨fields, hu, hfs, _⟩ := kind_struct (hT.ok _ _ hti) hk
  have hpl : ∃ places : Array (Nat × Nat), (fields.mapM (fun f => (do pure (f.offset, ← sizeOf f.type) : Sem (Nat × Nat)))).run P w = .ok places w ∧ places.size = fields.size ∧
      ∀ (i : Nat) (fld : Field), fields[i]? = some fld → ∀ tf, tb.find fld.type = some tf → places[i]? = some (fld.offset, tf.size) := by
    have key : ∀ (l : List Field), (∀ f ∈ l, (P.info? f.type).isSome = true) → ∃ pl : List (Nat × Nat), (l.mapM (fun f => (do pure (f.offset, ← sizeOf f.type) : Sem (Nat × Nat)))).run P w = .ok pl w ∧ pl.length = l.length ∧
        ∀ (i : Nat) (fld : Field), l[i]? = some fld → ∀ tf, tb.find fld.type = some tf → pl[i]? = some (fld.offset, tf.size) := by
      intro l
      induction l with
      | nil => intro _; exact ⟨[], rfl, rfl, fun i f h => by simp at h⟩
      | cons f r ih =>
        intro hsome
        obtain ⟨pl, h1, h2, h3⟩ := ih fun g hg => hsome g (by simp [hg])
        obtain ⟨fi, hfi⟩ := Option.isSome_iff_exists.1 (hsome f (by simp))
        refine ⟨(f.offset, fi.size) :: pl, ?_, by simp [h2], fun i fld hf tf' htf' => ?_⟩
        · have hsf : (sizeOf f.type).run P w = .ok fi.size w := by simp [sizeOf, typeInfo, hfi]
          simp only [List.mapM_cons, Sem.run_bind, hsf, Result.andThen_ok, Sem.run_pure, h1]
        · cases i with
          | zero =>
            simp at hf; subst hf
            obtain ⟨i', z', hi', hs', _⟩ := (hT.ok _ _ htf').info
            rw [hfi] at hi'; cases hi'
            simp [hs']
          | succ i => simpa using h3 i fld (by simpa using hf) tf' htf'
    obtain ⟨pl, h1, h2, h3⟩ := key fields.toList ((hT.ok _ _ hti).flds fields hu)
    refine ⟨pl.toArray, ?_, by simp [h2], fun i fld hf tf htf => by simpa using h3 i fld (by simpa using hf) tf htf⟩
    rw [Array.mapM_eq_mapM_toList, Sem.run_map, h1]
    rfl
  obtain ⟨places, hp1, hp2, hp3⟩ := hpl
  have hl0 : ListR w ow ρ (ti.zero.map .d) z.cells := by
    refine ⟨by rw [hzs, List.length_map, hzl], fun j hj => ?_, fun j u hj => ?_⟩
    · exact (hzr w ow j _ (List.getElem?_eq_getElem (by omega))).oneCell
    · rw [List.getElem?_map] at hj
      obtain ⟨d, hd, rfl⟩ := Option.map_eq_some_iff.1 hj
      exact .d (hzr w ow j d hd)
  obtain ⟨ds, h1, h2⟩ := fill_sound hT hfs places ⟨hp2, hp3⟩ pv parts.toList _ _ out hpk hpr hl0 h
  refine ⟨ds, ?_, h2⟩
  simp only [Instr.build, zeroValue, typeInfo, Sem.run_bind, run_program, Result.andThen_ok, hi, hz, run_underlying hu, hp1, h1, Sem.run_pure]

theorem buildSlice_run {t e : Nat} {te ti} (hT : TOk P tb) (hti : tb.find t = some ti) (hk : ti.kind = .slice e) (hte : tb.find e = some te) (len : Nat) (parts : Array (Nat × Value)) {pv : List (Nat × V)} {rs : List (List D)}
    (hpk : pv.map (·.1) = parts.toList.map (·.1)) (hpr : ∀ (j : Nat) (x : Nat × V) (y : Nat × Value), pv[j]? = some x → parts.toList[j]? = some y → VR w ow ρ x.2 y.2)
    (h : rowsV te.size 0 pv = some rs) (hl : rs.length = len) (hb : len * te.size ≤ 1000000) :
    ∃ C, (Instr.buildSlice t len parts).run P w = .ok (.slice (some ⟨w.heap.size, 0, none⟩) len len) (w.alloc (.cells C e)) ∧ C.size = len * te.size ∧
      ∀ i, i < len → (rowAt rs i).length = te.size ∧ ∀ j d, (rowAt rs i)[j]? = some d → DR w ow d (C.getD (i * te.size + j) undef) := by
  obtain ⟨i, z, hi, hs, _, hz, hzs, hzl, hzr⟩ := (hT.ok _ _ hte).info
  have hu := kind_slice (hT.ok _ _ hti) hk
  have hfin : ∀ zs : Array Value, zs.size = len * te.size → ∃ C, Instr.fill (fun i => some (i * te.size, te.size)) zs parts.toList = some C ∧ C.size = len * te.size ∧
      ∀ i, i < len → (rowAt rs i).length = te.size ∧ ∀ j d, (rowAt rs i)[j]? = some d → DR w ow d (C.getD (i * te.size + j) undef) := by
    intro zs hzs
    obtain ⟨ds, h1, h2, h3, _⟩ := rowsV_sound 0 pv parts.toList rs zs len hpk hpr h hzs (by omega)
    refine ⟨ds, h1, by omega, fun i hi => ?_⟩
    have hri : rs[i]? = some rs[i] := List.getElem?_eq_getElem (by omega)
    have := h3 i _ hri
    simp only [rowAt, hri]
    simpa using this
  have hbig : ¬ (len * te.size > 2 ^ 24) := by
    have : (2 : Nat) ^ 24 = 16777216 := by decide
    omega
  by_cases h0 : len * te.size = 0
  · obtain ⟨C, h1, h2, h3⟩ := hfin ((Array.range (len * te.size)).map ((#[] : Array Value)[· % (#[] : Array Value).size]!)) (by simp)
    refine ⟨C, ?_, h2, h3⟩
    rw [h0] at h1
    simp [Instr.buildSlice, run_underlying hu, sizeOf_run (hT.ok _ _ hte), h0, newRow] at h1 ⊢
    simp [h1]
  · obtain ⟨C, h1, h2, h3⟩ := hfin ((Array.range (len * te.size)).map (z.cells[· % z.cells.size]!)) (by simp)
    refine ⟨C, ?_, h2, h3⟩
    simp [Instr.buildSlice, run_underlying hu, sizeOf_run (hT.ok _ _ hte), hbig, h0, newRow, zeroValue, typeInfo, hi, hz] at h1 ⊢
    simp [h1]

theorem ListR.agg {vs cs} (h : ListR w ow ρ vs cs) : VR w ow ρ (.agg vs) (.agg cs) := .agg h.size h.one h.vals

theorem parts_keys (hev : EvR w ow ρ a ev) (parts : Array (Nat × Operand)) :
    (parts.toList.map fun p => (p.1, ev [] p.2)).map (·.1) = (parts.map fun (i, x) => (i, a.eval x)).toList.map (·.1) ∧
    ∀ (j : Nat) (x : Nat × V) (y : Nat × Value), (parts.toList.map fun p => (p.1, ev [] p.2))[j]? = some x → (parts.map fun (i, x) => (i, a.eval x)).toList[j]? = some y → VR w ow ρ x.2 y.2 := by
  refine ⟨by simp, fun j x y hx hy => ?_⟩
  rw [List.getElem?_map] at hx
  rw [Array.toList_map, List.getElem?_map] at hy
  obtain ⟨p, hp, rfl⟩ := Option.map_eq_some_iff.1 hx
  obtain ⟨q, hq, rfl⟩ := Option.map_eq_some_iff.1 hy
  rw [hp] at hq; cases hq
  exact hev.at _

/-- THE PURE OPERATIONS: what the evaluator takes for the value is true of what the model comes to. -/
theorem evP_sound (hT : TOk P tb) (hev : EvR w ow ρ a ev) (hb : ∀ id b, blk id = some b → BR w ow ρ id b) (how : ∀ b, ow b → b < w.heap.size) (hsc : ∀ p, sc p → p) (o : Oper)
    (h : evP tb ev blk sc o.op K) : ∃ v w' x, (execOp a.eval o).run P w = .ok (.value v) w' ∧ Pure w w' ∧ VR w' ow ρ x v ∧ K x := by
  obtain ⟨dst, op, ty, pos, after, guard⟩ := o
  have fin : ∀ {r : Sem Value}, RunsTo P w ow ρ r K → (∀ w', (execOp a.eval ⟨dst, op, ty, pos, after, guard⟩).run P w' = ((r >>= fun v => (pure (.value v) : Sem Next)).run P w')) →
      ∃ v w' x, (execOp a.eval ⟨dst, op, ty, pos, after, guard⟩).run P w = .ok (.value v) w' ∧ Pure w w' ∧ VR w' ow ρ x v ∧ K x := by
    intro r ⟨v, w', x, h1, h2, h3, h4⟩ he
    exact ⟨v, w', x, by rw [he, Sem.run_bind, h1]; rfl, h2, h3, h4⟩
  cases op <;> simp only [evP] at h <;> first | exact h.no.elim | skip
  case move x =>
    rw [forceV_eq] at h
    exact ⟨a.eval x, w, _, rfl, .refl w, hev.at x, h⟩
  case assign x =>
    rw [forceV_eq] at h
    exact ⟨a.eval x, w, _, rfl, .refl w, hev.at x, h⟩
  case pick c x y =>
    split at h
    · rename_i p hp
      have hc := (hev.eq hp).bool_inv
      split at h
      · rename_i tc
        split at h
        · rename_i q hq
          have hkey : a.tmps.getD tc undef = .bool p := hc
          refine ⟨_, w, _, pick_run hc w, .refl w, ?_, h⟩
          cases p with
          | false => exact .d .bool
          | true =>
            have hx := hev.h [(tc, true)] x (fun k g hm => by simp at hm; obtain ⟨rfl, rfl⟩ := hm; exact hkey)
            rw [hq] at hx
            exact hx
        · exact h.no.elim
      · rename_i tc _
        split at h
        · rename_i q hq
          have hkey : a.tmps.getD tc undef = .bool p := hc
          refine ⟨_, w, _, pick_run hc w, .refl w, ?_, h⟩
          cases p with
          | true => exact .d .bool
          | false =>
            have hx := hev.h [(tc, false)] y (fun k g hm => by simp at hm; obtain ⟨rfl, rfl⟩ := hm; exact hkey)
            rw [hq] at hx
            exact hx
        · exact h.no.elim
      · exact h.no.elim
    · exact h.no.elim
  case build t parts =>
    split at h
    · rename_i fds s by' z q hti
      split at h
      · rename_i cs hcs
        rw [forceVL_eq] at h
        obtain ⟨hk, hr⟩ := parts_keys hev parts
        obtain ⟨ds, h1, h2⟩ := build_run (P := P) (w := w) (ow := ow) (ρ := ρ) hT hti rfl (parts.map fun (i, x) => (i, a.eval x)) hk hr hcs
        exact fin (.same h1 h2.agg h) fun w' => rfl
      · exact h.no.elim
    · exact h.no.elim
  case buildSlice t len parts =>
    split at h
    · rename_i e s by' z q hti
      split at h
      · rename_i te hte
        split at h
        · rename_i rs hrs hle
          split at h
          · rename_i hlen
            have hlen := Nat.eq_of_beq_eq_true hlen
            obtain ⟨hk, hr⟩ := parts_keys hev parts
            obtain ⟨C, h1, h2, h3⟩ := buildSlice_run (P := P) (w := w) (ow := ow) (ρ := ρ) hT hti rfl hte len (parts.map fun (i, x) => (i, a.eval x)) hk hr hrs hlen (Nat.le_of_ble_eq_true hle)
            have hpure := Pure.alloc w (.cells C e)
            refine fin ⟨_, _, _, h1, hpure, ?_, h⟩ fun w' => rfl
            refine .d (.sl (sz := te.size) (fun i j => C.getD (i * te.size + j) undef) (fun ho => by have := how _ ho; omega) (by simp) (fun i hi => (h3 i hi).1) (fun i j d hi hd => ?_) fun i j d hi hd => ((h3 i hi).2 j d hd).keep (hpure.keep _))
            have hj : j < te.size := by have := (List.getElem?_eq_some_iff.1 hd).1; have := (h3 i hi).1; omega
            have hsz : 0 + i * te.size + j < C.size := by
              rw [h2]
              have : (i + 1) * te.size ≤ len * te.size := Nat.mul_le_mul_right _ (by omega)
              rw [Nat.add_mul] at this; omega
            have := cell_of (w := w.alloc (.cells C e)) (b := w.heap.size) (o := 0 + i * te.size + j) (heap_alloc_new w _) hsz
            rw [this]; simp
          · exact h.no.elim
        · exact h.no.elim
      · exact h.no.elim
    · exact h.no.elim
  case load t x =>
    split at h
    · rename_i ti hti
      obtain ⟨v, y, h1, h2, h3⟩ := evLoad_sound (hT.ok _ _ hti) hb (hev.at x) h
      exact fin (.same h1 h2 h3) fun w' => rfl
    · exact h.no.elim
  case nilCheck x =>
    split at h
    · rename_i i r o hx
      obtain ⟨h1, h2, h3⟩ := (hev.eq hx).ref_inv
      exact ⟨_, w, _, by simp only [execOp, h1]; rfl, .refl w, .ref h2 h3, h⟩
    · rename_i cs hx
      obtain ⟨b, o, vals, h1, h2, h3, h4, h5⟩ := (hev.eq hx).rp_inv
      exact ⟨_, w, _, by simp only [execOp, h1]; rfl, .refl w, .rp vals h2 h3 h4 h5, h⟩
    · exact h.no.elim
  case binOp op t x y ty =>
    split at h
    · rename_i k m k' n hx hy
      have hx := (hev.eq hx).int_inv
      have hy := (hev.eq hy).int_inv
      split at h
      · rename_i hk
        have hk : k = k' := by simpa using hk
        subst hk
        refine fin (evInt_sound (t := t) hsc h) fun w' => ?_
        simp only [execOp, hx, hy, eqGuard_at_int, pure_bind]
      · exact h.no.elim
    · rename_i b c hx hy
      have hx := (hev.eq hx).bool_inv
      have hy := (hev.eq hy).bool_inv
      split at h
      · rename_i s by' z q hti
        refine fin (.same (v := .bool (b == c)) (run_eql_bool w t b c (kind_bool (hT.ok _ _ hti) rfl)) (.d .bool) h) fun w' => ?_
        simp only [execOp, hx, hy, eqGuard_at_bool, pure_bind]
      · rename_i s by' z q hti
        refine fin (.same (v := .bool (!(b == c))) ?_ (.d .bool) h) (r := binOp .neq t (.bool b) (.bool c)) fun w' => ?_
        · simp only [binOp]
          simp [run_equal_bool w t b c (kind_bool (hT.ok _ _ hti) rfl)]
        · simp only [execOp, hx, hy, eqGuard_at_bool, pure_bind]
      · exact h.no.elim
    · rename_i vs us hx hy
      obtain ⟨cs, h1, h2, h3, h4⟩ := (hev.eq hx).agg_inv
      obtain ⟨ds, h5, h6, h7, h8⟩ := (hev.eq hy).agg_inv
      split at h
      · rename_i fs s by' z hti
        have he : ∀ e, eqT tb 9 t vs us = some e → (Op.equalIn 10000 t (.agg cs) (.agg ds)).run P w = .ok e w := fun e he =>
          eqT_sound (w := w) (ow := ow) (ρ := ρ) hT 9 10000 (by omega) t _ vs us e _ _ w hti he ⟨cs, rfl, h2, h4⟩ ⟨ds, rfl, h6, h8⟩
        have hg := run_eqGuard_agg (P := P) w op t x y cs ds ((hT.ok _ _ hti).eq rfl).2
        split at h
        · rename_i e hq
          refine fin (.same (v := .bool e) ?_ (.d .bool) h) (r := do eqGuard .eql t x y (a.eval x) (a.eval y); binOp .eql t (a.eval x) (a.eval y)) fun w' => rfl
          rw [h1, h5, Sem.run_bind, hg, Result.andThen_ok, run_eql_struct, he _ hq]; rfl
        · rename_i e hq
          refine fin (.same (v := .bool !e) ?_ (.d .bool) h) (r := do eqGuard .neq t x y (a.eval x) (a.eval y); binOp .neq t (a.eval x) (a.eval y)) fun w' => rfl
          rw [h1, h5, Sem.run_bind, hg, Result.andThen_ok, run_neq_struct, he _ hq]; rfl
        · exact h.no.elim
      · exact h.no.elim
    · rename_i s t' hx hy
      have hx := (hev.eq hx).str_inv
      have hy := (hev.eq hy).str_inv
      split at h
      · refine fin (.same (v := .bool (s == t')) ?_ (.d .bool) h) (r := binOp .eql t (.string s) (.string t')) fun w' => ?_
        · simp [binOp, Op.stringOp, beq_toListBytes]
        · simp only [execOp, hx, hy, eqGuard_at_string, pure_bind]
      · refine fin (.same (v := .bool !(s == t')) ?_ (.d .bool) h) (r := binOp .neq t (.string s) (.string t')) fun w' => ?_
        · simp [binOp, Op.stringOp, beq_toListBytes]
        · simp only [execOp, hx, hy, eqGuard_at_string, pure_bind]
      · exact h.no.elim
    · exact h.no.elim
  case unOp op ty x =>
    split at h
    · rename_i b hx
      have hx := (hev.eq hx).bool_inv
      exact fin (.same (v := .bool !b) (by simp [Op.unary]) (.d .bool) h) (r := Op.unary .not (.bool b)) fun w' => by simp only [execOp, hx]
    · rename_i k n hx
      have hx := (hev.eq hx).int_inv
      exact fin (.same (v := .int k (k.wrap (0 - n))) (by simp [Op.unary, Op.intArith]) (.d .int) h) (r := Op.unary .neg (.int k n)) fun w' => by simp only [execOp, hx]
    · exact h.no.elim
  case convert s t x =>
    split at h
    · rename_i ti k s' by' z q k' n hs ht hx
      have hx := (hev.eq hx).int_inv
      obtain ⟨d, hd, _⟩ := (hT.ok _ _ hs).kind
      have hu := kind_int (hT.ok _ _ ht) rfl
      refine fin (.same (v := .int k (k.wrap n)) ?_ (.d .int) h) (r := convert s t (.int k' n)) fun w' => by simp only [execOp, hx]
      simp [convert, run_underlying hd, run_underlying hu, Conv.intToInt]
    · exact h.no.elim
  case makeFunc f first captured =>
    split at h
    · rename_i f hf
      rw [forceVL_eq] at h
      have hf0 : first = #[] := by simpa using hf
      subst hf0
      refine fin (.same (v := .func (.func f) #[] (captured.map a.eval)) rfl ?_ h) (r := Instr.makeFunc (.func f) #[] (captured.map a.eval)) fun w' => by simp [execOp]
      refine .fn (by simp) fun j v hj => ?_
      have := foldVR hev j v hj
      simpa using this
    · exact h.no.elim
  case fieldAddr s x f =>
    split at h
    · rename_i fs s' by' z q hti
      obtain ⟨fields, hu, hfs, _⟩ := kind_struct (hT.ok _ _ hti) rfl
      split at h
      · rename_i t o i r off hf hx
        rw [hfs] at hf
        obtain ⟨fld, hfld, rfl, rfl⟩ := field_at hf
        obtain ⟨h1, h2, h3⟩ := (hev.eq hx).ref_inv
        split at h
        · rename_i kd m by2 z2 q2 htf
          refine fin (.same (fieldAt_run hu hfld (hT.ok _ _ htf) (by simp) w) ?_ h) (r := Instr.fieldAt s (.pointer (some ⟨(ρ i).b, (ρ i).o + r * (ρ i).sz + off, none⟩)) f) fun w' => by simp only [execOp, h1]
          rw [show (ρ i).o + r * (ρ i).sz + off + fld.offset = (ρ i).o + r * (ρ i).sz + (off + fld.offset) by omega]
          exact .ref h2 h3
        · exact h.no.elim
      · rename_i t o cs hf hx
        rw [hfs] at hf
        obtain ⟨fld, hfld, rfl, rfl⟩ := field_at hf
        obtain ⟨b, o, vals, h1, h2, h3, h4, h5⟩ := (hev.eq hx).rp_inv
        split at h
        · rename_i kd m by2 z2 q2 htf
          rw [forceDL_eq] at h
          refine fin (.same (fieldAt_run hu hfld (hT.ok _ _ htf) (by simp) w) ?_ h) (r := Instr.fieldAt s (.pointer (some ⟨b, o, none⟩)) f) fun w' => by simp only [execOp, h1]
          refine .rp (fun j => vals (fld.offset + j)) h2 h3 (fun j d hj => ?_) fun j d hj => ?_
          · rw [List.getElem?_drop] at hj; rw [Nat.add_assoc]; exact h4 _ _ hj
          · rw [List.getElem?_drop] at hj; exact h5 _ _ hj
        · exact h.no.elim
      · exact h.no.elim
    · exact h.no.elim
  case field s x f =>
    split at h
    · rename_i fs s' by' z q hti
      obtain ⟨fields, hu, hfs, _⟩ := kind_struct (hT.ok _ _ hti) rfl
      split at h
      · rename_i t o vs hf hx
        rw [hfs] at hf
        obtain ⟨fld, hfld, rfl, rfl⟩ := field_at hf
        obtain ⟨cs, h1, h2, h3, h4⟩ := (hev.eq hx).agg_inv
        split at h
        · rename_i tf htf
          split at h
          · rename_i hle
            have hle := Nat.le_of_ble_eq_true hle
            rw [forceV_eq] at h
            obtain ⟨v, h5, h6⟩ := part_sound (P := P) (w := w) (ow := ow) (ρ := ρ) (hT.ok _ _ htf) h2 h4 fld.offset hle
            refine fin (.same (v := v) ?_ (ofCells_rep (hT.ok _ _ htf) fld.offset h6 fun hk ds hds j hj => ?_) h) (r := Instr.field s (.agg cs) f) fun w' => by simp only [execOp, h1]
            · simp [Instr.field, run_underlying hu, hfld, asAgg, h5]
            · have h5' := h5 w
              unfold part at h5'
              rw [Sem.run_bind, isAgg_run (hT.ok _ _ htf)] at h5'
              rw [hk] at h5'
              simp [sizeOf_run (hT.ok _ _ htf), hds] at h5'
              subst h5'
              simp at hj
              have := h3 (fld.offset + j) (by omega)
              rw [Array.getD_eq_getD_getElem?, Array.getElem?_extract, if_pos (by omega), ← Array.getD_eq_getD_getElem?]; exact this
          · exact h.no.elim
        · exact h.no.elim
      · exact h.no.elim
    · exact h.no.elim
  case indexAddr t x i =>
    split at h
    · rename_i e s' by' z q hti
      have hu := kind_slice (hT.ok _ _ hti) rfl
      split at h
      · rename_i te id off len k n hte hx hi
        have hi := (hev.eq hi).int_inv
        obtain ⟨ad, c, h1, h2, h3⟩ := (hev.eq hx).osl_inv
        split at h
        · rename_i t' sz n' row hblk
          split at h
          · rename_i hsz
            have hsz := Nat.eq_of_beq_eq_true hsz
            obtain ⟨hsc1, h⟩ := h
            have hr := hsc _ hsc1
            rcases h3 with ⟨h3, _⟩ | ⟨h3, h4, h5, h6⟩
            · omega
            · have hszr : (ρ id).sz = sz := by
                cases hb _ _ hblk with
                | arr0 _ h _ _ => exact h
                | arr _ _ _ h => exact h
              subst h5
              refine fin (.same (indexAt_run hu (hT.ok _ _ hte) hr.1 hr.2 w) ?_ h) (r := Instr.indexAt t (.slice (some ⟨(ρ id).b, (ρ id).o + off * (ρ id).sz, none⟩) len c) (.int k n)) fun w' => by simp only [execOp, h1, hi]
              rw [show (ρ id).o + off * (ρ id).sz + n.toNat * te.size = (ρ id).o + (off + n.toNat) * (ρ id).sz + 0 by rw [hszr, hsz, Nat.add_mul]; omega]
              exact .ref h3 (by omega)
          · exact h.no.elim
        · exact h.no.elim
      · rename_i te len row k n hte hx hi
        have hi := (hev.eq hi).int_inv
        obtain ⟨ad, c, h1, h2⟩ := (hev.eq hx).sl_inv
        obtain ⟨hsc1, h⟩ := h
        have hr := hsc _ hsc1
        rw [forceDL_eq] at h
        split at h
        · rename_i hsz
          have hsz := Nat.eq_of_beq_eq_true hsz
          rcases h2 with h2 | ⟨b, o, sz, vals, rfl, h3, h4, h5, h6, h7⟩
          · omega
          · have hlen := h5 n.toNat (by omega)
            refine fin (.same (indexAt_run hu (hT.ok _ _ hte) hr.1 hr.2 w) ?_ h) (r := Instr.indexAt t (.slice (some ⟨b, o, none⟩) len c) (.int k n)) fun w' => by simp only [execOp, h1, hi]
            refine .rp (fun j => vals n.toNat j) h3 h4 (fun j d hj => ?_) fun j d hj => h7 n.toNat j d (by omega) hj
            rw [hsz, hlen]
            exact h6 n.toNat j d (by omega) hj
        · exact h.no.elim
      · exact h.no.elim
    · exact h.no.elim
  case extract x i =>
    split at h
    · rename_i vs hx
      obtain ⟨cs, h1, h2, h3⟩ := (hev.eq hx).tup_inv
      split at h
      · rename_i v hv
        rw [forceV_eq] at h
        have hlt : i < cs.size := by have := (List.getElem?_eq_some_iff.1 hv).1; omega
        refine fin (.same (v := cs.getD i undef) ?_ (h3 i v hv) h) (r := Instr.extract (.tuple cs) i) fun w' => by simp only [execOp, h1]
        simp [Instr.extract, hlt]
      · exact h.no.elim
    · exact h.no.elim
  case call c =>
    split at h
    · rename_i hcal
      split at h
      · rename_i x t hargs htys
        have hargs : c.args = #[x] := by apply Array.ext'; simpa using hargs
        have htys : c.argTypes = #[t] := by apply Array.ext'; simpa using htys
        have hrun : ∀ w', (execOp a.eval ⟨dst, .call c, ty, pos, after, guard⟩).run P w' = ((Builtin.len_ #[t] ty #[a.eval x] >>= fun v => (pure (.value v) : Sem Next)).run P w') := fun w' => by
          simp only [execOp, resolve, hcal, hargs, htys, pure_bind, invoke, builtin, List.map_toArray, List.map_cons, List.map_nil]
        split at h
        · rename_i e s' by' z q id off l hti hx
          obtain ⟨ad, c', h1, h2, h3⟩ := (hev.eq hx).osl_inv
          exact fin (.same (v := .int .i64 l) (by simp [Builtin.len_, run_underlying (kind_slice (hT.ok _ _ hti) rfl), h1, goInt]) (.d .int) h) hrun
        · rename_i e s' by' z q n row hti hx
          obtain ⟨ad, c', h1, h2⟩ := (hev.eq hx).sl_inv
          exact fin (.same (v := .int .i64 n) (by simp [Builtin.len_, run_underlying (kind_slice (hT.ok _ _ hti) rfl), h1, goInt]) (.d .int) h) hrun
        · rename_i e s' by' z q hti hx
          have h1 : a.eval x = .slice none 0 0 := by
            have := hev.eq hx
            cases this with | d this => generalize a.eval x = y at *; cases this; rfl
          exact fin (.same (v := .int .i64 0) (by simp [Builtin.len_, run_underlying (kind_slice (hT.ok _ _ hti) rfl), h1, goInt]) (.d .int) h) hrun
        · rename_i s' by' z q st hti hx
          have h1 := (hev.eq hx).str_inv
          exact fin (.same (v := .int .i64 st.size) (by simp [Builtin.len_, run_underlying (kind_str (hT.ok _ _ hti) rfl), h1, goInt]) (.d .int) h) hrun
        · exact h.no.elim
      · exact h.no.elim
    · exact h.no.elim

end Go.Ab
namespace Go.Ab
open Go.RowKit
variable {P : Program} {tb : Tb} {w : World} {ow : Nat → Prop} {ρ : Env} {a : Act} {B : Nat} {w0 : World} {F : List (Array Value)} {S : St}

/-- The relation, what is owned being told apart. -/
structure SimO (ow : Nat → Prop) (B : Nat) (w0 : World) (F : List (Array Value)) (ρ : Env) (S : St) (a : Act) (w : World) : Prop where
  below : Below B w0 w
  hB : B ≤ w.heap.size
  defers : a.defers = []
  nt : a.tmps.size = S.nt
  top : FrR w ow ρ ⟨S.tmps, S.gds⟩ a.tmps
  blks : ∀ id b, look S.blks id = some b → BR w ow ρ id b
  sep : ∀ i j x y, look S.blks i = some x → look S.blks j = some y → (ρ i).ph = false → (ρ j).ph = false → (ρ i).b = (ρ j).b → i = j
  ge : ∀ i x, look S.blks i = some x → (ρ i).ph = false → B ≤ (ρ i).b
  frames : S.frames.length = F.length ∧ ∀ (i : Nat) (f : Fr) (tm : Array Value), S.frames[i]? = some f → F[i]? = some tm → FrR w ow ρ f tm

theorem Sim.o (h : Sim B w0 F ρ S a w) : SimO (own S.blks ρ) B w0 F ρ S a w := ⟨h.below, h.hB, h.defers, h.nt, h.top, h.blks, h.sep, h.ge, h.frames⟩
theorem SimO.sim (h : SimO (own S.blks ρ) B w0 F ρ S a w) : Sim B w0 F ρ S a w := ⟨h.below, h.hB, h.defers, h.nt, h.top, h.blks, h.sep, h.ge, h.frames⟩

def Env.set (ρ : Env) (id : Nat) (l : Loc) : Env := fun i => if i = id then l else ρ i
theorem Env.set_same {ρ : Env} {id l} : ρ.set id l id = l := by simp [Env.set]
theorem Env.set_other {ρ : Env} {id l i} (h : i ≠ id) : ρ.set id l i = ρ i := by simp [Env.set, h]

theorem look_cons {α : Type} {l : List (Nat × α)} {i j : Nat} {x y : α} (h : look ((i, x) :: l) j = some y) : (i = j ∧ x = y) ∨ (i ≠ j ∧ look l j = some y) := by
  simp only [look] at h
  split at h
  · rename_i hb; cases h; exact .inl ⟨Nat.eq_of_beq_eq_true hb, rfl⟩
  · rename_i hb; exact .inr ⟨fun e => by subst e; simp at hb, h⟩
theorem look_same {α : Type} {l : List (Nat × α)} {i : Nat} {x : α} : look ((i, x) :: l) i = some x := by simp [look]
theorem look_other {α : Type} {l : List (Nat × α)} {i j : Nat} {x : α} (h : i ≠ j) : look ((i, x) :: l) j = look l j := by
  have hb : Nat.beq i j = false := by cases hb : Nat.beq i j; rfl; exact absurd (Nat.eq_of_beq_eq_true hb) h
  simp [look, hb]

theorem St.mentions_parts {S : St} {id : Nat} (h : S.mentions id = false) : mentionsT id S.tmps = false ∧ mentionsG id S.gds = false ∧ mentionsB id S.blks = false ∧ mentionsF id S.frames = false := by
  unfold St.mentions at h
  split at h
  · cases h
  · rename_i h1
    split at h
    · cases h
    · rename_i h2
      split at h
      · cases h
      · rename_i h3
        exact ⟨h1, h2, h3, h⟩

theorem ne_of_mentions {id : Nat} {i : Nat} {p : Nat → Bool} (h : p id = false) (hi : p i = true) : i ≠ id := fun e => by subst e; rw [h] at hi; cases hi

/-- A block comes (or is made anew): nothing names it yet. -/
theorem sim_new {id : Nat} {blk : Blk} {loc : Loc} {w' : World} (h : SimO ow B w0 F ρ S a w) (hm : S.mentions id = false) (hown : ∀ b, own S.blks ρ b → ow b) (hsz : w.heap.size ≤ w'.heap.size)
    (hold : ∀ b, b < w.heap.size → (¬ ow b ∨ own S.blks ρ b) → w'.heap[b]? = w.heap[b]?) (hlow : ∀ b, b < B → w'.heap[b]? = w.heap[b]?)
    (hfresh : loc.ph = false → w.heap.size ≤ loc.b ∨ (ow loc.b ∧ ¬ own S.blks ρ loc.b)) (hge : loc.ph = false → B ≤ loc.b) (hos : w'.os = w.os) (htape : w'.tape = w.tape) (hout : w'.output = w.output)
    (hbr : Keep w ow w' (own ((id, blk) :: S.blks) (ρ.set id loc)) → BR w' (own ((id, blk) :: S.blks) (ρ.set id loc)) (ρ.set id loc) id blk) :
    Sim B w0 F (ρ.set id loc) ⟨S.base, S.nt, S.tmps, S.gds, (id, blk) :: S.blks, S.frames⟩ a w' := by
  obtain ⟨m1, m2, m3, m4⟩ := St.mentions_parts hm
  have hne : ∀ i k, look S.blks i = some k → i ≠ id := fun i k hk e => by
    subst e; have := mentionsB_of (id := i) hk (.inl rfl); rw [m3] at this; cases this
  have hown' : ∀ b, own ((id, blk) :: S.blks) (ρ.set id loc) b → (loc.ph = false ∧ loc.b = b) ∨ own S.blks ρ b := by
    rintro b ⟨i, k, hk, hp, rfl⟩
    rcases look_cons hk with ⟨rfl, _⟩ | ⟨hn, hk⟩
    · rw [Env.set_same] at hp ⊢; exact .inl ⟨hp, rfl⟩
    · rw [Env.set_other (Ne.symm hn)] at hp ⊢; exact .inr ⟨i, k, hk, hp, rfl⟩
  have keep : Keep w ow w' (own ((id, blk) :: S.blks) (ρ.set id loc)) := ⟨hsz, fun b hb ho => ⟨hold b hb (.inl ho), fun ho' => by
    rcases hown' b ho' with ⟨h1, rfl⟩ | h2
    · rcases hfresh h1 with h3 | h3
      · omega
      · exact ho h3.1
    · exact ho (hown b h2)⟩⟩
  have hr : ∀ i, i ≠ id → ρ.set id loc i = ρ i := fun i hi => Env.set_other hi
  refine ⟨⟨hos.trans h.below.os, htape.trans h.below.tape, hout.trans h.below.output, Nat.le_trans h.below.size hsz, fun k hk => (hlow k hk).trans (h.below.block k hk)⟩, Nat.le_trans h.hB hsz, h.defers, h.nt, ?_, ?_, ?_, ?_, h.frames.1, ?_⟩
  · exact h.top.keep keep fun i hi => hr i (by rcases hi with hi | hi; exact ne_of_mentions (p := fun i => mentionsT i S.tmps) m1 hi; exact ne_of_mentions (p := fun i => mentionsG i S.gds) m2 hi)
  · intro i b hb
    rcases look_cons hb with ⟨rfl, rfl⟩ | ⟨hn, hb0⟩
    · exact hbr keep
    · refine (h.blks i b hb0).keep keep (hr i (Ne.symm hn)) (fun hp => hold _ ((h.blks i b hb0).lt hp) (.inr ⟨i, b, hb0, hp, rfl⟩)) fun j hj => hr j fun e => ?_
      subst e
      have : mentionsB j S.blks = true := mentionsB_of (id := j) hb0 (.inr hj)
      rw [m3] at this; cases this
  · intro i j x y hx hy hpi hpj hij
    rcases look_cons hx with ⟨rfl, _⟩ | ⟨hn, hx⟩ <;> rcases look_cons hy with ⟨rfl, _⟩ | ⟨hn', hy⟩
    · rfl
    · rw [Env.set_same] at hpi hij; rw [Env.set_other (Ne.symm hn')] at hpj hij
      rcases hfresh hpi with h3 | h3
      · have := (h.blks j y hy).lt hpj; omega
      · exact absurd ⟨j, y, hy, hpj, hij.symm⟩ h3.2
    · rw [Env.set_same] at hpj hij; rw [Env.set_other (Ne.symm hn)] at hpi hij
      rcases hfresh hpj with h3 | h3
      · have := (h.blks i x hx).lt hpi; omega
      · exact absurd ⟨i, x, hx, hpi, hij⟩ h3.2
    · rw [Env.set_other (Ne.symm hn)] at hpi hij; rw [Env.set_other (Ne.symm hn')] at hpj hij
      exact h.sep i j x y hx hy hpi hpj hij
  · intro i x hx hp
    rcases look_cons hx with ⟨rfl, _⟩ | ⟨hn, hx⟩
    · rw [Env.set_same] at hp ⊢; exact hge hp
    · rw [Env.set_other (Ne.symm hn)] at hp ⊢; exact h.ge i x hx hp
  · intro i f tm hf ht
    refine (h.frames.2 i f tm hf ht).keep keep fun j hj => hr j fun e => ?_
    subst e
    have := mentionsF_of (id := j) hf hj
    rw [m4] at this; cases this

/-- A new block of cells. -/
theorem sim_alloc {id : Nat} {blk : Blk} {loc : Loc} (h : Sim B w0 F ρ S a w) (hm : S.mentions id = false) (C : Array Value) (t : TypeId) (hb : loc.b = w.heap.size)
    (hbr : ∀ ow', Keep w (own S.blks ρ) (w.alloc (.cells C t)) ow' → BR (w.alloc (.cells C t)) ow' (ρ.set id loc) id blk) :
    Sim B w0 F (ρ.set id loc) ⟨S.base, S.nt, S.tmps, S.gds, (id, blk) :: S.blks, S.frames⟩ a (w.alloc (.cells C t)) :=
  sim_new h.o hm (fun _ h => h) (by simp) (fun b hb _ => Below.heap_alloc w _ b hb) (fun b hb => Below.heap_alloc w _ b (Nat.lt_of_lt_of_le hb h.hB)) (fun _ => .inl (by omega)) (fun _ => by have := h.hB; omega) rfl rfl rfl fun k => hbr _ k

/-! ### Forgetting -/
theorem look_map {α β : Type} (f : α → β) : ∀ (l : List (Nat × α)) (t : Nat), look (l.map fun p => (p.1, f p.2)) t = (look l t).map f
  | [], t => rfl
  | (u, v) :: r, t => by
    simp only [List.map_cons, look]
    split
    · rfl
    · exact look_map f r t

theorem FrR.kill {f : Fr} {tm : Array Value} (h : FrR w ow ρ f tm) (id : Nat) : FrR w ow ρ ⟨killT id f.tmps, killG id f.gds⟩ tm := by
  refine ⟨fun t v hv => ?_, fun g hg => ?_⟩
  · simp only [killT] at hv
    rw [look_map (V.kill id)] at hv
    obtain ⟨u, hu, rfl⟩ := Option.map_eq_some_iff.1 hv
    exact (h.tmps t u hu).kill id
  · simp only [killG] at hg
    obtain ⟨g0, hg0, rfl⟩ := List.mem_map.1 hg
    rcases (h.gds g0 hg0).h with h1 | h1
    · exact ⟨.inl ⟨h1.1, h1.2.kill id⟩⟩
    · exact ⟨.inr h1⟩

theorem look_killB {id : Nat} : ∀ {bs : List (Nat × Blk)} {i : Nat} {b : Blk}, look (killB id bs) i = some b → i ≠ id ∧ ∃ b0, look bs i = some b0 ∧ b = b0.kill id
  | (u, x) :: r, i, b, h => by
    simp only [killB] at h
    split at h
    · rename_i hb
      have := Nat.eq_of_beq_eq_true hb
      subst this
      obtain ⟨h1, b0, h2, h3⟩ := look_killB h
      exact ⟨h1, b0, by rw [look_other (Ne.symm h1)]; exact h2, h3⟩
    · rename_i hb
      rcases look_cons h with ⟨rfl, rfl⟩ | ⟨hn, h⟩
      · exact ⟨fun e => by subst e; simp at hb, x, look_same, rfl⟩
      · obtain ⟨h1, b0, h2, h3⟩ := look_killB h
        exact ⟨h1, b0, by rw [look_other hn]; exact h2, h3⟩
  | [], _, _, h => by simp [killB, look] at h

theorem BR.kill {i : Nat} {b : Blk} (h : BR w ow ρ i b) (id : Nat) : BR w ow ρ i (b.kill id) := by
  cases h with
  | box C h1 h2 h3 h4 h5 h6 h7 h8 =>
    refine .box C h1 h2 (by rw [killL_length]; exact h3) h4 h5 (by rw [killL_length]; exact h6) h7 fun j v hj => ?_
    rw [killL_get] at hj
    obtain ⟨u, hu, rfl⟩ := Option.map_eq_some_iff.1 hj
    exact (h8 j u hu).kill id
  | arr0 h1 h2 h3 h4 => exact .arr0 h1 h2 h3 h4
  | arr C et h1 h2 h3 h4 h5 h6 h7 h8 => exact .arr C et h1 h2 h3 h4 h5 h6 h7 h8

theorem simO_kill (h : SimO ow B w0 F ρ S a w) (id : Nat) : SimO ow B w0 F ρ ⟨S.base, S.nt, killT id S.tmps, killG id S.gds, killB id S.blks, killF id S.frames⟩ a w := by
  refine ⟨h.below, h.hB, h.defers, h.nt, h.top.kill id, ?_, ?_, ?_, ?_, ?_⟩
  · intro i b hb
    obtain ⟨_, b0, h2, rfl⟩ := look_killB hb
    exact (h.blks i b0 h2).kill id
  · intro i j x y hx hy
    obtain ⟨_, x0, hx0, _⟩ := look_killB hx
    obtain ⟨_, y0, hy0, _⟩ := look_killB hy
    exact h.sep i j x0 y0 hx0 hy0
  · intro i x hx
    obtain ⟨_, x0, hx0, _⟩ := look_killB hx
    exact h.ge i x0 hx0
  · simpa [killF] using h.frames.1
  · intro i f tm hf ht
    simp only [killF, List.getElem?_map] at hf
    obtain ⟨f0, hf0, rfl⟩ := Option.map_eq_some_iff.1 hf
    exact (h.frames.2 i f0 tm hf0 ht).kill id

theorem mentionsT_kill (id : Nat) (ts : List (Nat × V)) : mentionsT id (killT id ts) = false := by
  induction ts with
  | nil => rfl
  | cons p r ih =>
    have : (p.2.kill id).mentions id = false := by
      cases h : (p.2.kill id).mentions id
      · rfl
      · exact absurd rfl (V.kill_mentions id id p.2 h).1
    simp only [killT, List.map_cons, mentionsT, this]
    exact ih
theorem mentionsG_kill (id : Nat) (gs : List Gd) : mentionsG id (killG id gs) = false := by
  induction gs with
  | nil => rfl
  | cons p r ih =>
    have : (p.v.kill id).mentions id = false := by
      cases h : (p.v.kill id).mentions id
      · rfl
      · exact absurd rfl (V.kill_mentions id id p.v h).1
    simp only [killG, List.map_cons, mentionsG, this]
    exact ih
theorem mentionsB_kill (id : Nat) (bs : List (Nat × Blk)) : mentionsB id (killB id bs) = false := by
  induction bs with
  | nil => rfl
  | cons p r ih =>
    obtain ⟨i, b⟩ := p
    simp only [killB]
    split
    · exact ih
    · rename_i hb
      have : (b.kill id).mentions id = false := by
        cases b with
        | arr => rfl
        | box t cs =>
          simp only [Blk.kill, Blk.mentions]
          cases h : mentionsL id (killL id cs)
          · rfl
          · exact absurd rfl (killL_mentions id id cs h).1
      simp only [mentionsB, hb, this]
      exact ih
theorem mentionsF_kill (id : Nat) (fs : List Fr) : mentionsF id (killF id fs) = false := by
  induction fs with
  | nil => rfl
  | cons p r ih =>
    simp only [killF, List.map_cons, mentionsF, mentionsT_kill, mentionsG_kill]
    exact ih
theorem St.kill_mentions (S : St) (id : Nat) : St.mentions ⟨S.base, S.nt, killT id S.tmps, killG id S.gds, killB id S.blks, killF id S.frames⟩ id = false := by
  simp [St.mentions, mentionsT_kill, mentionsG_kill, mentionsB_kill, mentionsF_kill]

/-! ### Writing into a block -/
theorem look_updB {id : Nat} {x : Blk} : ∀ {bs : List (Nat × Blk)} {i : Nat} {b : Blk}, look (updB bs id x) i = some b → (i = id ∧ b = x ∧ ∃ b0, look bs id = some b0) ∨ (i ≠ id ∧ look bs i = some b)
  | (u, y) :: r, i, b, h => by
    simp only [updB] at h
    split at h
    · rename_i hb
      have := Nat.eq_of_beq_eq_true hb
      subst this
      rcases look_cons h with ⟨rfl, rfl⟩ | ⟨hn, h⟩
      · exact .inl ⟨rfl, rfl, y, look_same⟩
      · exact .inr ⟨Ne.symm hn, by rw [look_other hn]; exact h⟩
    · rename_i hb
      have hne : u ≠ id := fun e => by subst e; simp at hb
      rcases look_cons h with ⟨rfl, rfl⟩ | ⟨hn, h⟩
      · exact .inr ⟨hne, look_same⟩
      · rcases look_updB h with ⟨h1, h2, b0, h3⟩ | ⟨h1, h2⟩
        · exact .inl ⟨h1, h2, b0, by rw [look_other hne]; exact h3⟩
        · exact .inr ⟨h1, by rw [look_other hn]; exact h2⟩
  | [], _, _, h => by simp [updB, look] at h

theorem own_updB {id : Nat} {x b0 : Blk} {bs : List (Nat × Blk)} (h0 : look bs id = some b0) {b : Nat} : own (updB bs id x) ρ b → own bs ρ b := by
  rintro ⟨i, k, hk, hp, rfl⟩
  rcases look_updB hk with ⟨rfl, _⟩ | ⟨_, hk⟩
  · exact ⟨i, b0, h0, hp, rfl⟩
  · exact ⟨i, k, hk, hp, rfl⟩

/-- Cells of a block of the call's own are written. -/
theorem sim_write {id : Nat} {b0 blk : Blk} (h : Sim B w0 F ρ S a w) (h0 : look S.blks id = some b0) (hp : (ρ id).ph = false) (C : Array Value)
    (hbr : ∀ ow', Keep w (own S.blks ρ) (w.setRow (ρ id).b C) ow' → BR (w.setRow (ρ id).b C) ow' ρ id blk) :
    Sim B w0 F ρ ⟨S.base, S.nt, S.tmps, S.gds, updB S.blks id blk, S.frames⟩ a (w.setRow (ρ id).b C) := by
  have hoth : ∀ b, b ≠ (ρ id).b → (w.setRow (ρ id).b C).heap[b]? = w.heap[b]? := fun b hb => setRow_other w _ b C hb
  have keep : Keep w (own S.blks ρ) (w.setRow (ρ id).b C) (own (updB S.blks id blk) ρ) := ⟨by simp, fun b hb ho => ⟨hoth b fun e => ho ⟨id, b0, h0, hp, e.symm⟩, fun ho' => ho (own_updB h0 ho')⟩⟩
  have hge := h.ge id b0 h0 hp
  refine ⟨⟨h.below.os, h.below.tape, h.below.output, by simpa using h.below.size, fun k hk => (hoth k (by omega)).trans (h.below.block k hk)⟩, by simpa using h.hB, h.defers, h.nt, h.top.keep keep fun _ _ => rfl, ?_, ?_, ?_, h.frames.1,
    fun i f tm hf ht => (h.frames.2 i f tm hf ht).keep keep fun _ _ => rfl⟩
  · intro i b hb
    rcases look_updB hb with ⟨rfl, rfl, _⟩ | ⟨hn, hb⟩
    · exact hbr _ keep
    · exact (h.blks i b hb).keep keep rfl (fun hpi => hoth _ fun e => hn (h.sep i id b b0 hb h0 hpi hp e)) fun _ _ => rfl
  · intro i j x y hx hy
    have lift : ∀ i x, look (updB S.blks id blk) i = some x → ∃ x0, look S.blks i = some x0 := fun i x hx => by
      rcases look_updB hx with ⟨rfl, _, b, hb⟩ | ⟨_, hb⟩
      · exact ⟨b, hb⟩
      · exact ⟨x, hb⟩
    obtain ⟨x0, hx0⟩ := lift i x hx
    obtain ⟨y0, hy0⟩ := lift j y hy
    exact h.sep i j x0 y0 hx0 hy0
  · intro i x hx
    rcases look_updB hx with ⟨rfl, _, b, hb⟩ | ⟨_, hb⟩
    · exact h.ge i b hb
    · exact h.ge i x hb

/-! ### Operands, slots -/
theorem ofAtom_sound (v : Value) : VR w ow ρ (ofAtom v) v := by
  unfold ofAtom
  split
  · exact .d .int
  · exact .d .bool
  · exact .d .str
  · exact .d .nil
  · exact .d (.zn (z := .ptr))
  · exact .d (.zn (z := .func))
  · exact .d (.zn (z := .iface))
  · exact .d (.zn (z := .map))
  · exact .any

end Go.Ab
