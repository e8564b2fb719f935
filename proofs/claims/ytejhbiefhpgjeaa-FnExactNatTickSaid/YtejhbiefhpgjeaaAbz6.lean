/-
  Models and walks beside them; plain facts on loops: a part of the frame in which a given row's proof walks the program; no condition.
-/
import Derived.Test.YtejhbiefhpgjeaaAbz5
import Derived.Test.YtejhbiefhpgjeaaAbz2
set_option linter.all false
namespace Go.Ab
open Go.RowKit
variable {P:Program} {tb:Tb} {S:St} {α β σ:Type}
open Classical in
noncomputable def gd (c:Prop) (m:Option α):Option α := if c then m else none
theorem gd_some {c:Prop} {m:Option α} {r:α} (h:gd c m = some r):c ∧ m = some r := by
  unfold gd at h; split at h
  · exact ⟨‹_›,h⟩
  · cases h
theorem gd_pos {c:Prop} {m:Option α} (h:c):gd c m = m := if_pos h
def bd (m:Option α) (k:α → Option β):Option β := match m with
  | some x => k x
  | none => none
theorem bd_some {m:Option α} {k:α → Option β} {r:β} (h:bd m k = some r):∃ x,m = some x ∧ k x = some r := by
  cases m with
  | none => cases h
  | some x => exact ⟨x,rfl,h⟩
@[simp] theorem bd_val {x:α} {k:α → Option β}:bd (some x) k = k x := rfl
theorem bd_of {m:Option α} {x:α} {k:α → Option β} (h:m = some x):bd m k = k x := by rw [h]; rfl
theorem ite_t {b:Bool} {x y:Option α} {r:α} (h:(if b = true then x else y) = some r) (e:b = true):x = some r := by rwa [if_pos e] at h
theorem ite_f {b:Bool} {x y:Option α} {r:α} (h:(if b = true then x else y) = some r) (e:b = false):y = some r := by rwa [if_neg (by rw [e]; decide)] at h
open Classical in
noncomputable def gcall (c:Prop) [Inhabited α] (m:Option α):Option α := if c then m else some default
theorem gcall_pos {c:Prop} [Inhabited α] {m:Option α} (h:c):gcall c m = m := if_pos h
theorem gcall_neg {c:Prop} [Inhabited α] {m:Option α} (h:¬ c):gcall c m = some default := if_neg h
theorem gcall_some {c:Prop} [Inhabited α] {m:Option α} {x:α} (h:gcall c m = some x) (hc:c):m = some x := by rwa [gcall,if_pos hc] at h
def lpN (step:σ → Option (σ ⊕ β)):Nat → σ → Option β
  | 0,_ => none
  | n + 1,s => match step s with
    | none => none
    | some (.inl s') => lpN step n s'
    | some (.inr b) => some b
theorem lpN_succ {step:σ → Option (σ ⊕ β)}:∀ {n:Nat} {s:σ} {b:β},lpN step n s = some b → lpN step (n + 1) s = some b
  | 0,_,_,h => by cases h
  | n + 1,s,b,h => by
    unfold lpN at h ⊢;split
    · rename_i hs; rw [hs] at h; exact h
    · rename_i s' hs; rw [hs] at h; exact lpN_succ h
    · rename_i b' hs; rw [hs] at h; exact h
theorem lpN_le {step:σ → Option (σ ⊕ β)} {n m:Nat} {s:σ} {b:β} (h:lpN step n s = some b) (hm:n ≤ m):lpN step m s = some b := by
  induction hm with
  | refl => exact h
  | step _ ih => exact lpN_succ ih
open Classical in
noncomputable def lp (step:σ → Option (σ ⊕ β)) (s:σ):Option β := if h:∃ b,∃ n,lpN step n s = some b then some (Classical.choose h) else none
theorem lp_iff {step:σ → Option (σ ⊕ β)} {s:σ} {b:β}:lp step s = some b ↔ ∃ n,lpN step n s = some b := by
  unfold lp
  constructor
  · intro h;split at h
    · rename_i hx; cases h; exact Classical.choose_spec hx
    · cases h
  · rintro ⟨n,hn⟩;have hx:∃ b,∃ n,lpN step n s = some b := ⟨b,n,hn⟩;rw [dif_pos hx];obtain ⟨m,hm⟩ := Classical.choose_spec hx;have h1 := lpN_le hn (Nat.le_max_left n m);have h2 := lpN_le hm (Nat.le_max_right n m);rw [h1] at h2
    cases h2; rfl
theorem lp_done {step:σ → Option (σ ⊕ β)} {s:σ} {b:β} (h:step s = some (.inr b)):lp step s = some b := lp_iff.2 ⟨1,by rw [lpN,h]⟩
theorem lp_more {step:σ → Option (σ ⊕ β)} {s s':σ} (h:step s = some (.inl s')):lp step s = lp step s' := by
  cases e:lp step s' with
  | some b => obtain ⟨n,hn⟩ := lp_iff.1 e; exact lp_iff.2 ⟨n + 1,by rw [lpN,h]; exact hn⟩
  | none =>
    cases e2:lp step s with
    | none => rfl
    | some b =>
      obtain ⟨n,hn⟩ := lp_iff.1 e2
      cases n with
      | zero => cases hn
      | succ n =>
        rw [lpN,h] at hn;rw [lp_iff.2 ⟨n,hn⟩] at e; cases e
theorem loop_m (hT:TOk P tb) {step:σ → Option (σ ⊕ β)} {s0:σ} {x:β} {c:Code} {Q:Exit → St → Prop} (hx:lp step s0 = some x) (shape:σ → St) (h0:LE S (shape s0))
    (round:∀ s y,step s = some y → (∀ v,y = .inr v → v = x) → wpc P tb c (shape s) fun e S' => match e with
      | .normal => ∃ s',y = .inl s' ∧ LE S' (shape s')
      | e => Q e S'):LoopP P c S Q := by
  obtain ⟨n0,hn0⟩ := lp_iff.1 hx;refine ⟨wp_le h0 fun B w0 F ρ a w hs => ?_⟩;refine wp_loop_ghost (fun n a w => ∃ s ρ,lpN step n s = some x ∧ Sim B w0 F ρ (shape s) a w) n0 ⟨s0,ρ,hn0,hs⟩ ?_;rintro n a w ⟨s,ρ,hn,hs⟩
  cases n with
  | zero => cases hn
  | succ n =>
    cases hy:step s with
    | none => rw [lpN,hy] at hn; cases hn
    | some y =>
      refine wp_mono (wpc_sound hT c _ _ (round s y hy fun v hv => by rw [lpN,hy,hv] at hn; cases hn; rfl) B w0 F ρ a w hs) ?_;rintro e a' w' ⟨ρ',S',h1,h2⟩
      cases e with
      | normal =>
        obtain ⟨s',rfl,hle⟩ := h2;obtain ⟨ρ'',h3⟩ := hle.out B w0 F ρ' a' w' h1;rw [lpN,hy] at hn;exact ⟨n,Nat.lt_succ_self n,s',ρ'',hn,h3⟩
      | _ => exact ⟨ρ',S',h1,h2⟩
variable [Inhabited α] {enc:α → List D}
theorem store_rows {xs:List α} {r off:Nat} {ds:List D} {e:α} (h:setAt (rows enc xs r) off ds = enc e):∀ i,i < xs.length → rows enc (xs.set r e) i = if i = r then setAt (rows enc xs r) off ds else rows enc xs i := by
  intro i hi;split
  · rename_i he; subst he;rw [h]; simp [rows,List.getD_eq_getElem?_getD,hi]
  · rename_i he;simp [rows,List.getD_eq_getElem?_getD,Ne.symm he]
theorem store_rows' {xs:List α} {n r off:Nat} {ds:List D} {e:α} (hn:n = xs.length) (h:setAt (rows enc xs r) off ds = enc e):∀ i,i < n → rows enc (xs.set r e) i = if i = r then setAt (rows enc xs r) off ds else rows enc xs i := by
  subst hn; exact store_rows h
theorem set_len {xs y:List α} {r:Nat} {e:α} (h:xs.set r e = y):y.length = xs.length := by rw [← h]; simp
theorem store_rows2 {xs y:List α} {n r off:Nat} {ds:List D} {e:α} (hy:xs.set r e = y) (hn:n = xs.length) (h:setAt (rows enc xs r) off ds = enc e):∀ i,i < n → rows enc y i = if i = r then setAt (rows enc xs r) off ds else rows enc xs i := by
  subst hy; exact store_rows' hn h
theorem build_rows {ys:List α}:∀ i,i < ys.length → rows enc ys i = rowAt (ys.map enc) i := by
  intro i hi;simp [rows,rowAt,List.getD_eq_getElem?_getD,hi]
theorem make_rows {n:Nat} {z:List D} (h:enc default = z):∀ i,i < (List.replicate n (default:α)).length → rows enc (List.replicate n (default:α)) i = z := by
  intro i hi;simp at hi;simp [rows,List.getD_eq_getElem?_getD,hi,h]
theorem app_rows {xs ys:List α} {n m:Nat} {r r':Nat → List D} (hn:n = xs.length) (hm:m = ys.length) (h1:∀ i,i < n → r i = rows enc xs i) (h2:∀ i,i < m → r' i = rows enc ys i) :
    ∀ i,i < (xs ++ ys).length → rows enc (xs ++ ys) i = catRow n r r' i := by
  intro i hi;subst hn hm;simp only [catRow,rows];split
  · rename_i hlt;rw [h1 i hlt]; simp [rows,List.getD_eq_getElem?_getD,List.getElem?_append_left hlt]
  · rename_i hge;rw [List.length_append] at hi;rw [h2 _ (by omega)]; simp [rows,List.getD_eq_getElem?_getD,List.getElem?_append_right (Nat.le_of_not_lt hge)]
theorem app_rows0 {ys:List α} {m:Nat} {r':Nat → List D} (hm:m = ys.length) (h2:∀ i,i < m → r' i = rows enc ys i):∀ i,i < ys.length → rows enc ys i = r' i := by
  intro i hi; subst hm; rw [h2 i hi]
theorem rows_take {xs:List α} {n:Nat}:∀ i,i < n → rows enc xs i = rows enc (xs.take n) i := by
  intro i hi;simp [rows,List.getD_eq_getElem?_getD,hi]
theorem rows_dt {xs:List α} {k n:Nat}:∀ i,i < n → rows enc xs (i + k) = rows enc ((xs.take (k + n)).drop k) i := by
  intro i hi;simp [rows,List.getD_eq_getElem?_getD,List.getElem?_drop,Nat.add_comm i k,hi]
theorem rows_vt {xs:List α} {k n:Nat}:∀ i,i < n → viewRow k (rows enc xs) i = rows enc ((xs.take (k + n)).drop k) i := by
  intro i hi;rw [viewRow_at,Nat.add_comm]; exact rows_dt i hi
theorem VLe.built {ys:List α} {rs:List (List D)} {n:Nat} (hn:n = ys.length) (h:rs = ys.map enc):VLe (.d (.sl n (rowAt rs))) (.d (slD enc ys)) :=
  VLe.rows hn fun i hi => by subst hn h; exact (build_rows i hi).symm
theorem callW {base nt:Nat} {ts:List (Nat × V)} {gs:List Gd} {bs:List (Nat × Blk)} {fs:List Fr} {f:FuncId} {args args1 args':List V} {res:V} {nb:List Nb} {K:V → St → Prop} (k:Nat) (h:PureC P f args' res nb)
    (hv:viewL (look bs) args = some args1) (hw:CellsLe args1 args') (hm:(nb.all fun b => !(St.mentions ⟨base,nt,ts,gs,bs,fs⟩ (b.id + k))) = true) (hk:forceV (res.shift k) fun v => forceB (nb.map (Nb.ent k) ++ bs) fun bs => K v ⟨base,nt,ts,gs,bs,fs⟩) :
    CallP P f args ⟨base,nt,ts,gs,bs,fs⟩ K := callC k (h.le hw) hv hm hk
mutual
def V.plain:V → Bool
  | .d _ => true
  | .any => true
  | .rp _ => true
  | .agg vs => plainL vs
  | .tup vs => plainL vs
  | .fn _ vs => plainL vs
  | _ => false
def plainL:List V → Bool
  | [] => true
  | v :: r => v.plain && plainL r
end
mutual
theorem V.plain_ment (v:V) (id:Nat) (h:v.plain = true):v.mentions id = false := by
  cases v with
  | agg vs => exact plainL_ment vs id h
  | tup vs => exact plainL_ment vs id h
  | fn f vs => exact plainL_ment vs id h
  | ref => cases h
  | osl => cases h
  | _ => rfl
theorem plainL_ment (vs:List V) (id:Nat) (h:plainL vs = true):mentionsL id vs = false := by
  cases vs with
  | nil => rfl
  | cons v r =>
    simp only [plainL,Bool.and_eq_true] at h
    simp only [mentionsL,V.plain_ment v id h.1]
    exact plainL_ment r id h.2
end
theorem callG_m {S' : St} {al l : List (Nat × Bool)} {f : FuncId} {fn : Func} {args args' : List V} {res : V} {K : V → St → Prop} {key : Nat} {want : Bool} (hf : P.funcs[f]? = some fn) (hn : (fn.name == "runtime.NumGoroutine") = false) (hb : fn.body.isNone = false)
    (hv:viewL (look S'.blks) args = some args') (hfl:flatV res = true) (hm:res.plain = true) (h:condP S al l (PureC P f args' res [])) (hk:K res S'):CallG P (condP S al l) (condN S' key want) f args S' K :=
  callG_if hf hn hb hv hfl (fun id => V.plain_ment res id hm) h hk
mutual
def V.ren (f:Nat → Nat):V → V
  | .ref i r o => .ref (f i) r o
  | .osl i o l => .osl (f i) o l
  | .agg vs => .agg (renL f vs)
  | .tup vs => .tup (renL f vs)
  | .fn g vs => .fn g (renL f vs)
  | .any => .any
  | .d x => .d x
  | .rp cs => .rp cs
def renL (f:Nat → Nat):List V → List V
  | [] => []
  | v :: r => v.ren f :: renL f r
end
theorem renL_get {f:Nat → Nat}:∀ (vs:List V) (j:Nat),(renL f vs)[j]? = (vs[j]?).map (V.ren f)
  | [],j => by simp [renL]
  | v :: r,0 => by simp [renL]
  | v :: r,j + 1 => by simpa [renL] using renL_get r j
theorem renL_length {f:Nat → Nat}:∀ (vs:List V),(renL f vs).length = vs.length
  | [] => rfl
  | v :: r => by simp [renL,renL_length r]
def Blk.ren (f:Nat → Nat):Blk → Blk
  | .box t cs => .box t (renL f cs)
  | .arr t sz n row => .arr t sz n row
def renT (f:Nat → Nat):List (Nat × V) → List (Nat × V)
  | [] => []
  | (t,v) :: r => (t,v.ren f) :: renT f r
def renG (f:Nat → Nat):List Gd → List Gd
  | [] => []
  | ⟨t,k,w,v⟩ :: r => ⟨t,k,w,v.ren f⟩ :: renG f r
def renB (f:Nat → Nat):List (Nat × Blk) → List (Nat × Blk)
  | [] => []
  | (i,b) :: r => (f i,b.ren f) :: renB f r
def renF (f:Nat → Nat):List Fr → List Fr
  | [] => []
  | ⟨ts,gs⟩ :: r => ⟨renT f ts,renG f gs⟩ :: renF f r
def St.ren (f:Nat → Nat):St → St
  | ⟨base,nt,ts,gs,bs,fs⟩ => ⟨base,nt,renT f ts,renG f gs,renB f bs,renF f fs⟩
section
variable {w:World} {ow:Nat → Prop} {ρ ρ':Env} {f:Nat → Nat}
theorem VR.ren {v x} (h:VR w ow ρ v x) (hr:∀ i,ρ' (f i) = ρ i):VR w ow ρ' (v.ren f) x := by
  induction h with
  | any => exact .any
  | d h => exact .d h
  | ref h1 h2 => rename_i id row off; rw [← hr id] at *; exact .ref h1 h2
  | osl0 h0 h1 => rename_i id off len ad; rw [← hr id] at *; exact .osl0 h0 h1
  | osl h1 h2 h3 => rename_i id off len; rw [← hr id] at *; exact .osl h1 h2 h3
  | rp vals ho hb hc hd => exact .rp vals ho hb hc hd
  | agg hs h1 hv ih =>
    refine .agg (by rw [renL_length]; exact hs) h1 fun j v hj => ?_;rw [renL_get] at hj;obtain ⟨v',hv',rfl⟩ := Option.map_eq_some_iff.1 hj;exact ih j v' hv'
  | tup hs hv ih =>
    refine .tup (by rw [renL_length]; exact hs) fun j v hj => ?_;rw [renL_get] at hj;obtain ⟨v',hv',rfl⟩ := Option.map_eq_some_iff.1 hj;exact ih j v' hv'
  | fn hs hv ih =>
    refine .fn (by rw [renL_length]; exact hs) fun j v hj => ?_;rw [renL_get] at hj;obtain ⟨v',hv',rfl⟩ := Option.map_eq_some_iff.1 hj;exact ih j v' hv'
theorem BR.ren {id:Nat} {b:Blk} (h:BR w ow ρ id b) (hr:∀ i,ρ' (f i) = ρ i):BR w ow ρ' (f id) (b.ren f) := by
  cases h with
  | box C h1 h2 h3 h4 h5 h6 h7 h8 =>
    refine .box C (by rw [hr]; exact h1) (by rw [hr]; exact h2) (by rw [hr,renL_length]; exact h3) (by rw [hr]; exact h4) (by rw [hr]; exact h5) (by rw [renL_length]; exact h6) h7 fun j v hj => ?_;rw [renL_get] at hj;obtain ⟨v',hv',rfl⟩ := Option.map_eq_some_iff.1 hj;exact (h8 j v' hv').ren hr
  | arr0 h1 h2 h3 h4 => exact .arr0 (by rw [hr]; exact h1) (by rw [hr]; exact h2) (by rw [hr]; exact h3) h4
  | arr C et h1 h2 h3 h4 h5 h6 h7 h8 => exact .arr C et (by rw [hr]; exact h1) (by rw [hr]; exact h2) (by rw [hr]; exact h3) (by rw [hr]; exact h4) h5 (by rw [hr]; exact h6) (by rw [hr]; exact h7) fun i j d hi hd => by rw [hr]; exact h8 i j d hi hd
theorem look_renT:∀ {ts:List (Nat × V)} {t:Nat} {v:V},look (renT f ts) t = some v → ∃ u,look ts t = some u ∧ v = u.ren f
  | (u,x) :: r,t,v,h => by
    rcases look_cons h with ⟨rfl,rfl⟩ | ⟨hn,h⟩
    · exact ⟨x,look_same,rfl⟩
    · obtain ⟨y,h1,h2⟩ := look_renT h;exact ⟨y,by rw [look_other hn]; exact h1,h2⟩
  | [],_,_,h => by simp [renT,look] at h
theorem mem_renG:∀ {gs:List Gd} {g:Gd},g ∈ renG f gs → ∃ g0 ∈ gs,g = ⟨g0.t,g0.key,g0.want,g0.v.ren f⟩
  | ⟨t,k,w,v⟩ :: r,g,h => by
    rcases List.mem_cons.1 h with h | h
    · exact ⟨⟨t,k,w,v⟩,by simp,h⟩
    · obtain ⟨g0,h1,h2⟩ := mem_renG h; exact ⟨g0,by simp [h1],h2⟩
  | [],_,h => by simp [renG] at h
theorem look_renB (hinj:∀ i j,f i = f j → i = j):∀ {bs:List (Nat × Blk)} {j:Nat} {b:Blk},look (renB f bs) j = some b → ∃ i c,j = f i ∧ look bs i = some c ∧ b = c.ren f
  | (u,x) :: r,j,b,h => by
    rcases look_cons h with ⟨rfl,rfl⟩ | ⟨hn,h⟩
    · exact ⟨u,x,rfl,look_same,rfl⟩
    · obtain ⟨i,c,rfl,h1,h2⟩ := look_renB hinj h;exact ⟨i,c,rfl,by rw [look_other fun e => hn (by rw [e])]; exact h1,h2⟩
  | [],_,_,h => by simp [renB,look] at h
theorem renF_get:∀ {fs:List Fr} {i:Nat} {fr:Fr},(renF f fs)[i]? = some fr → ∃ fr0,fs[i]? = some fr0 ∧ fr = ⟨renT f fr0.tmps,renG f fr0.gds⟩
  | ⟨ts,gs⟩ :: r,0,fr,h => by simp [renF] at h; exact ⟨_,rfl,h.symm⟩
  | ⟨ts,gs⟩ :: r,i + 1,fr,h => by obtain ⟨fr0,h1,h2⟩ := renF_get (fs := r) (i := i) (by simpa [renF] using h); exact ⟨fr0,by simpa using h1,h2⟩
  | [],_,_,h => by simp [renF] at h
theorem renF_length:∀ {fs:List Fr},(renF f fs).length = fs.length
  | [] => rfl
  | ⟨_,_⟩ :: r => by simp [renF,renF_length (fs := r)]
theorem FrR.ren {fr:Fr} {tm:Array Value} (h:FrR w ow ρ fr tm) (hr:∀ i,ρ' (f i) = ρ i):FrR w ow ρ' ⟨renT f fr.tmps,renG f fr.gds⟩ tm := by
  refine ⟨fun t v hv => ?_,fun g hg => ?_⟩
  · obtain ⟨u,h1,rfl⟩ := look_renT hv;exact (h.tmps t u h1).ren hr
  · obtain ⟨g0,h1,rfl⟩ := mem_renG hg;rcases (h.gds g0 h1).h with h2 | h2
    · exact ⟨.inl ⟨h2.1,h2.2.ren hr⟩⟩
    · exact ⟨.inr h2⟩
end
theorem le_ren (f:Nat → Nat) (g:Nat → Nat) (hgf:∀ i,g (f i) = i) (S:St):LE S (S.ren f) := by
  refine ⟨fun B w0 F ρ a w h => ?_⟩;obtain ⟨ρ',hr'⟩:∃ ρ':Env,∀ i,ρ' i = ρ (g i) := ⟨fun i => ρ (g i),fun _ => rfl⟩;refine ⟨ρ',?_⟩;have hinj:∀ i j,f i = f j → i = j := fun i j e => by rw [← hgf i,e,hgf]
  have hr:∀ i,ρ' (f i) = ρ i := fun i => by rw [hr',hgf]
  obtain ⟨base,nt,ts,gs,bs,fs⟩ := S;have hown:∀ b,own (renB f bs) ρ' b → own bs ρ b := by
    rintro b ⟨i,k,hk,hp,rfl⟩;obtain ⟨i0,c,rfl,h1,h2⟩ := look_renB hinj hk;rw [hr] at hp ⊢;exact ⟨i0,c,h1,hp,rfl⟩
  have keep:Keep w (ownZ B bs ρ) w (ownZ B (renB f bs) ρ') := ⟨Nat.le_refl _,fun b _ ho => ⟨rfl,fun h => ho (h.imp (hown b) fun h => h)⟩⟩;refine ⟨h.below,h.hB,h.defers,h.nt,?_,?_,?_,?_,⟨?_,?_⟩⟩
  · exact (h.top.ren (f := f) (ρ' := ρ') hr).keep keep fun _ _ => rfl
  · intro id b hb;obtain ⟨i0,c,rfl,h1,rfl⟩ := look_renB hinj hb;exact ((h.blks i0 c h1).ren (f := f) (ρ' := ρ') hr).keep keep rfl (fun _ => rfl) fun _ _ => rfl
  · intro i j x y hx hy hp hq he;obtain ⟨i0,c,rfl,h1,_⟩ := look_renB hinj hx;obtain ⟨j0,d,rfl,h2,_⟩ := look_renB hinj hy;rw [hr] at hp hq he;rw [hr] at he;rw [h.sep i0 j0 c d h1 h2 hp hq he]
  · intro i x hx hp;obtain ⟨i0,c,rfl,h1,_⟩ := look_renB hinj hx;rw [hr] at hp ⊢;exact h.ge i0 c h1 hp
  · dsimp only [St.ren]; rw [renF_length]; exact h.frames.1
  · intro i fr tm hf htm;obtain ⟨fr0,h1,rfl⟩ := renF_get hf;exact ((h.frames.2 i fr0 tm h1 htm).ren (f := f) (ρ' := ρ') hr).keep keep fun _ _ => rfl
mutual
def V.inIds (ids:List Nat):V → Bool
  | .ref i _ _ => memN ids i
  | .osl i _ _ => memN ids i
  | .agg vs => inIdsL ids vs
  | .tup vs => inIdsL ids vs
  | .fn _ vs => inIdsL ids vs
  | _ => true
def inIdsL (ids:List Nat):List V → Bool
  | [] => true
  | v :: r => v.inIds ids && inIdsL ids r
end
mutual
theorem V.inIds_ok (ids:List Nat) (v:V) (id:Nat) (h:v.inIds ids = true) (hm:v.mentions id = true):id ∈ ids := by
  cases v with
  | agg vs => exact inIdsL_ok ids vs id h hm
  | tup vs => exact inIdsL_ok ids vs id h hm
  | fn f vs => exact inIdsL_ok ids vs id h hm
  | ref i r o => rw [← Nat.eq_of_beq_eq_true hm]; exact memN_iff.1 h
  | osl i r o => rw [← Nat.eq_of_beq_eq_true hm]; exact memN_iff.1 h
  | any => cases hm
  | d => cases hm
  | rp => cases hm
theorem inIdsL_ok (ids:List Nat) (vs:List V) (id:Nat) (h:inIdsL ids vs = true) (hm:mentionsL id vs = true):id ∈ ids := by
  cases vs with
  | nil => cases hm
  | cons v r =>
    simp only [inIdsL,Bool.and_eq_true] at h
    simp only [mentionsL] at hm
    split at hm
    · rename_i hv; exact V.inIds_ok ids v id h.1 hv
    · exact inIdsL_ok ids r id h.2 hm
end
theorem ids_of {res:V} {nb:List Nb} (h:res.inIds (nb.map (·.id)) = true):∀ id,res.mentions id = true → ∃ b ∈ nb,b.id = id := fun id hm => by
  obtain ⟨b,hb,e⟩ := List.mem_map.1 (V.inIds_ok _ res id h hm);exact ⟨b,hb,e⟩
end Go.Ab
namespace Go.Ab
open Go.RowKit
variable {P:Program} {tb:Tb} {w:World} {ρ:Env} {a:Act} {B:Bd} {w0:World} {F:List (Array Value)} {S:St}
end Go.Ab
namespace Go.Ab
open Go.RowKit
variable {P:Program} {tb:Tb} {w:World} {ow:Nat → Prop} {ρ:Env} {a:Act} {B:Bd} {w0:World} {F:List (Array Value)} {S:St}
def hasB (bs:List (Nat × Blk)) (i:Nat):Bool := match look bs i with
  | some _ => true
  | none => false
mutual
def V.within (p:Nat → Bool):V → Bool
  | .ref i _ _ => p i
  | .osl i _ _ => p i
  | .agg vs => withinL p vs
  | .tup vs => withinL p vs
  | .fn _ vs => withinL p vs
  | _ => true
def withinL (p:Nat → Bool):List V → Bool
  | [] => true
  | v :: r => match v.within p with
    | true => withinL p r
    | false => false
end
def Blk.within (p:Nat → Bool):Blk → Bool
  | .box _ cs => withinL p cs
  | .arr .. => true
def withinB (p:Nat → Bool):List (Nat × Blk) → Bool
  | [] => true
  | (_,b) :: r => match b.within p with
    | true => withinB p r
    | false => false
theorem eq_of_beq' {i j:Nat} (h:Nat.beq i j = true):i = j := Nat.eq_of_beq_eq_true h
mutual
theorem V.within_of {p:Nat → Bool} {id:Nat} (v:V) (h:v.within p = true) (hm:v.mentions id = true):p id = true := by
  cases v with
  | ref i _ _ => simp only [V.mentions] at hm; rw [← eq_of_beq' hm]; exact h
  | osl i _ _ => simp only [V.mentions] at hm; rw [← eq_of_beq' hm]; exact h
  | agg vs => exact withinL_of vs h hm
  | tup vs => exact withinL_of vs h hm
  | fn f vs => exact withinL_of vs h hm
  | _ => simp [V.mentions] at hm
theorem withinL_of {p:Nat → Bool} {id:Nat} (vs:List V) (h:withinL p vs = true) (hm:mentionsL id vs = true):p id = true := by
  cases vs with
  | nil => simp [mentionsL] at hm
  | cons v r =>
    simp only [withinL] at h
    split at h
    · rename_i h1
      simp only [mentionsL] at hm
      cases h2:v.mentions id
      · rw [h2] at hm; exact withinL_of r h hm
      · exact V.within_of v h1 h2
    · cases h
end
theorem Blk.within_of {p:Nat → Bool} {id:Nat} {b:Blk} (h:b.within p = true) (hm:b.mentions id = true):p id = true := by
  cases b with
  | box t cs => exact withinL_of cs h hm
  | arr => simp [Blk.mentions] at hm
theorem withinB_of {p:Nat → Bool}:∀ {bs:List (Nat × Blk)} {i:Nat} {b:Blk},withinB p bs = true → look bs i = some b → b.within p = true
  | (j,x) :: r,i,b,h,hl => by
    simp only [withinB] at h;split at h
    · rename_i h1;rcases look_cons hl with ⟨_,rfl⟩ | ⟨_,hl⟩
      · exact h1
      · exact withinB_of h hl
    · cases h
  | [],_,_,_,hl => by simp [look] at hl
theorem hasB_of {bs:List (Nat × Blk)} {i:Nat} (h:hasB bs i = true):∃ b,look bs i = some b := by
  unfold hasB at h; split at h
  · exact ⟨_,‹_›⟩
  · cases h
theorem hasB_look {bs:List (Nat × Blk)} {i:Nat} {b:Blk} (h:look bs i = some b):hasB bs i = true := by simp [hasB,h]
def Agr (l l':Loc):Prop := l' = l ∨ (l.n = 0 ∧ l'.n = 0 ∧ (l.ph = true ∨ l.cap = 0))
theorem VR.agr {v:V} {x:Value} {ρ':Env} (h:VR w ow ρ v x) (hr:∀ i,v.mentions i = true → Agr (ρ i) (ρ' i)):VR w ow ρ' v x := by
  induction h with
  | any => exact .any
  | d h => exact .d h
  | ref h1 h2 =>
    rename_i id row off;rcases hr id (by simp [V.mentions]) with e | ⟨e,_⟩
    · rw [← e] at h1 h2 ⊢; exact .ref h1 h2
    · omega
  | osl0 h0 h1 =>
    rename_i id off len ad;rcases hr id (by simp [V.mentions]) with e | ⟨e,_⟩
    · rw [← e] at h1; exact .osl0 h0 h1
    · exact .osl0 h0 (by omega)
  | osl h1 h2 h3 =>
    rename_i id off len;rcases hr id (by simp [V.mentions]) with e | ⟨e,e1,e2⟩
    · rw [← e] at h1 h2 h3 ⊢; exact .osl h1 h2 h3
    · have hl:len = 0 := by omega
      have ho:off = 0 := by omega
      subst hl ho;have hc:(ρ id).cap = 0 := e2.elim (fun h => by rw [h1] at h; cases h) fun h => h;rw [hc];exact .osl0 rfl (Nat.zero_le _)
  | rp vals ho hb hc hd => exact .rp vals ho hb hc hd
  | agg hs h1 hv ih => exact .agg hs h1 fun j v hj => ih j v hj fun id hm => hr id (by simpa [V.mentions] using mentionsL_of hj hm)
  | tup hs hv ih => exact .tup hs fun j v hj => ih j v hj fun id hm => hr id (by simpa [V.mentions] using mentionsL_of hj hm)
  | fn hs hv ih => exact .fn hs fun j v hj => ih j v hj fun id hm => hr id (by simpa [V.mentions] using mentionsL_of hj hm)
theorem BR.agr {i:Nat} {b:Blk} {ρ':Env} (h:BR w ow ρ i b) (hi:ρ' i = ρ i) (hr:∀ i,b.mentions i = true → Agr (ρ i) (ρ' i)):BR w ow ρ' i b := by
  cases h with
  | box C h1 h2 h3 h4 h5 h6 h7 h8 =>
    exact .box C (by rw [hi]; exact h1) (by rw [hi]; exact h2) (by rw [hi]; exact h3) (by rw [hi]; exact h4) (by rw [hi]; exact h5) h6 h7 fun j v hj => (h8 j v hj).agr fun i hm => hr i (by simpa [Blk.mentions] using mentionsL_of hj hm)
  | arr0 h1 h2 h3 h4 => exact .arr0 (by rw [hi]; exact h1) (by rw [hi]; exact h2) (by rw [hi]; exact h3) h4
  | arr C et h1 h2 h3 h4 h5 h6 h7 h8 => exact .arr C et (by rw [hi]; exact h1) (by rw [hi]; exact h2) (by rw [hi]; exact h3) (by rw [hi]; exact h4) h5 (by rw [hi]; exact h6) (by rw [hi]; exact h7) fun i j d hi' hd => by rw [hi]; exact h8 i j d hi' hd
theorem FrR.agr {f:Fr} {tm:Array Value} {ρ':Env} (h:FrR w ow ρ f tm) (hr:∀ i,(mentionsT i f.tmps = true ∨ mentionsG i f.gds = true) → Agr (ρ i) (ρ' i)):FrR w ow ρ' f tm := by
  refine ⟨fun t v hv => (h.tmps t v hv).agr fun i hm => hr i (.inl (mentionsT_of hv hm)),fun g hg => ?_⟩;rcases (h.gds g hg).h with h1 | h1
  · exact ⟨.inl ⟨h1.1,h1.2.agr fun i hm => hr i (.inr (mentionsG_of hg hm))⟩⟩
  · exact ⟨.inr h1⟩
structure EffC (P:Program) (f:FuncId) (args:List V) (bs:List (Nat × Blk)) (res:V) (bs':List (Nat × Blk)):Prop where
  can:Callable P f
  shut:res.within (hasB bs') = true
  shutB:withinB (hasB bs') bs' = true
  out:∀ (Z:Nat → Prop) w vals ρ0,ArgsR w (fun x => own bs ρ0 x ∨ Z x) ρ0 args vals → (∀ i b,look bs i = some b → BR w (fun x => own bs ρ0 x ∨ Z x) ρ0 i b) →
    (∀ i j x y,look bs i = some x → look bs j = some y → (ρ0 i).ph = false → (ρ0 j).ph = false → (ρ0 i).b = (ρ0 j).b → i = j) →
    (∀ i x,look bs i = some x → (ρ0 i).ph = false → ¬ Z (ρ0 i).b) → (∀ b,Z b → b < w.heap.size) →
    Calls P f vals w fun e w' => ∃ v ρ,e = .returned v ∧ Kept (fun b => b < w.heap.size ∧ ¬ own bs ρ0 b) w w' ∧ (∀ i x y,look bs i = some x → look bs' i = some y → Agr (ρ0 i) (ρ i)) ∧
      VR w' (fun x => own bs' ρ x ∨ Z x) ρ res v ∧ (∀ i b,look bs' i = some b → BR w' (fun x => own bs' ρ x ∨ Z x) ρ i b) ∧
      (∀ i j x y,look bs' i = some x → look bs' j = some y → (ρ i).ph = false → (ρ j).ph = false → (ρ i).b = (ρ j).b → i = j) ∧
      (∀ i x,look bs' i = some x → (ρ i).ph = false → w.heap.size ≤ (ρ i).b ∨ own bs ρ0 (ρ i).b)
theorem VR.mono {v:V} {x:Value} {ow':Nat → Prop} (h:VR w ow ρ v x) (hs:∀ b,ow' b → ow b):VR w ow' ρ v x :=
  h.keep ⟨Nat.le_refl _,fun b _ ho => ⟨rfl,fun h => ho (hs b h)⟩⟩ fun _ _ => rfl
theorem BR.mono {i:Nat} {b:Blk} {ow':Nat → Prop} (h:BR w ow ρ i b) (hs:∀ b,ow' b → ow b):BR w ow' ρ i b :=
  h.keep ⟨Nat.le_refl _,fun b _ ho => ⟨rfl,fun h => ho (hs b h)⟩⟩ rfl (fun _ => rfl) fun _ _ => rfl
theorem VR.env {v:V} {x:Value} {ρ':Env} (h:VR w ow ρ v x) (hr:∀ i,v.mentions i = true → ρ' i = ρ i):VR w ow ρ' v x :=
  h.keep ⟨Nat.le_refl _,fun _ _ ho => ⟨rfl,ho⟩⟩ hr
theorem BR.env {i:Nat} {b:Blk} {ρ':Env} (h:BR w ow ρ i b) (hi:ρ' i = ρ i) (hr:∀ i,b.mentions i = true → ρ' i = ρ i):BR w ow ρ' i b :=
  h.keep ⟨Nat.le_refl _,fun _ _ ho => ⟨rfl,ho⟩⟩ hi (fun _ => rfl) hr
theorem VR.unren {f:Nat → Nat} {u:V} {x:Value} (h:VR w ow ρ u x):∀ v:V,u = v.ren f → VR w ow (fun i => ρ (f i)) v x := by
  induction h with
  | any => intro v hv; cases v <;> simp only [V.ren] at hv <;> first | exact .any | cases hv
  | d h => intro v hv; cases v <;> simp only [V.ren] at hv <;> first | (cases hv; exact .d h) | cases hv
  | ref h1 h2 => intro v hv; cases v <;> simp only [V.ren] at hv <;> first | (cases hv; exact .ref (ρ := fun i => ρ (f i)) h1 h2) | cases hv
  | osl0 h0 h1 => intro v hv; cases v <;> simp only [V.ren] at hv <;> first | (cases hv; exact .osl0 (ρ := fun i => ρ (f i)) h0 h1) | cases hv
  | osl h1 h2 h3 => intro v hv; cases v <;> simp only [V.ren] at hv <;> first | (cases hv; exact .osl (ρ := fun i => ρ (f i)) h1 h2 h3) | cases hv
  | rp vals ho hb hc hd => intro v hv; cases v <;> simp only [V.ren] at hv <;> first | (cases hv; exact .rp vals ho hb hc hd) | cases hv
  | agg hs h1 hv ih =>
    intro v hv'; cases v <;> simp only [V.ren] at hv' <;> try cases hv'
    rename_i vs;refine .agg (by rw [renL_length] at hs; exact hs) h1 fun j v hj => ih j (v.ren f) (by rw [renL_get,hj]; rfl) v rfl
  | tup hs hv ih =>
    intro v hv'; cases v <;> simp only [V.ren] at hv' <;> try cases hv'
    rename_i vs;refine .tup (by rw [renL_length] at hs; exact hs) fun j v hj => ih j (v.ren f) (by rw [renL_get,hj]; rfl) v rfl
  | fn hs hv ih =>
    intro v hv'; cases v <;> simp only [V.ren] at hv' <;> try cases hv'
    rename_i g vs;refine .fn (by rw [renL_length] at hs; exact hs) fun j v hj => ih j (v.ren f) (by rw [renL_get,hj]; rfl) v rfl
theorem BR.unren {f:Nat → Nat} {i:Nat} {b:Blk} (h:BR w ow ρ (f i) (b.ren f)):BR w ow (fun i => ρ (f i)) i b := by
  cases b with
  | box t cs =>
    cases h with | box C h1 h2 h3 h4 h5 h6 h7 h8 =>
    rw [renL_length] at h3 h6;exact .box C h1 h2 h3 h4 h5 h6 h7 fun j v hj => (h8 j (v.ren f) (by rw [renL_get,hj]; rfl)).unren v rfl
  | arr t sz n row =>
    cases h with
    | arr0 h1 h2 h3 h4 => exact .arr0 h1 h2 h3 h4
    | arr C et h1 h2 h3 h4 h5 h6 h7 h8 => exact .arr C et h1 h2 h3 h4 h5 h6 h7 h8
def renN (r:List (Nat × Nat)) (k i:Nat):Nat := match look r i with
  | some j => j
  | none => i + k
theorem look_delB {j:Nat}:∀ {bs:List (Nat × Blk)} {i:Nat} {b:Blk},look (delB bs j) i = some b → i ≠ j ∧ look bs i = some b
  | (u,x) :: r,i,b,h => by
    simp only [delB] at h;split at h
    · rename_i hb;have := Nat.eq_of_beq_eq_true hb; subst this;obtain ⟨h1,h2⟩ := look_delB h;exact ⟨h1,by rw [look_other (Ne.symm h1)]; exact h2⟩
    · rename_i hb;rcases look_cons h with ⟨rfl,rfl⟩ | ⟨hn,h⟩
      · exact ⟨fun e => by subst e; simp at hb,look_same⟩
      · obtain ⟨h1,h2⟩ := look_delB h;exact ⟨h1,by rw [look_other hn]; exact h2⟩
  | [],_,_,h => by simp [delB,look] at h
def effB (f:Nat → Nat) (M:List (Nat × Blk)) (S:List (Nat × Blk)):List (Nat × Blk) → List (Nat × Blk)
  | [] => S
  | (j,_) :: r => match look M j with
    | some b => updB (effB f M S r) (f j) (b.ren f)
    | none => delB (effB f M S r) (f j)
def newB (f:Nat → Nat) (bs M:List (Nat × Blk)) (S:List (Nat × Blk)):List (Nat × Blk) → List (Nat × Blk)
  | [] => S
  | (j,_) :: r => match look bs j with
    | some _ => newB f bs M S r
    | none => match look M j with
      | some b => (f j,b.ren f) :: newB f bs M S r
      | none => newB f bs M S r
theorem look_effB {f:Nat → Nat} {M S:List (Nat × Blk)}:∀ {bs:List (Nat × Blk)} {i:Nat} {b:Blk},look (effB f M S bs) i = some b →
    (∃ j b',look M j = some b' ∧ i = f j ∧ b = b'.ren f) ∨ (look S i = some b ∧ ∀ j x,(j,x) ∈ bs → i ≠ f j)
  | [],i,b,h => .inr ⟨h,fun _ _ hm => by simp at hm⟩
  | (j,x) :: r,i,b,h => by
    simp only [effB] at h;split at h
    · rename_i b' hb';rcases look_updB h with ⟨h1,h2,_⟩ | ⟨h1,h2⟩
      · exact .inl ⟨j,b',hb',h1,h2⟩
      · rcases look_effB h2 with h3 | ⟨h3,h4⟩
        · exact .inl h3
        · refine .inr ⟨h3,fun j' x' hm => ?_⟩;rcases List.mem_cons.1 hm with e | hm
          · cases e; exact h1
          · exact h4 j' x' hm
    · obtain ⟨h1,h2⟩ := look_delB h;rcases look_effB h2 with h3 | ⟨h3,h4⟩
      · exact .inl h3
      · refine .inr ⟨h3,fun j' x' hm => ?_⟩;rcases List.mem_cons.1 hm with e | hm
        · cases e; exact h1
        · exact h4 j' x' hm
theorem look_newB {f:Nat → Nat} {bs M S:List (Nat × Blk)}:∀ {l:List (Nat × Blk)} {i:Nat} {b:Blk},look (newB f bs M S l) i = some b →
    (∃ j b',look M j = some b' ∧ i = f j ∧ b = b'.ren f) ∨ look S i = some b
  | [],i,b,h => .inr h
  | (j,x) :: r,i,b,h => by
    simp only [newB] at h;split at h
    · exact look_newB h
    · split at h
      · rename_i b' hb';rcases look_cons h with ⟨rfl,rfl⟩ | ⟨_,h⟩
        · exact .inl ⟨j,b',hb',rfl,rfl⟩
        · exact look_newB h
      · exact look_newB h
theorem mem_of_look {α:Type}:∀ {l:List (Nat × α)} {i:Nat} {x:α},look l i = some x → (i,x) ∈ l
  | (u,y) :: r,i,x,h => by
    rcases look_cons h with ⟨rfl,rfl⟩ | ⟨_,h⟩
    · simp
    · exact List.mem_cons_of_mem _ (mem_of_look h)
  | [],_,_,h => by simp [look] at h
def inB (S:List (Nat × Blk)) (f:Nat → Nat):List (Nat × Blk) → Prop
  | [] => True
  | (j,b) :: r => (match look S (f j) with
    | some b0 => BLe b0 (b.ren f)
    | none => Stuck "no such block") ∧ inB S f r
theorem inB_of {T:List (Nat × Blk)} {f:Nat → Nat}:∀ {bs:List (Nat × Blk)},inB T f bs → ∀ j b,(j,b) ∈ bs → ∃ b0,look T (f j) = some b0 ∧ BLe b0 (b.ren f)
  | (j,b) :: r,h,j',b',hm => by
    simp only [inB] at h;rcases List.mem_cons.1 hm with e | hm
    · cases e
      have h1 := h.1;split at h1
      · exact ⟨_,‹_›,h1⟩
      · exact h1.no.elim
    · exact inB_of h.2 j' b' hm
  | [],_,_,_,hm => by simp at hm
def newIds (bs:List (Nat × Blk)):List (Nat × Blk) → List Nat
  | [] => []
  | (j,_) :: r => match look bs j with
    | some _ => newIds bs r
    | none => j :: newIds bs r
def idsB:List (Nat × Blk) → List Nat
  | [] => []
  | (j,_) :: r => j :: idsB r
def elemN (i:Nat):List Nat → Bool
  | [] => false
  | j :: r => match Nat.beq i j with
    | true => true
    | false => elemN i r
def apartN (f:Nat → Nat):List Nat → Bool
  | [] => true
  | j :: r => match elemN (f j) (r.map f) with
    | true => false
    | false => apartN f r
theorem elemN_of {i:Nat}:∀ {l:List Nat},i ∈ l → elemN i l = true
  | j :: r,h => by
    simp only [elemN];split
    · rfl
    · rename_i hb;rcases List.mem_cons.1 h with rfl | h
      · simp at hb
      · exact elemN_of h
  | [],h => by simp at h
theorem apartN_inj {f:Nat → Nat}:∀ {l:List Nat},apartN f l = true → ∀ i ∈ l,∀ j ∈ l,f i = f j → i = j
  | x :: r,h,i,hi,j,hj,e => by
    simp only [apartN] at h;split at h
    · cases h
    · rename_i hb;have key:∀ y ∈ r,f x ≠ f y := fun y hy e => by
        have := elemN_of (i := f x) (l := r.map f) (by rw [e]; exact List.mem_map_of_mem hy);rw [this] at hb; cases hb
      rcases List.mem_cons.1 hi with h1 | hi' <;> rcases List.mem_cons.1 hj with h2 | hj'
      · rw [h1,h2]
      · subst h1; exact absurd e (key j hj')
      · subst h2; exact absurd e.symm (key i hi')
      · exact apartN_inj h i hi' j hj' e
  | [],_,i,hi,_,_,_ => by simp at hi
theorem mem_idsB {bs:List (Nat × Blk)}:∀ {i:Nat} {x:Blk},(i,x) ∈ bs → i ∈ idsB bs := by
  induction bs with
  | nil => intro i x h; simp at h
  | cons p r ih =>
    obtain ⟨j,y⟩ := p;intro i x h;simp only [idsB];rcases List.mem_cons.1 h with h | h
    · cases h; simp
    · exact List.mem_cons_of_mem _ (ih h)
theorem mem_newIds {bs:List (Nat × Blk)}:∀ {M:List (Nat × Blk)} {i:Nat} {x:Blk},(i,x) ∈ M → look bs i = none → i ∈ newIds bs M
  | (j,y) :: r,i,x,h,hn => by
    simp only [newIds];rcases List.mem_cons.1 h with h | h
    · cases h; rw [hn]; simp
    · split
      · exact mem_newIds h hn
      · exact List.mem_cons_of_mem _ (mem_newIds h hn)
  | [],_,_,h,_ => by simp at h
theorem effSim {f:FuncId} {args args':List V} {bs bs':List (Nat × Blk)} {res:V} {vals:Array Value} (g:Nat → Nat) (h:EffC P f args' bs res bs') (hs:Sim B w0 F ρ S a w) (hv:ArgsR w (ownZ B S.blks ρ) ρ args vals)
    (hw:CellsLe args (renL g args')) (hi:∀ j b,(j,b) ∈ bs → ∃ b0,look S.blks (g j) = some b0 ∧ BLe b0 (b.ren g))
    (ha:∀ i ∈ idsB bs ++ newIds bs bs',∀ j ∈ idsB bs ++ newIds bs bs',g i = g j → i = j) (hm:∀ j ∈ newIds bs bs',S.mentions (g j) = false) (L:List (Nat × Blk))
    (lookL:∀ {i b},look L i = some b → (∃ j b',look bs' j = some b' ∧ i = g j ∧ b = b'.ren g) ∨ (look S.blks i = some b ∧ ∀ j x,look bs j = some x → i ≠ g j)) :
    Calls P f vals w fun e w' => ∃ v ρ1,e = .returned v ∧ Sim B w0 F ρ1 ⟨S.base,S.nt,S.tmps,S.gds,L,S.frames⟩ a w' ∧ VR w' (ownZ B L ρ1) ρ1 (res.ren g) v := by
  have oldS:∀ i x,look bs i = some x → ∃ b0,look S.blks (g i) = some b0 ∧ BLe b0 (x.ren g) := fun i x hx => hi i x (mem_of_look hx);have own0:∀ b,own bs (fun i => ρ (g i)) b → own S.blks ρ b := fun b ⟨i,x,hx,hp,e⟩ => by
    obtain ⟨b0,h1,_⟩ := oldS i x hx;exact ⟨g i,b0,h1,hp,e⟩
  let Z:Nat → Prop := fun b => ownZ B S.blks ρ b ∧ ¬ own bs (fun i => ρ (g i)) b
  have sub:∀ b,own bs (fun i => ρ (g i)) b ∨ Z b → ownZ B S.blks ρ b := fun b hb => hb.elim (fun h => .inl (own0 b h)) fun h => h.1;have inj0:∀ i x j y,look bs i = some x → look bs j = some y → g i = g j → i = j := fun i x j y hx hy e => ha i (by simp [mem_idsB (mem_of_look hx)]) j (by simp [mem_idsB (mem_of_look hy)]) e;obtain ⟨c1,c2⟩ := hw.get;refine Calls.mono (h.out Z w vals (fun i => ρ (g i)) ⟨by rw [hv.1,c1,renL_length],fun j v hj => ?_⟩ (fun i b hb => ?_) (fun i j x y hx hy hpi hpj e => ?_) (fun i x hx _ hz => ?_) (fun b hb => own_lt' hs hb.1)) ?_
  · obtain ⟨u,hu,hle⟩ := c2 j (v.ren g) (by rw [renL_get,hj]; rfl);exact ((hle.out _ _ _ _ (hv.2 j u hu)).unren v rfl).mono sub
  · obtain ⟨b0,h1,h2⟩ := oldS i b hb;exact ((h2.out _ _ _ _ (hs.blks _ _ h1)).unren).mono sub
  · obtain ⟨x0,h1,_⟩ := oldS i x hx;obtain ⟨y0,h2,_⟩ := oldS j y hy;exact inj0 i x j y hx hy (hs.sep _ _ _ _ h1 h2 hpi hpj e)
  · rename_i hp;exact hz.2 ⟨i,x,hx,hp,rfl⟩
  rintro e w' ⟨v,ρ',rfl,kept,same,hres,hblk,hsep,hge⟩
  -- the surroundings behind the call
  have hnew:∀ j x,look bs' j = some x → look bs j = none → j ∈ newIds bs bs' := fun j x hx hn => mem_newIds (mem_of_look hx) hn;have inBoth:∀ j x,look bs' j = some x → j ∈ idsB bs ++ newIds bs bs' := fun j x hx => by
    cases hb:look bs j with
    | none => simp [hnew j x hx hb]
    | some y => simp [mem_idsB (mem_of_look hb)]
  classical
  let ρ1:Env := fun i => if hx:∃ j,hasB bs' j = true ∧ g j = i then ρ' hx.choose else ρ i
  have ρ1M:∀ j x,look bs' j = some x → ρ1 (g j) = ρ' j := fun j x hj => by
    have hx:∃ j',hasB bs' j' = true ∧ g j' = g j := ⟨j,hasB_look hj,rfl⟩;simp only [ρ1,dif_pos hx];obtain ⟨y,hy⟩ := hasB_of hx.choose_spec.1;rw [ha _ (inBoth _ y hy) j (inBoth j x hj) hx.choose_spec.2]
  have ρ1old:∀ i,(∀ j x,look bs' j = some x → g j ≠ i) → ρ1 i = ρ i := fun i hn => by
    simp only [ρ1];rw [dif_neg];rintro ⟨j,hj,e⟩;obtain ⟨y,hy⟩ := hasB_of hj;exact hn j y hy e
  have mentB:∀ i b,look S.blks i = some b → S.mentions i = true := fun i b hb => by
    cases hc:S.mentions i
    · have := (St.mentions_parts hc).2.2.1;rw [mentionsB_of (id := i) hb (.inl rfl)] at this; cases this
    · rfl
  have ρ1ment:∀ i,S.mentions i = true → Agr (ρ i) (ρ1 i) := fun i hi => by
    by_cases hx:∃ j x,look bs' j = some x ∧ g j = i
    · obtain ⟨j,x,hj,rfl⟩ := hx;rw [ρ1M j x hj]
      cases hb:look bs j with
      | none =>
        have := hm j (hnew j x hj hb);rw [hi] at this; cases this
      | some y => exact same j y x hb hj
    · exact .inl (ρ1old i fun j x hj e => hx ⟨j,x,hj,e⟩)
  have ρ1oth:∀ i b,look S.blks i = some b → (∀ j x,look bs j = some x → i ≠ g j) → ρ1 i = ρ i := fun i b hb hn => ρ1old i fun j x hj e => by
    cases hbj:look bs j with
    | none =>
      have := hm j (hnew j x hj hbj);rw [e,mentB i b hb] at this; cases this
    | some y => exact hn j y hbj e.symm
  have otherB:∀ i b,look S.blks i = some b → (∀ j x,look bs j = some x → i ≠ g j) → (ρ i).ph = false → ¬ own bs (fun i => ρ (g i)) (ρ i).b := fun i b hb hn hp => by
    rintro ⟨j,x,hx,hpj,e⟩;obtain ⟨b0,h1,_⟩ := oldS j x hx;exact hn j x hx (hs.sep _ _ _ _ hb h1 hp hpj e.symm)
  have own1:∀ b,ownZ B L ρ1 b → own bs' ρ' b ∨ Z b := fun b hb => by
    rcases hb with ⟨i,x,hx,hp,rfl⟩ | hb
    · rcases lookL hx with ⟨j,b',hj,rfl,_⟩ | ⟨h1,h2⟩
      · rw [ρ1M j b' hj] at hp ⊢;exact .inl ⟨j,b',hj,hp,rfl⟩
      · rw [ρ1oth i _ h1 h2] at hp ⊢;exact .inr ⟨.inl ⟨i,x,h1,hp,rfl⟩,otherB i x h1 h2 hp⟩
    · refine .inr ⟨.inr hb,fun ho => ?_⟩;obtain ⟨i,x,hx,hp,rfl⟩ := own0 b ho;exact hs.ge i x hx hp (B.sub _ hb)
  have ren1:∀ (u:V) (x:Value),u.within (hasB bs') = true → VR w' (fun x => own bs' ρ' x ∨ Z x) ρ' u x → VR w' (ownZ B L ρ1) ρ1 (u.ren g) x := fun u x hu hx => by
    have h1:VR w' (fun x => own bs' ρ' x ∨ Z x) (fun i => ρ1 (g i)) u x := hx.env fun i hi => by
      obtain ⟨b,hb⟩ := hasB_of (V.within_of u hu hi);exact ρ1M i b hb
    exact (h1.ren fun i => rfl).mono own1
  have renB1:∀ (i:Nat) (b:Blk),look bs' i = some b → BR w' (ownZ B L ρ1) ρ1 (g i) (b.ren g) := fun i b hb => by
    have h1:BR w' (fun x => own bs' ρ' x ∨ Z x) (fun i => ρ1 (g i)) i b := (hblk i b hb).env (ρ1M i b hb) fun j hj => by
      obtain ⟨b2,hb2⟩ := hasB_of (Blk.within_of (withinB_of h.shutB hb) hj);exact ρ1M j b2 hb2
    exact (h1.ren fun i => rfl).mono own1
  have keep:Keep w (ownZ B S.blks ρ) w' (ownZ B L ρ1) := ⟨kept.size,fun b hb ho => ⟨kept.block b ⟨hb,fun h1 => ho (.inl (own0 b h1))⟩,fun h1 => by
    rcases own1 b h1 with ⟨j,x,hx,hp,rfl⟩ | h2
    · rcases hge j x hx hp with h3 | h3
      · omega
      · exact ho (.inl (own0 _ h3))
    · exact ho h2.1⟩⟩
  refine ⟨v,ρ1,rfl,⟨⟨kept.os.trans hs.below.os,kept.tape.trans hs.below.tape,kept.output.trans hs.below.output,Nat.le_trans hs.below.size kept.size,fun b hb => ?_⟩,fun b hb => Nat.lt_of_lt_of_le (hs.hB b hb) kept.size,hs.defers,hs.nt,?_,fun i b hb => ?_,fun i j x y hx hy hpi hpj e => ?_,fun i x hx hp hB => ?_,hs.frames.1,fun i f tm hf ht => ?_⟩,ren1 _ _ h.shut hres⟩
  · rw [kept.block b ⟨hs.hB b hb,fun h1 => ?_⟩]
    · exact hs.below.block b hb
    · obtain ⟨i,x,hx,hp,rfl⟩ := own0 b h1;exact hs.ge i x hx hp hb
  · refine (hs.top.keep keep fun _ _ => rfl).agr fun i hi => ρ1ment i ?_
    cases hc:S.mentions i
    · obtain ⟨m1,m2,_,_⟩ := St.mentions_parts hc;dsimp only at hi;rw [m1,m2] at hi; simp at hi
    · rfl
  · rcases lookL hb with ⟨j,b',hj,rfl,rfl⟩ | ⟨h1,h2⟩
    · exact renB1 j b' hj
    · refine ((hs.blks i b h1).keep keep rfl (fun hp => kept.block _ ⟨(hs.blks i b h1).lt hp,otherB i b h1 h2 hp⟩) fun _ _ => rfl).agr (ρ1oth i b h1 h2) fun j hj => ρ1ment j ?_
      cases hc:S.mentions j
      · have := (St.mentions_parts hc).2.2.1;rw [mentionsB_of (id := j) h1 (.inr hj)] at this; cases this
      · rfl
  · have key:∀ i x,look L i = some x → (ρ1 i).ph = false → (∃ j b',look bs' j = some b' ∧ i = g j ∧ ρ1 i = ρ' j) ∨ (look S.blks i = some x ∧ (∀ j x,look bs j = some x → i ≠ g j) ∧ ρ1 i = ρ i) := fun i x hx hp => by
      rcases lookL hx with ⟨j,b',hj,rfl,_⟩ | ⟨h1,h2⟩
      · exact .inl ⟨j,b',hj,rfl,ρ1M j b' hj⟩
      · exact .inr ⟨h1,h2,ρ1oth i _ h1 h2⟩
    have cross:∀ j b' i x,look bs' j = some b' → (ρ' j).ph = false → look S.blks i = some x → (∀ j x,look bs j = some x → i ≠ g j) → (ρ i).ph = false → (ρ' j).b ≠ (ρ i).b := fun j b' i x hj hpj h1 h2 hpi e => by
      rcases hge j b' hj hpj with h3 | h3
      · have := (hs.blks i x h1).lt hpi; omega
      · rw [e] at h3; exact otherB i x h1 h2 hpi h3
    rcases key i x hx hpi with ⟨j1,b1,g1,rfl,e1⟩ | ⟨g1,g2,e1⟩ <;> rcases key j y hy hpj with ⟨j2,b2,k1,rfl,e2⟩ | ⟨k1,k2,e2⟩
    · rw [e1] at hpi e; rw [e2] at hpj e;rw [hsep j1 j2 b1 b2 g1 k1 hpi hpj e]
    · rw [e1] at hpi e; rw [e2] at hpj e;exact absurd e (cross j1 b1 j y g1 hpi k1 k2 hpj)
    · rw [e1] at hpi e; rw [e2] at hpj e;exact absurd e.symm (cross j2 b2 i x k1 hpj g1 g2 hpi)
    · rw [e1] at hpi e; rw [e2] at hpj e;exact hs.sep i j x y g1 k1 hpi hpj e
  · rcases lookL hx with ⟨j,b',hj,rfl,_⟩ | ⟨h1,h2⟩
    · rw [ρ1M j b' hj] at hp hB;rcases hge j b' hj hp with h3 | h3
      · have := hs.hB _ hB; omega
      · obtain ⟨i,x,hx,hp2,e⟩ := own0 _ h3;rw [← e] at hB;exact hs.ge i x hx hp2 hB
    · rw [ρ1oth i _ h1 h2] at hp hB;exact hs.ge i x h1 hp hB
  · refine ((hs.frames.2 i f tm hf ht).keep keep fun _ _ => rfl).agr fun j hj => ρ1ment j ?_
    cases hc:S.mentions j
    · have := (St.mentions_parts hc).2.2.2;rw [mentionsF_of (id := j) hf hj] at this; cases this
    · rfl
theorem lookEff {S:List (Nat × Blk)} {g:Nat → Nat} {bs bs':List (Nat × Blk)} {i:Nat} {b:Blk} (hb:look (newB g bs bs' (effB g bs' S bs) bs') i = some b) :
    (∃ j b',look bs' j = some b' ∧ i = g j ∧ b = b'.ren g) ∨ (look S i = some b ∧ ∀ j x,look bs j = some x → i ≠ g j) := by
  rcases look_newB hb with h1 | h1
  · exact .inl h1
  · rcases look_effB h1 with h2 | ⟨h2,h3⟩
    · exact .inl h2
    · exact .inr ⟨h2,fun j x hx => h3 j x (mem_of_look hx)⟩
theorem callEff {f:FuncId} {args args':List V} {bs bs':List (Nat × Blk)} {res:V} {K:V → St → Prop} (g:Nat → Nat) (h:EffC P f args' bs res bs') (hw:CellsLe args (renL g args')) (hi:inB S.blks g bs)
    (ha:apartN g (idsB bs ++ newIds bs bs') = true) (hm:(newIds bs bs').all (fun j => !(S.mentions (g j))) = true)
    (hk:K (res.ren g) ⟨S.base,S.nt,S.tmps,S.gds,newB g bs bs' (effB g bs' S.blks bs) bs',S.frames⟩):CallP P f args S K := by
  have hi := inB_of hi;have ha := apartN_inj ha;have hm:∀ j ∈ newIds bs bs',S.mentions (g j) = false := fun j hj => by simpa using List.all_eq_true.1 hm j hj
  refine ⟨h.can,fun B w0 F ρ a w vals hs hv => ?_⟩;refine Calls.mono (effSim g h hs hv hw hi ha hm _ lookEff) ?_;rintro e w' ⟨v,ρ1,rfl,h1,h2⟩;exact ⟨v,ρ1,_,_,rfl,h1,h2,hk⟩
def anch:Blk → Nat → V
  | .box ..,j => .ref j 0 0
  | .arr _ _ n _,j => .osl j 0 n
def anchT:Nat → List (Nat × Blk) → List (Nat × V)
  | _,[] => []
  | t,(j,b) :: r => (t,anch b j) :: anchT (t + 1) r
def anchVal (ρ:Env):Blk → Nat → Value
  | .box ..,j => .pointer (some ⟨(ρ j).b,(ρ j).o + 0 * (ρ j).sz + 0,none⟩)
  | .arr _ _ n _,j => match (ρ j).ph with
    | true => .slice none 0 0
    | false => .slice (some ⟨(ρ j).b,(ρ j).o + 0 * (ρ j).sz,none⟩) n ((ρ j).cap - 0)
def sameF:Blk → Blk → Prop
  | .box _ cs,.box _ cs' => cs.length = cs'.length
  | .arr _ sz n _,.arr _ sz' n' _ => sz = sz' ∧ n = n'
  | _, _ => Stuck "another kind of block"
def outB (T:List (Nat × Blk)):List (Nat × Blk) → Prop
  | [] => True
  | (j,b) :: r => (match look T j with
    | some b0 => BLe b0 b
    | none => Stuck "no such block") ∧ outB T r
theorem outB_of {T:List (Nat × Blk)}:∀ {M:List (Nat × Blk)},outB T M → ∀ j b,(j,b) ∈ M → ∃ b0,look T j = some b0 ∧ BLe b0 b
  | (j,b) :: r,h,j',b',hm => by
    simp only [outB] at h;rcases List.mem_cons.1 hm with e | hm
    · cases e
      have h1 := h.1;split at h1
      · exact ⟨_,‹_›,h1⟩
      · exact h1.no.elim
    · exact outB_of h.2 j' b' hm
  | [],_,_,_,hm => by simp at hm
theorem anchT_get:∀ {bs:List (Nat × Blk)} {t u:Nat} {v:V},look (anchT t bs) u = some v → ∃ i j b,u = t + i ∧ bs[i]? = some (j,b) ∧ v = anch b j
  | (j,b) :: r,t,u,v,h => by
    rcases look_cons h with ⟨rfl,rfl⟩ | ⟨_,h⟩
    · exact ⟨0,j,b,rfl,rfl,rfl⟩
    · obtain ⟨i,j',b',rfl,h2,h3⟩ := anchT_get h;exact ⟨i + 1,j',b',by omega,by simpa using h2,h3⟩
  | [],_,_,_,h => by simp [anchT,look] at h
theorem anch_val {j:Nat} {b:Blk} (h:BR w ow ρ j b):VR w ow ρ (anch b j) (anchVal ρ b j) := by
  cases h with
  | box C h1 h2 h3 h4 => exact .ref h1 (by omega)
  | arr0 h1 h2 h3 h4 => simp only [anch,anchVal,h1]; exact .osl0 h4 (Nat.zero_le _)
  | arr C et h1 h2 h3 h4 => simp only [anch,anchVal,h1]; exact .osl h1 (by omega) (by omega)
theorem anch_agr {j:Nat} {b b':Blk} {w1 w2:World} {ow1 ow2 ow3:Nat → Prop} {ρ':Env} (h:BR w1 ow1 ρ j b) (h':BR w2 ow2 ρ' j b') (hs:sameF b b') (ha:VR w2 ow3 ρ' (anch b j) (anchVal ρ b j)):Agr (ρ j) (ρ' j) := by
  cases h with
  | box C h1 h2 h3 h4 =>
    cases h' with
    | box C' k1 k2 k3 k4 =>
      simp only [sameF] at hs
      left
      simp only [anch,anchVal] at ha;generalize hx:(Value.pointer (some ⟨(ρ j).b,(ρ j).o + 0 * (ρ j).sz + 0,none⟩)) = x at ha
      cases ha with | ref g1 g2 =>
      simp only [Value.pointer.injEq,Option.some.injEq,Addr.mk.injEq] at hx;have e1 := hx.1
      cases hl:ρ j; cases hl':ρ' j
      rw [hl] at h1 h2 h3 h4 e1; rw [hl'] at k1 k2 k3 k4 e1;simp only at *;simp only [Loc.mk.injEq];exact ⟨e1.symm,by omega,by omega,by omega,by omega,by rw [h1,k1]⟩
    | arr0 => exact hs.no.elim
    | arr => exact hs.no.elim
  | arr0 h1 h2 h3 h4 =>
    right
    cases h' with
    | box => exact hs.no.elim
    | arr0 k1 k2 k3 k4 => exact ⟨by omega,by omega,.inl h1⟩
    | arr C et k1 k2 k3 k4 => simp only [sameF] at hs; exact ⟨by omega,by omega,.inl h1⟩
  | arr C et h1 h2 h3 h4 =>
    have key:∃ sz' n',(ρ' j).sz = sz' ∧ (ρ' j).n = n' ∧ sz' = (ρ j).sz ∧ n' = (ρ j).n := by
      cases h' with
      | box => exact hs.no.elim
      | arr0 k1 k2 k3 k4 => simp only [sameF] at hs; exact ⟨_,_,k2,k3,by omega,by omega⟩
      | arr C et k1 k2 k3 k4 => simp only [sameF] at hs; exact ⟨_,_,k2,k3,by omega,by omega⟩
    obtain ⟨sz',n',e1,e2,e3,e4⟩ := key;simp only [anch,anchVal,h1] at ha;generalize hx:(Value.slice (some ⟨(ρ j).b,(ρ j).o + 0 * (ρ j).sz,none⟩) _ ((ρ j).cap - 0)) = x at ha
    cases ha with
    | osl0 g0 g1 =>
      simp only [Value.slice.injEq] at hx
      right
      exact ⟨by omega,by omega,.inr (by omega)⟩
    | osl g1 g2 g3 =>
      simp only [Value.slice.injEq,Option.some.injEq,Addr.mk.injEq] at hx
      left
      obtain ⟨⟨q1,q2,_⟩,_,q3⟩ := hx
      cases hl:ρ j; cases hl':ρ' j
      rw [hl] at h1 e3 e4 q1 q2 q3; rw [hl'] at e1 e2 g1 q1 q2 q3;simp only at *;simp only [Loc.mk.injEq];exact ⟨q1.symm,by omega,by omega,by omega,by omega,by rw [h1,g1]⟩
theorem look_of_get:∀ {bs:List (Nat × Blk)} {i j:Nat} {b:Blk},apartN (fun i => i) (idsB bs) = true → bs[i]? = some (j,b) → look bs j = some b
  | (u,x) :: r,0,j,b,_,h => by simp at h; obtain ⟨rfl,rfl⟩ := h; exact look_same
  | (u,x) :: r,i + 1,j,b,ha,h => by
    have h':r[i]? = some (j,b) := by simpa using h
    have hm := mem_idsB (List.mem_of_getElem? h');have hne:u ≠ j := fun e => by
      subst e;simp only [idsB,apartN,List.map_id'] at ha;rw [elemN_of hm] at ha; cases ha
    rw [look_other hne];refine look_of_get ?_ h';simp only [idsB,apartN] at ha;split at ha
    · cases ha
    · exact ha
  | [],_,_,_,_,h => by simp at h
theorem anchVals_get {bs:List (Nat × Blk)} {ρ:Env} {i j:Nat} {b:Blk} (h:bs[i]? = some (j,b)):((bs.map fun p => anchVal ρ p.2 p.1).toArray).getD i undef = anchVal ρ b j := by
  simp [Array.getD_eq_getD_getElem?,h]
theorem callE {base nt:Nat} {ts:List (Nat × V)} {gs:List Gd} {blks:List (Nat × Blk)} {fs:List Fr} {f:FuncId} {args args':List V} {bs M:List (Nat × Blk)} {res:V} {K:V → St → Prop} (r:List (Nat × Nat)) (k:Nat) (h:EffC P f args' bs res M)
    (hw:CellsLe args (renL (renN r k) args')) (hi:inB blks (renN r k) bs) (ha:apartN (renN r k) (idsB bs ++ newIds bs M) = true) (hm:(newIds bs M).all (fun j => !(St.mentions ⟨base,nt,ts,gs,blks,fs⟩ (renN r k j))) = true)
    (hk:forceV (res.ren (renN r k)) fun v => forceB (newB (renN r k) bs M (effB (renN r k) M blks bs) M) fun bs => K v ⟨base,nt,ts,gs,bs,fs⟩) :
    CallP P f args ⟨base,nt,ts,gs,blks,fs⟩ K := by
  rw [forceV_eq,forceB_eq] at hk;exact callEff (renN r k) h hw hi ha hm hk
end Go.Ab
namespace Go.Ab
open Go.RowKit
variable {P:Program} {tb:Tb} {w:World} {ρ:Env} {a:Act} {B:Bd} {w0:World} {F:List (Array Value)} {S:St}
  {cs:Nat → Option CS} {m:Nat} {ops:List Oper} {S0:St} {A:List (List Nat)} {R:List Rs} {ls:List Nat}
structure EffD (P:Program) (pre:List (Nat × Blk)) (f:FuncId) (args:List V) (res:V) (nb post:List (Nat × Blk)):Prop where
  can:Callable P f
  out:∃ args' bs r M g,EffC P f args' bs r M ∧ CellsLe args (renL g args') ∧ inB pre g bs ∧ apartN g (idsB bs ++ newIds bs M) = true ∧ res = r.ren g ∧
    (∀ i b,look (nb ++ post) i = some b → (∃ j b',look M j = some b' ∧ i = g j ∧ b = b'.ren g) ∨ (look pre i = some b ∧ ∀ j x,look bs j = some x → i ≠ g j)) ∧ (∀ j ∈ newIds bs M,hasB nb (g j) = true ∨ (hasB post (g j) = true ∧ hasB pre (g j) = false))
def effChk (cs:Nat → Option CS) (mem:Nat → Nat → Bool) (m:Nat):Bool := (List.range m).all fun j => match isEf (cs j) with
  | true => (List.range j).all fun i => match isEf (cs i) with
    | true => mem j i
    | false => true
  | false => true
def delIds (ids:List Nat):List (Nat × Blk) → List (Nat × Blk)
  | [] => []
  | (i,b) :: r => match memN ids i with
    | true => delIds ids r
    | false => (i,b) :: delIds ids r
theorem look_del {ids:List Nat} {i:Nat}:∀ {bs:List (Nat × Blk)},look (delIds ids bs) i = if memN ids i = true then none else look bs i
  | [] => by simp [delIds,look]
  | (u,b) :: r => by
    simp only [delIds];split
    · rename_i h;rw [look_del];split
      · rfl
      · rename_i h2;rw [look_other]; intro e; subst e; exact h2 h
    · rename_i h
      by_cases e:u = i
      · subst e;rw [look_same,h,look_same]; simp
      · rw [look_other e,look_del,look_other e]
def pstOf (cs:Nat → Option CS) (j:Nat):List (Nat × Blk) := match cs j with
  | some (.eff _ _ post _ _) => post
  | some (.app _ _ post) => post
  | _ => []
def hid (cs:Nat → Option CS) (pr:Nat → List (Nat × Blk)) (ro:Nat → List Nat) (T0:List (Nat × Blk)) (E:Nat → Bool):Nat → List (Nat × Blk)
  | 0 => T0
  | n + 1 => match E n && isEf (cs n) with
    | true => delIds (ro n) (pstOf cs n) ++ delIds (idsB (delIds (ro n) (pr n))) (hid cs pr ro T0 E n)
    | false => hid cs pr ro T0 E n
variable {pr:Nat → List (Nat × Blk)} {ro:Nat → List Nat} {T0:List (Nat × Blk)}
end Go.Ab
namespace Go.Ab
open Go.RowKit
variable {P:Program} {tb:Tb} {w:World} {ow:Nat → Prop} {ρ:Env} {a:Act} {B:Bd} {w0:World} {F:List (Array Value)} {S:St}
def frzCall:List Nat → List V → St → (List V → St → Prop) → Prop
  | [],vs,S,K => K vs S
  | id :: r,vs,⟨base,nt,ts,gs,bs,fs⟩,K => match look bs id with
    | some (.arr _ _ _ row) => forceVL (frzL id row vs) fun vs => forceT (frzT id row ts) fun ts => forceG (frzG id row gs) fun gs => forceB (frzB id row bs) fun bs => forceF (frzF id row fs) fun fs => frzCall r vs ⟨base,nt,ts,gs,bs,fs⟩ K
    | _ => Stuck "freeze no such row"
def frzSt:List Nat → St → (St → Prop) → Prop
  | [],S,K => K S
  | id :: r,⟨base,nt,ts,gs,bs,fs⟩,K => match look bs id with
    | some (.arr _ _ _ row) => forceT (frzT id row ts) fun ts => forceG (frzG id row gs) fun gs => forceB (frzB id row bs) fun bs => forceF (frzF id row fs) fun fs => frzSt r ⟨base,nt,ts,gs,bs,fs⟩ K
    | _ => Stuck "freeze no such row"
theorem sim_leB {L:List (Nat × Blk)} (h:Sim B w0 F ρ S a w) (lk:∀ i b,look L i = some b → ∃ c,look S.blks i = some c ∧ BLe c b):Sim B w0 F ρ ⟨S.base,S.nt,S.tmps,S.gds,L,S.frames⟩ a w := by
  have hown:∀ b,own L ρ b → own S.blks ρ b := by
    rintro b ⟨i,k,hk,hp,rfl⟩;obtain ⟨c,hc,_⟩ := lk i k hk;exact ⟨i,c,hc,hp,rfl⟩
  have keep:Keep w (ownZ B S.blks ρ) w (ownZ B L ρ) := ⟨Nat.le_refl _,fun b _ ho => ⟨rfl,fun h => ho (h.imp (hown b) fun h => h)⟩⟩;refine ⟨h.below,h.hB,h.defers,h.nt,h.top.keep keep fun _ _ => rfl,fun id b hbk => ?_,fun i j x y hx hy => ?_,fun i x hx => ?_,h.frames.1,fun i f' tm hf' htm => (h.frames.2 i f' tm hf' htm).keep keep fun _ _ => rfl⟩
  · obtain ⟨c,hc,hle⟩ := lk id b hbk;have := hle.out _ _ _ _ (h.blks id c hc);exact this.keep keep rfl (fun _ => rfl) fun _ _ => rfl
  · obtain ⟨x',hx',_⟩ := lk i x hx;obtain ⟨y',hy',_⟩ := lk j y hy;exact h.sep i j x' y' hx' hy'
  · obtain ⟨x',hx',_⟩ := lk i x hx;exact h.ge i x' hx'
noncomputable def evDrawK (P:Program) (tb:Tb) (cs:Nat → Option CS) (m:Nat) (mks:List (List Bool)) (ops:List Oper) (S:St) (K:St → Prop):Prop :=
  stK (S0of ((ops.take m).map (·.dst)) S) fun S0 => evMF P tb cs ops S0 (ops.take m) mks 0 [] fun R =>
      chkDynM S0 mks R = true ∧ stK (stM S0 R (List.replicate m true)) fun S1 => evOps P tb ops (ops.drop m) S1 fun S => S.noGds K
theorem evDrawK_eq {cs:Nat → Option CS} {m:Nat} {mks:List (List Bool)} {ops:List Oper} {S:St} {K:St → Prop}:evDrawK P tb cs m mks ops S K = evDrawF P tb cs m mks ops S K := by
  unfold evDrawK evDrawF
  congr 1; funext S0; congr 1; funext R
  cases chkDynM S0 mks R
  · exact propext ⟨fun h => Bool.noConfusion h.1,fun h => (Stuck.no h).elim⟩
  · exact propext ⟨fun h => h.2,fun h => ⟨rfl,h⟩⟩
theorem draw_k (hT:TOk P tb) (hmx:P.follows .mixedOrders = true) {id:Nat} {opsA:Array Oper} {S:St} {K:St → Prop} (cs:Nat → Option CS) (m:Nat) (ls:List Nat) (mks mkt:List (List Bool)) (hml:m ≤ opsA.size) (hno:(noEff cs m && dstChk opsA.toList cs m) = true)
    (hst:statOkL m ls opsA.toList mks mkt = true) (h:evDrawK P tb cs m mks opsA.toList S K):DrawP P id opsA S K :=
  draw_l hT hmx cs m ls mks mkt hml hno hst (evDrawK_eq ▸ h)
end Go.Ab
namespace Go.Ab
def allR (n:Nat) (p:Nat → Bool):Bool := (List.range n).all p
theorem allR_get {n i:Nat} {p:Nat → Bool} (h:allR n p = true) (hi:i < n):p i = true := List.all_eq_true.1 h i (List.mem_range.2 hi)
theorem allR_of {n:Nat} {p:Nat → Bool} (h:∀ i,i < n → p i = true):allR n p = true := List.all_eq_true.2 fun i hi => h i (List.mem_range.1 hi)
theorem allR_iff {n:Nat} {p:Nat → Bool}:allR n p = true ↔ ∀ i,i < n → p i = true := ⟨fun h _ hi => allR_get h hi,allR_of⟩
theorem wrap_succ {n i:Nat} (h:i < n) (hn:n ≤ 9223372036854775807):IntKind.i64.wrap ((i:Int) + 1) = ((i + 1:Nat):Int) := by
  rw [wrap_i64 (by omega) (by omega)]; simp
theorem wrap_pred {n i:Nat} (h:i < n) (h0:0 < i) (hn:n ≤ 9223372036854775807):IntKind.i64.wrap ((i:Int) - 1) = ((i - 1:Nat):Int) := by
  rw [wrap_i64 (by omega) (by omega)]; omega
theorem lp_all {β:Type} {step:Int → Option (Int ⊕ β)} (n:Nat) (p:Nat → Bool) (e d:β) (h1:∀ i:Nat,i < n → (∀ k,k < i → p k = true) → step i = some (if p i = true then .inl ((i + 1:Nat):Int) else .inr e)) (h2:(∀ k,k < n → p k = true) → step n = some (.inr d)) :
    lp step 0 = some (if allR n p = true then d else e) := by
  have key:∀ k i:Nat,i + k = n → (∀ j,j < i → p j = true) → lp step (i:Int) = some (if allR n p = true then d else e) := by
    intro k
    induction k with
    | zero =>
      intro i hi hp;have:i = n := by omega
      subst this;rw [lp_done (h2 hp),if_pos (allR_of hp)]
    | succ k ih =>
      intro i hi hp;have hs := h1 i (by omega) hp
      by_cases hpi:p i = true
      · rw [if_pos hpi] at hs;rw [lp_more hs];exact ih (i + 1) (by omega) fun j hj => by
          rcases Nat.lt_or_ge j i with h | h
          · exact hp j h
          · have:j = i := by omega
            subst this; exact hpi
      · rw [if_neg hpi] at hs;rw [lp_done hs,if_neg];intro h;exact hpi (allR_get h (by omega))
  exact key n 0 (by omega) fun j hj => by omega
def findR {β:Type} (f:Nat → Option β):Nat → Nat → Option β
  | _,0 => none
  | i,k + 1 => match f i with
    | some b => some b
    | none => findR f (i + 1) k
theorem lp_find {β:Type} {step:Int → Option (Int ⊕ β)} (n:Nat) (f:Nat → Option β) (d:β) (h1:∀ i:Nat,i < n → step i = some (match f i with | some b => .inr b | none => .inl ((i + 1:Nat):Int))) (h2:step n = some (.inr d)) :
    lp step 0 = some ((findR f 0 n).getD d) := by
  have key:∀ k i:Nat,i + k = n → lp step (i:Int) = some ((findR f i k).getD d) := by
    intro k
    induction k with
    | zero =>
      intro i hi;have:i = n := by omega
      subst this;rw [lp_done h2]; rfl
    | succ k ih =>
      intro i hi;have hs := h1 i (by omega);unfold findR
      cases hf:f i with
      | some b => rw [hf] at hs; rw [lp_done hs]; rfl
      | none => rw [hf] at hs; rw [lp_more hs]; exact ih (i + 1) (by omega)
  exact key n 0 (by omega)
def firstR (p:Nat → Bool) (n:Nat):Option Nat := findR (fun i => if p i = true then some i else none) 0 n
theorem findR_map {β:Type} {p:Nat → Bool} {h:Nat → β}:∀ (k i:Nat),findR (fun i => if p i = true then some (h i) else none) i k = (findR (fun i => if p i = true then some i else none) i k).map h
  | 0,_ => rfl
  | k + 1,i => by
    unfold findR
    cases hp:p i
    · simp only [Bool.false_eq_true,if_false]; exact findR_map k (i + 1)
    · simp only [if_true,Option.map_some]
theorem lp_first {β:Type} {step:Int → Option (Int ⊕ β)} (n:Nat) (p:Nat → Bool) (h:Nat → β) (d:β) (h1:∀ i:Nat,i < n → step i = some (if p i = true then .inr (h i) else .inl ((i + 1:Nat):Int))) (h2:step n = some (.inr d)) :
    lp step 0 = some (((firstR p n).map h).getD d) := by
  rw [lp_find n (fun i => if p i = true then some (h i) else none) d (fun i hi => by rw [h1 i hi]; cases p i <;> rfl) h2,findR_map]
  rfl
theorem firstR_some {p:Nat → Bool} {n i:Nat} (h:firstR p n = some i):i < n ∧ p i = true ∧ ∀ k,k < i → p k = false := by
  have key:∀ (k j:Nat),j + k = n → (∀ x,x < j → p x = false) → findR (fun i => if p i = true then some i else none) j k = some i → i < n ∧ p i = true ∧ ∀ k,k < i → p k = false := by
    intro k
    induction k with
    | zero => intro j _ _ h; cases h
    | succ k ih =>
      intro j hj hx h;unfold findR at h
      cases hp:p j
      · rw [hp] at h;exact ih (j + 1) (by omega) (fun x hx' => by
          rcases Nat.lt_or_ge x j with h | h
          · exact hx x h
          · have:x = j := by omega
            subst this; exact hp) h
      · rw [hp] at h;simp only [if_true,Option.some.injEq] at h;subst h;exact ⟨by omega,hp,hx⟩
  exact key n 0 (by omega) (fun x hx => by omega) h
theorem firstR_none {p:Nat → Bool} {n:Nat} (h:firstR p n = none):∀ k,k < n → p k = false := by
  have key:∀ (k j:Nat),j + k = n → (∀ x,x < j → p x = false) → findR (fun i => if p i = true then some i else none) j k = none → ∀ k,k < n → p k = false := by
    intro k
    induction k with
    | zero => intro j hj hx _ x h; exact hx x (by omega)
    | succ k ih =>
      intro j hj hx h;unfold findR at h
      cases hp:p j
      · rw [hp] at h;exact ih (j + 1) (by omega) (fun x hx' => by
          rcases Nat.lt_or_ge x j with h | h
          · exact hx x h
          · have:x = j := by omega
            subst this; exact hp) h
      · rw [hp] at h; cases h
  exact key n 0 (by omega) (fun x hx => by omega) h
theorem lp_fold {α β:Type} {step:α × Int → Option ((α × Int) ⊕ β)} (n:Nat) (f:α → Nat → α) (d:α → β) (a0:α) (inv:Nat → α → Prop) (h0:inv 0 a0) (hi:∀ i a,i < n → inv i a → inv (i + 1) (f a i))
    (h1:∀ (i:Nat) (a:α),i < n → inv i a → step (a,(i:Int)) = some (.inl (f a i,((i + 1:Nat):Int)))) (h2:∀ a,inv n a → step (a,(n:Int)) = some (.inr (d a))) :
    lp step (a0,0) = some (d ((List.range n).foldl f a0)) ∧ inv n ((List.range n).foldl f a0) := by
  have key:∀ k i:Nat,i + k = n → ∀ a,inv i a → lp step (a,(i:Int)) = some (d ((List.range' i k).foldl f a)) ∧ inv n ((List.range' i k).foldl f a) := by
    intro k
    induction k with
    | zero =>
      intro i hik a ha;have:i = n := by omega
      subst this;exact ⟨lp_done (h2 a ha),ha⟩
    | succ k ih =>
      intro i hik a ha;rw [lp_more (h1 i a (by omega) ha),List.range'_succ,List.foldl_cons];exact ih (i + 1) (by omega) _ (hi i a (by omega) ha)
  have := key n 0 (by omega) a0 h0;rwa [← List.range_eq_range'] at this
theorem gcall_val {α:Type} [Inhabited α] {c:Prop} [Decidable c] {v:α}:gcall c (some v) = some (if c then v else default) := by
  by_cases h:c
  · rw [gcall_pos h,if_pos h]
  · rw [gcall_neg h,if_neg h]
theorem gcall_b {c:Bool} {v:Bool}:gcall (c = true) (some v) = some (c && v) := by cases c <;> simp [gcall]
theorem gcall_nb {c:Bool} {v:Bool}:gcall (c = false) (some v) = some (!c && v) := by cases c <;> simp [gcall]
theorem bd_gc {α:Type} [Inhabited α] {c:Bool} {x:α} {f:α → Bool}:bd (gcall (c = true) (some x)) (fun y => some (c && f y)) = some (c && f x) := by cases c <;> simp [gcall]
def cmpInt (a b:Int):Int := if a < b then -1 else if b < a then 1 else 0
def firstNz:List Int → Int
  | [] => 0
  | n :: r => if n = 0 then firstNz r else n
theorem chain {α:Type} {r:α → α → Bool} (tr:∀ {a b c:α},r a b = true → r b c = true → r a c = true) {f:Nat → α} {n:Nat} (h:∀ i,0 < i → i < n → r (f (i - 1)) (f i) = true):∀ i,i < n → ∀ k,k < i → r (f k) (f i) = true := by
  intro i
  induction i with
  | zero => intro _ k hk; omega
  | succ i ih =>
    intro hi k hk;have hs := h (i + 1) (by omega) hi;rw [Nat.add_sub_cancel] at hs
    by_cases e:k = i
    · subst e; exact hs
    · exact tr (ih (by omega) k (by omega)) hs
theorem lp_copy {α:Type} [Inhabited α] {xs:List α} {step:List α × Int → Option ((List α × Int) ⊕ (Nat × List α))}
    (h1:∀ (i:Nat) (ys:List α),i < xs.length → ys.length = xs.length → step (ys,(i:Int)) = some (.inl (ys.set i (xs.getD i default),((i + 1:Nat):Int)))) (h2:∀ ys:List α,ys.length = xs.length → step (ys,(xs.length:Int)) = some (.inr (ys.length,ys))) :
    lp step (List.replicate ((xs.length:Nat):Int).toNat default,0) = some (xs.length,xs) := by
  rw [Int.toNat_natCast];obtain ⟨e1,e2,e3⟩ := lp_fold (step := step) xs.length (fun ys i => ys.set i (xs.getD i default)) (fun ys => (ys.length,ys)) (List.replicate xs.length default) (fun i ys => ys.length = xs.length ∧ ∀ k,k < i → ys[k]? = xs[k]?)
    ⟨by simp,fun k hk => by omega⟩ (fun i ys hi ⟨h3,h4⟩ => ⟨by simpa using h3,fun k hk => by
      rw [List.getElem?_set]
      by_cases e:i = k
      · subst e;simp [h3,hi]
      · rw [if_neg e]; exact h4 k (by omega)⟩) (fun i ys hi ⟨h3,_⟩ => h1 i ys hi h3) (fun ys ⟨h3,_⟩ => h2 ys h3)
  have:(List.range xs.length).foldl (fun ys i => ys.set i (xs.getD i default)) (List.replicate xs.length default) = xs := by
    apply List.ext_getElem?
    intro k
    by_cases hk:k < xs.length
    · exact e3 k hk
    · rw [List.getElem?_eq_none (by omega),List.getElem?_eq_none (by omega)]
  rw [e1,this]
theorem list_eq {α:Type} [Inhabited α] [DecidableEq α] {xs ys:List α} (h:xs.length = ys.length):allR xs.length (fun i => decide (xs.getD i default = ys.getD i default)) = decide (xs = ys) := by
  rw [Bool.eq_iff_iff];simp only [allR_iff,decide_eq_true_eq]
  constructor
  · intro hh
    apply List.ext_getElem h
    intro i h1 h2;have := hh i h1;simpa [List.getD_eq_getElem?_getD,h1,h2] using this
  · rintro rfl i _; rfl
theorem argA {p:Prop} (h:p := by
  (repeat' first | ((conv => whnf); first | exact trivial | refine And.intro ?_ ?_ | exact BLe.refl _ | exact VLe.refl _) | exact trivial | refine And.intro ?_ ?_ | exact VLe.refl _ | exact VLe.any _ | exact VLe.nil_osl rfl | exact VLe.nil_sl rfl | exact VLe.built rfl rfl | (refine VLe.osl rfl ?_; (first | rfl | assumption | (refine Eq.symm ?_; assumption) | (simp; done) | (simp [dsub_eq] <;> omega) | omega)) | exact VLe.rows (by first | rfl | assumption | (refine Eq.symm ?_; assumption) | (simp; done) | (simp [dsub_eq] <;> omega) | omega) (fun _ _ => rfl) | exact VLe.rows (by simp [dsub_eq] <;> omega) rows_take | exact VLe.rows (by simp [dsub_eq] <;> omega) rows_dt | exact VLe.rows (by simp [dsub_eq] <;> omega) rows_vt | exact VLe.rows (by simp) (fun i _ => by simp [viewRow_eq,Nat.add_comm]) | refine VLe.aggL ?_ | refine VLe.rpL ?_)):p := h
theorem inA {p:Prop} (h:p := by
  (repeat' first | ((conv => whnf); first | exact trivial | refine And.intro ?_ ?_ | exact BLe.refl _ | exact VLe.refl _ | (refine BLe.rows rfl ?_ fun _ _ => rfl; (first | rfl | assumption | (refine Eq.symm ?_; assumption)))) | exact trivial | exact rfl | refine And.intro ?_ ?_ | exact BLe.refl _ | exact VLe.refl _ | exact VLe.any _ | exact VLe.nil_osl rfl | exact VLe.nil_sl rfl | exact VLe.built rfl rfl | (refine VLe.osl rfl ?_; (first | rfl | assumption | (refine Eq.symm ?_; assumption) | (simp; done) | (simp [dsub_eq] <;> omega) | omega)) | exact VLe.rows (by first | rfl | assumption | (refine Eq.symm ?_; assumption) | (simp; done) | (simp [dsub_eq] <;> omega) | omega) (fun _ _ => rfl) | exact VLe.rows (by simp [dsub_eq] <;> omega) rows_take | exact VLe.rows (by simp [dsub_eq] <;> omega) rows_dt | exact VLe.rows (by simp [dsub_eq] <;> omega) rows_vt | exact VLe.rows (by simp) (fun i _ => by simp [viewRow_eq,Nat.add_comm]) | refine VLe.aggL ?_ | (refine BLe.rows rfl ?_ fun _ _ => rfl; (first | rfl | assumption | (refine Eq.symm ?_; assumption) | (simp; done) | (simp [dsub_eq] <;> omega) | omega)) | refine BLe.box ?_ | (simp; done))):p := h
theorem lenA {p:Prop} (h:p := by
  first | rfl | assumption | (refine Eq.symm ?_; assumption) | (simp; done) | (simp [dsub_eq] <;> omega) | omega):p := h
end Go.Ab
namespace Go.Ab
open Go.RowKit
variable {P:Program} {tb:Tb} {w:World} {ow:Nat → Prop} {ρ:Env} {a:Act} {B:Bd} {w0:World} {F:List (Array Value)} {S:St}
def pmN (l:List (Nat × Nat)) (i:Nat):Nat := match look l i with
  | some j => j
  | none => i
def pmInv (l:List (Nat × Nat)):List (Nat × Nat) := l.map fun p => (p.2,p.1)
def pmOk (l:List (Nat × Nat)):Bool := l.all fun p => (match look (pmInv l) p.2 with
  | some a => Nat.beq a p.1
  | none => false) && (match look l p.2 with
  | some _ => true
  | none => false)
theorem look_mem3 {α:Type}:∀ {l:List (Nat × α)} {i:Nat} {x:α},look l i = some x → (i,x) ∈ l
  | (u,y) :: r,i,x,h => by
    rcases look_cons h with ⟨rfl,rfl⟩ | ⟨_,h⟩
    · simp
    · exact List.mem_cons_of_mem _ (look_mem h)
  | [],_,_,h => by simp [look] at h
theorem pm_inv {l:List (Nat × Nat)} (h:pmOk l = true) (i:Nat):pmN (pmInv l) (pmN l i) = i := by
  have h := List.all_eq_true.1 h;unfold pmN
  cases hl:look l i with
  | some j =>
    have h1 := h (i,j) (look_mem3 hl);simp only [Bool.and_eq_true] at h1;dsimp only
    cases h2:look (pmInv l) j with
    | none => rw [h2] at h1; exact Bool.noConfusion h1.1
    | some a => rw [h2] at h1; exact Nat.eq_of_beq_eq_true h1.1
  | none =>
    dsimp only
    cases h2:look (pmInv l) i with
    | none => rfl
    | some a =>
      obtain ⟨p,hp,e⟩ := List.mem_map.1 (look_mem3 h2)
      cases e
      have h1 := h p hp;simp only [Bool.and_eq_true] at h1;rw [hl] at h1;exact Bool.noConfusion h1.2
noncomputable def rnVn (l:List (Nat × Nat)) (n:Nat):V → (V → Prop) → Prop := Nat.rec (motive := fun _ => V → (V → Prop) → Prop) (fun v K => K (v.ren (pmN l))) (fun _ ih v K => match v with
  | .any => K .any
  | .d x => K (.d x)
  | .ref i r o => (match look l i with
    | some j => K (.ref j r o)
    | none => K (.ref i r o))
  | .osl i o n => (match look l i with
    | some j => K (.osl j o n)
    | none => K (.osl i o n))
  | .rp cs => K (.rp cs)
  | .agg vs => forceVLn ih vs fun vs' => K (.agg vs')
  | .tup vs => forceVLn ih vs fun vs' => K (.tup vs')
  | .fn f vs => forceVLn ih vs fun vs' => K (.fn f vs')) n
noncomputable def rnT (l:List (Nat × Nat)) (ts:List (Nat × V)):(List (Nat × V) → Prop) → Prop := List.rec (motive := fun _ => (List (Nat × V) → Prop) → Prop) (fun K => K []) (fun p _ ih K => match p with
  | (t,v) => rnVn l 4 v fun v' => ih fun r' => K ((t,v') :: r')) ts
noncomputable def rnG (l:List (Nat × Nat)) (gs:List Gd):(List Gd → Prop) → Prop := List.rec (motive := fun _ => (List Gd → Prop) → Prop) (fun K => K []) (fun g _ ih K => match g with
  | ⟨t,k,w,v⟩ => rnVn l 4 v fun v' => ih fun r' => K (⟨t,k,w,v'⟩ :: r')) gs
noncomputable def rnB (l:List (Nat × Nat)) (bs:List (Nat × Blk)):(List (Nat × Blk) → Prop) → Prop := List.rec (motive := fun _ => (List (Nat × Blk) → Prop) → Prop) (fun K => K []) (fun p _ ih K => match p with
  | (i,.box t cs) => forceVLn (rnVn l 4) cs fun cs' => (match look l i with
    | some j => ih fun r' => K ((j,.box t cs') :: r')
    | none => ih fun r' => K ((i,.box t cs') :: r'))
  | (i,.arr t sz n row) => (match look l i with
    | some j => ih fun r' => K ((j,.arr t sz n row) :: r')
    | none => ih fun r' => K ((i,.arr t sz n row) :: r'))) bs
noncomputable def rnF (l:List (Nat × Nat)) (fs:List Fr):(List Fr → Prop) → Prop := List.rec (motive := fun _ => (List Fr → Prop) → Prop) (fun K => K []) (fun f _ ih K => match f with
  | ⟨ts,gs⟩ => rnT l ts fun ts' => rnG l gs fun gs' => ih fun r' => K (⟨ts',gs'⟩ :: r')) fs
noncomputable def rnSt (l:List (Nat × Nat)):St → (St → Prop) → Prop
  | ⟨base,nt,ts,gs,bs,fs⟩,K => rnT l ts fun ts => rnG l gs fun gs => rnB l bs fun bs => rnF l fs fun fs => K ⟨base,nt,ts,gs,bs,fs⟩
theorem forceVLr_eq {f:V → (V → Prop) → Prop} {g:Nat → Nat} (hf:∀ v K,f v K = K (v.ren g)) (l:List V):∀ K:List V → Prop,forceVLn f l K = K (renL g l) := by
  induction l with
  | nil => intro K; rfl
  | cons x r ih => intro K; show f x (fun x' => forceVLn f r fun r' => K (x' :: r')) = _; rw [hf,ih]; rfl
theorem rnVn_eq (l:List (Nat × Nat)):∀ (n:Nat) (v:V) (K:V → Prop),rnVn l n v K = K (v.ren (pmN l))
  | 0,_,_ => rfl
  | n + 1,v,K => by
    cases v with
    | any => rfl
    | ref i r o =>
      show (match look l i with | some j => K (.ref j r o) | none => K (.ref i r o)) = K (.ref (pmN l i) r o);unfold pmN
      cases look l i <;> rfl
    | osl i o n =>
      show (match look l i with | some j => K (.osl j o n) | none => K (.osl i o n)) = K (.osl (pmN l i) o n);unfold pmN
      cases look l i <;> rfl
    | d x => rfl
    | rp cs => rfl
    | agg vs => exact forceVLr_eq (rnVn_eq l n) vs _
    | tup vs => exact forceVLr_eq (rnVn_eq l n) vs _
    | fn f vs => exact forceVLr_eq (rnVn_eq l n) vs _
theorem rnT_eq (l:List (Nat × Nat)) (ts:List (Nat × V)):∀ K:List (Nat × V) → Prop,rnT l ts K = K (renT (pmN l) ts) := by
  induction ts with
  | nil => intro K; rfl
  | cons x r ih => intro K; obtain ⟨t,v⟩ := x; show rnVn l 4 v (fun v' => rnT l r fun r' => K ((t,v') :: r')) = _; rw [rnVn_eq,ih]; rfl
theorem rnG_eq (l:List (Nat × Nat)) (ts:List Gd):∀ K:List Gd → Prop,rnG l ts K = K (renG (pmN l) ts) := by
  induction ts with
  | nil => intro K; rfl
  | cons x r ih => intro K; obtain ⟨t,k,w,v⟩ := x; show rnVn l 4 v (fun v' => rnG l r fun r' => K (⟨t,k,w,v'⟩ :: r')) = _; rw [rnVn_eq,ih]; rfl
theorem rnB_eq (l:List (Nat × Nat)) (bs:List (Nat × Blk)):∀ K:List (Nat × Blk) → Prop,rnB l bs K = K (renB (pmN l) bs) := by
  induction bs with
  | nil => intro K; rfl
  | cons x r ih =>
    intro K; obtain ⟨i,b⟩ := x
    cases b with
    | box t cs =>
      show forceVLn (rnVn l 4) cs (fun cs' => (match look l i with | some j => rnB l r fun r' => K ((j,.box t cs') :: r') | none => rnB l r fun r' => K ((i,.box t cs') :: r'))) = K ((pmN l i,.box t (renL (pmN l) cs)) :: renB (pmN l) r);rw [forceVLr_eq (rnVn_eq l 4)];unfold pmN
      cases look l i <;> exact ih _
    | arr t sz n row =>
      show (match look l i with | some j => rnB l r fun r' => K ((j,.arr t sz n row) :: r') | none => rnB l r fun r' => K ((i,.arr t sz n row) :: r')) = K ((pmN l i,.arr t sz n row) :: renB (pmN l) r);unfold pmN
      cases look l i <;> exact ih _
theorem rnF_eq (l:List (Nat × Nat)) (fs:List Fr):∀ K:List Fr → Prop,rnF l fs K = K (renF (pmN l) fs) := by
  induction fs with
  | nil => intro K; rfl
  | cons x r ih => intro K; obtain ⟨ts,gs⟩ := x; show rnT l ts (fun ts' => rnG l gs fun gs' => rnF l r fun r' => K (⟨ts',gs'⟩ :: r')) = _; rw [rnT_eq,rnG_eq,ih]; rfl
theorem rnSt_eq (l:List (Nat × Nat)) (S:St) (K:St → Prop):rnSt l S K = K (S.ren (pmN l)) := by
  obtain ⟨base,nt,ts,gs,bs,fs⟩ := S;simp only [rnSt,rnT_eq,rnG_eq,rnB_eq,rnF_eq]; rfl
inductive Ed where
  | f (ids:List Nat)
  | s (l:List (Nat × Nat))
  | p (id t sz:Nat) (row:Nat → List D)
  | k (ids:List Nat)
  | c (t:Nat)
  | ca (t j:Nat)
  | cb (q j:Nat)
structure KF (b:Bool):Prop where
  h:b = false
structure KT (b:Bool):Prop where
  h:b = true
noncomputable def edP:List Ed → St → (St → Prop) → Prop
  | [],S,K => K S
  | .f l :: r,S,K => frzSt l S fun S => edP r S K
  | .s l :: r,S,K => KT (pmOk l) ∧ rnSt l S fun S => edP r S K
  | .p id t sz row :: r,⟨base,nt,ts,gs,bs,fs⟩,K => KF (St.mentions ⟨base,nt,ts,gs,bs,fs⟩ id) ∧ edP r ⟨base,nt,ts,gs,(id,.arr t sz 0 row) :: bs,fs⟩ K
  | .k ids :: r,⟨base,nt,ts,gs,bs,fs⟩,K => forceB (delIds ids bs) fun bs => edP r ⟨base,nt,ts,gs,bs,fs⟩ K
  | .c t :: r,⟨base,nt,ts,gs,bs,fs⟩,K => match look ts t with
    | some (.osl id off len) => (match look bs id with
      | some (.arr t0 sz _ row) => forceT (killT id ts) fun ts' => forceG (killG id gs) fun gs' => forceB (killB id bs) fun bs' => forceF (killF id fs) fun fs' =>
          edP r ⟨base,nt,(t,.osl id 0 len) :: ts',gs',(id,.arr t0 sz len (viewRow off row)) :: bs',fs'⟩ K
      | _ => Stuck "cut no such row")
    | _ => Stuck "cut no slice"
  | .ca t j :: r,⟨base,nt,ts,gs,bs,fs⟩,K => match look ts t with
    | some (.agg vs) => (match vs[j]? with
      | some (.osl id off len) => (match look bs id with
        | some (.arr t0 sz _ row) => forceVL ((killL id vs).set j (.osl id 0 len)) fun vs' => forceT (killT id ts) fun ts' => forceG (killG id gs) fun gs' => forceB (killB id bs) fun bs' => forceF (killF id fs) fun fs' =>
            edP r ⟨base,nt,(t,.agg vs') :: ts',gs',(id,.arr t0 sz len (viewRow off row)) :: bs',fs'⟩ K
        | _ => Stuck "cut no such row")
      | _ => Stuck "cut no slice")
    | _ => Stuck "cut no struct"
  | .cb q j :: r,⟨base,nt,ts,gs,bs,fs⟩,K => match look bs q with
    | some (.box t cs) => (match cs[j]? with
      | some (.osl id off len) => (match look bs id with
        | some (.arr t0 sz _ row) => forceVL ((killL id cs).set j (.osl id 0 len)) fun cs' => forceT (killT id ts) fun ts' => forceG (killG id gs) fun gs' => forceB (killB id bs) fun bs' => forceB (updB bs' q (.box t cs')) fun bs' => forceF (killF id fs) fun fs' =>
            edP r ⟨base,nt,ts',gs',(id,.arr t0 sz len (viewRow off row)) :: bs',fs'⟩ K
        | _ => Stuck "cut no such row")
      | _ => Stuck "cut no slice")
    | _ => Stuck "cut no variable"
theorem frzSt_le:∀ (l:List Nat) {S:St} {K:St → Prop},frzSt l S K → ∃ S1,LE S S1 ∧ K S1
  | [],S,_,h => ⟨S,.refl S,h⟩
  | i :: r,⟨base,nt,ts,gs,bs,fs⟩,K,h => by
    simp only [frzSt] at h;split at h
    · rename_i row hb;rw [forceT_eq,forceG_eq,forceB_eq,forceF_eq] at h;obtain ⟨S1,h1,h2⟩ := frzSt_le r h;exact ⟨S1,LE.trans ⟨fun B w0 F ρ a w hs => ⟨ρ,(hs.frz hb).1⟩⟩ h1,h2⟩
    · exact h.no.elim
theorem delK_le (ids:List Nat):LE S ⟨S.base,S.nt,S.tmps,S.gds,delIds ids S.blks,S.frames⟩ :=
  ⟨fun B w0 F ρ a w hs => ⟨ρ,sim_leB hs fun i b hb => by
    rw [look_del] at hb;split at hb
    · cases hb
    · exact ⟨b,hb,.refl b⟩⟩⟩
theorem sim_cut {S:St} {id off len n:Nat} {t0:TypeId} {sz:Nat} {row:Nat → List D} {B:Bd} {w0 w:World} {F:List (Array Value)} {ρ:Env} {a:Act} {x:Value} (h:Sim B w0 F ρ S a w) (hv:VR w (ownZ B S.blks ρ) ρ (.osl id off len) x) (hb:look S.blks id = some (.arr t0 sz n row)) :
    ∃ l:Loc,Sim B w0 F (ρ.set id l) ⟨S.base,S.nt,killT id S.tmps,killG id S.gds,(id,.arr t0 sz len (viewRow off row)) :: killB id S.blks,killF id S.frames⟩ a w ∧
      VR w (ownZ B ((id,.arr t0 sz len (viewRow off row)) :: killB id S.blks) (ρ.set id l)) (ρ.set id l) (.osl id 0 len) x := by
  have hk := simO_kill h.o id;have hkm := St.kill_mentions S id;obtain ⟨ad,cap,h1,h2,h3⟩ := hv.osl_inv;rcases h3 with ⟨h3,h4⟩ | ⟨h3,h4,h5,h6⟩
  · subst h3 h4;have hsn := sim_emptyRow (w := w) hk hkm (fun _ h => h.imp own_killB fun h => h) (sz := sz) (row := viewRow off row) (e := t0) ad;exact ⟨_,hsn.1,by rw [h1]; exact hsn.2⟩
  · have hb0 := h.blks id _ hb
    cases hb0 with
    | arr0 g => rw [g] at h3; cases h3
    | arr C et0 g1 g2 g3 g4 g5 g6 g7 g8 =>
    have hge := h.ge id _ hb h3;have hnown:¬ own (killB id S.blks) ρ (ρ id).b := by
      rintro ⟨i,k,hk,hp,hbi⟩;obtain ⟨hne,k0,hk0,_⟩ := look_killB hk;exact hne (h.sep i id _ _ hk0 hb hp h3 hbi)
    have hsn := sim_new (loc := ⟨(ρ id).b,(ρ id).o + off * sz,sz,len,cap,false⟩) (blk := .arr t0 sz len (viewRow off row)) (w' := w) hk hkm (fun _ h => h.imp own_killB fun h => h) (Nat.le_refl _)
      (fun _ _ _ => rfl) (fun _ _ => rfl) (fun _ => .inr ⟨.inl ⟨id,_,hb,h3,rfl⟩,hnown⟩) (fun _ => hge) rfl rfl rfl fun keep => by
        refine .arr C et0 (by simp [Env.set]) (by simp [Env.set]) (by simp [Env.set]) (by simp only [Env.set,if_true]; omega) (fun i hi => ?_) (by simp only [Env.set,if_true]; exact g6) ?_ fun i j d hi hd => ?_
        · rw [viewRow_eq]; exact g5 _ (by omega)
        · simp only [Env.set,if_true];have:off * sz + cap * sz = (ρ id).cap * sz := by rw [← Nat.add_mul]; congr 1; omega
          omega
        · simp only [Env.set,if_true];rw [viewRow_eq] at hd;have := (g8 (off + i) j d (by omega) hd).keep keep;rw [show (ρ id).o + off * sz + i * sz + j = (ρ id).o + (off + i) * sz + j by rw [Nat.add_mul]; omega];exact this
    refine ⟨_,hsn,?_⟩;rw [h1,h5,g2];have := VR.osl (w := w) (own := ownZ B ((id,.arr t0 sz len (viewRow off row)) :: killB id S.blks) (ρ.set id ⟨(ρ id).b,(ρ id).o + off * sz,sz,len,cap,false⟩)) (ρ := ρ.set id ⟨(ρ id).b,(ρ id).o + off * sz,sz,len,cap,false⟩) (id := id) (off := 0) (len := len) (by simp [Env.set]) (by simp [Env.set]) (by simp only [Env.set,if_true]; omega);simpa [Env.set] using this
theorem sim_top {S':St} {B:Bd} {w0 w:World} {F:List (Array Value)} {ρ:Env} {a:Act} {ts:Nat} {v:V} (h1:Sim B w0 F ρ S' a w) (h2:VR w (ownZ B S'.blks ρ) ρ v (a.tmps.getD ts undef)):Sim B w0 F ρ ⟨S'.base,S'.nt,(ts,v) :: S'.tmps,S'.gds,S'.blks,S'.frames⟩ a w :=
  ⟨h1.below,h1.hB,h1.defers,h1.nt,⟨fun t v ht => by
    rcases look_cons ht with ⟨rfl,rfl⟩ | ⟨_,ht⟩
    · exact h2
    · exact h1.top.tmps t v ht,h1.top.gds⟩,h1.blks,h1.sep,h1.ge,h1.frames⟩
theorem le_cut (S:St) {id off len n:Nat} {t0:TypeId} {sz:Nat} {row:Nat → List D} {ts:Nat} (hv:look S.tmps ts = some (.osl id off len)) (hb:look S.blks id = some (.arr t0 sz n row)) :
    LE S ⟨S.base,S.nt,(ts,.osl id 0 len) :: killT id S.tmps,killG id S.gds,(id,.arr t0 sz len (viewRow off row)) :: killB id S.blks,killF id S.frames⟩ := ⟨fun B w0 F ρ a w h => by
  obtain ⟨l,h1,h2⟩ := sim_cut h (h.top.tmps ts _ hv) hb;exact ⟨_,sim_top h1 h2⟩⟩
theorem look_killT {id t:Nat} {v:V}:∀ {ts:List (Nat × V)},look ts t = some v → look (killT id ts) t = some (v.kill id)
  | (u,x) :: r,h => by
    simp only [look] at h;show look ((u,x.kill id) :: killT id r) t = _;simp only [look];split at h
    · rename_i e;rw [Option.some.inj h]
    · exact look_killT h
  | [],h => by simp [look] at h
theorem le_cutA (S:St) {id off len n:Nat} {t0:TypeId} {sz:Nat} {row:Nat → List D} {ts j:Nat} {vs:List V} (hv:look S.tmps ts = some (.agg vs)) (hj:vs[j]? = some (.osl id off len)) (hb:look S.blks id = some (.arr t0 sz n row)) :
    LE S ⟨S.base,S.nt,(ts,.agg ((killL id vs).set j (.osl id 0 len))) :: killT id S.tmps,killG id S.gds,(id,.arr t0 sz len (viewRow off row)) :: killB id S.blks,killF id S.frames⟩ := ⟨fun B w0 F ρ a w h => by
  have hx := h.top.tmps ts _ hv;generalize hy:a.tmps.getD ts undef = y at hx
  cases hx with | agg g0 g1 g2 =>
  rename_i cs;obtain ⟨l,h1,h2⟩ := sim_cut h (g2 j _ hj) hb;have hk := h1.top.tmps ts _ (look_killT hv);rw [hy] at hk;have hk:VR _ _ _ (.agg (killL id vs)) (.agg cs) := hk
  cases hk with | agg k0 k1 k2 =>
  refine ⟨_,sim_top h1 ?_⟩;rw [hy];refine .agg (by rw [List.length_set]; exact k0) k1 fun q u hq => ?_;rw [List.getElem?_set] at hq;split at hq
  · rename_i e;subst e;split at hq
    · cases hq; exact h2
    · cases hq
  · exact k2 q u hq⟩
theorem look_killB' {id q:Nat} (hne:q ≠ id):∀ {bs:List (Nat × Blk)} {b:Blk},look bs q = some b → look (killB id bs) q = some (b.kill id)
  | (u,x) :: r,b,h => by
    simp only [look] at h;simp only [killB];split at h
    · rename_i e;have e := Nat.eq_of_beq_eq_true e;subst e;have:Nat.beq u id = false := by
        cases c:Nat.beq u id
        · rfl
        · exact absurd (Nat.eq_of_beq_eq_true c) hne
      rw [this];simp only [look,Nat.beq_refl];rw [Option.some.inj h]
    · rename_i e;split
      · exact look_killB' hne h
      · simp only [look,e];exact look_killB' hne h
  | [],_,h => by simp [look] at h
theorem sim_upd {q:Nat} {b0 blk:Blk} {S:St} {B:Bd} {w0 w:World} {F:List (Array Value)} {ρ:Env} {a:Act} (h:Sim B w0 F ρ S a w) (h0:look S.blks q = some b0) (hbr:BR w (ownZ B S.blks ρ) ρ q blk) :
    Sim B w0 F ρ ⟨S.base,S.nt,S.tmps,S.gds,updB S.blks q blk,S.frames⟩ a w := by
  have keep:Keep w (ownZ B S.blks ρ) w (ownZ B (updB S.blks q blk) ρ) := ⟨Nat.le_refl _,fun b _ ho => ⟨rfl,fun h => ho (h.imp (own_updB h0) fun h => h)⟩⟩;have lift:∀ i x,look (updB S.blks q blk) i = some x → ∃ x0,look S.blks i = some x0 := fun i x hx => by
    rcases look_updB hx with ⟨rfl,_,b,hb⟩ | ⟨_,hb⟩
    · exact ⟨b,hb⟩
    · exact ⟨x,hb⟩
  refine ⟨h.below,h.hB,h.defers,h.nt,h.top.keep keep fun _ _ => rfl,fun i b hb => ?_,fun i j x y hx hy => ?_,fun i x hx => ?_,h.frames.1,fun i f' tm hf' htm => (h.frames.2 i f' tm hf' htm).keep keep fun _ _ => rfl⟩
  · rcases look_updB hb with ⟨rfl,rfl,_⟩ | ⟨hn,hb⟩
    · exact hbr.keep keep rfl (fun _ => rfl) fun _ _ => rfl
    · exact (h.blks i b hb).keep keep rfl (fun _ => rfl) fun _ _ => rfl
  · obtain ⟨x0,hx0⟩ := lift i x hx;obtain ⟨y0,hy0⟩ := lift j y hy;exact h.sep i j x0 y0 hx0 hy0
  · obtain ⟨x0,hx0⟩ := lift i x hx;exact h.ge i x0 hx0
theorem le_cutB (S:St) {id off len n:Nat} {t0:TypeId} {sz:Nat} {row:Nat → List D} {q j:Nat} {t:TypeId} {cs:List V} (hq:look S.blks q = some (.box t cs)) (hj:cs[j]? = some (.osl id off len)) (hb:look S.blks id = some (.arr t0 sz n row)) :
    LE S ⟨S.base,S.nt,killT id S.tmps,killG id S.gds,(id,.arr t0 sz len (viewRow off row)) :: updB (killB id S.blks) q (.box t ((killL id cs).set j (.osl id 0 len))),killF id S.frames⟩ := ⟨fun B w0 F ρ a w h => by
  have hne:q ≠ id := fun e => by subst e; rw [hq] at hb; cases hb
  cases h.blks q _ hq with
  | box C g1 g2 g3 g4 g5 g6 g7 g8 =>
  obtain ⟨l,h1,h2⟩ := sim_cut h (g8 j _ hj) hb;have hid:Nat.beq id q = false := by
    cases c:Nat.beq id q
    · rfl
    · exact absurd (Nat.eq_of_beq_eq_true c).symm hne
  have hlk:look ((id,Blk.arr t0 sz len (viewRow off row)) :: killB id S.blks) q = some (.box t (killL id cs)) := by
    simp only [look,hid];exact look_killB' hne hq
  refine ⟨ρ.set id l,?_⟩;have hb1 := h1.blks q _ hlk;have hr:(ρ.set id l) q = ρ q := Env.set_other hne;have hbr:BR w (ownZ B ((id,Blk.arr t0 sz len (viewRow off row)) :: killB id S.blks) (ρ.set id l)) (ρ.set id l) q (.box t ((killL id cs).set j (.osl id 0 len))) := by
    cases hb1 with
    | box C' k1 k2 k3 k4 k5 k6 k7 k8 =>
    have ec:C' = C := by
      rw [hr,g5] at k5
      cases k5; rfl
    subst ec;refine .box C' k1 k2 (by rw [List.length_set]; exact k3) k4 k5 (by rw [List.length_set]; exact k6) k7 fun i v hv => ?_;rw [List.getElem?_set] at hv;split at hv
    · rename_i e;subst e;split at hv
      · cases hv; exact h2
      · cases hv
    · exact k8 i v hv
  have := sim_upd h1 hlk hbr;have eu:updB ((id,Blk.arr t0 sz len (viewRow off row)) :: killB id S.blks) q (.box t ((killL id cs).set j (.osl id 0 len))) = (id,.arr t0 sz len (viewRow off row)) :: updB (killB id S.blks) q (.box t ((killL id cs).set j (.osl id 0 len))) := by
    simp only [updB,hid]
  rw [← eu];exact this⟩
theorem edP_le:∀ (l:List Ed) {S:St} {K:St → Prop},edP l S K → ∃ S1,LE S S1 ∧ K S1
  | [],S,_,h => ⟨S,.refl S,h⟩
  | .f l :: r,S,K,h => by
    obtain ⟨S1,h1,h2⟩ := frzSt_le l h;obtain ⟨S2,h3,h4⟩ := edP_le r h2;exact ⟨S2,h1.trans h3,h4⟩
  | .s l :: r,S,K,h => by
    simp only [edP,rnSt_eq] at h;obtain ⟨S2,h3,h4⟩ := edP_le r h.2;exact ⟨S2,(le_ren _ (pmN (pmInv l)) (pm_inv h.1.h) S).trans h3,h4⟩
  | .p id t sz row :: r,⟨base,nt,ts,gs,bs,fs⟩,K,h => by
    obtain ⟨S2,h3,h4⟩ := edP_le r h.2;exact ⟨S2,(le_phantom ⟨base,nt,ts,gs,bs,fs⟩ id t sz row h.1.h).trans h3,h4⟩
  | .k ids :: r,⟨base,nt,ts,gs,bs,fs⟩,K,h => by
    simp only [edP,forceB_eq] at h;obtain ⟨S2,h3,h4⟩ := edP_le r h;exact ⟨S2,(delK_le (S := ⟨base,nt,ts,gs,bs,fs⟩) ids).trans h3,h4⟩
  | .c t :: r,⟨base,nt,ts,gs,bs,fs⟩,K,h => by
    simp only [edP] at h;split at h
    · rename_i id off len hv;split at h
      · rename_i t0 sz n row hb;rw [forceT_eq,forceG_eq,forceB_eq,forceF_eq] at h;obtain ⟨S2,h3,h4⟩ := edP_le r h;exact ⟨S2,(le_cut ⟨base,nt,ts,gs,bs,fs⟩ hv hb).trans h3,h4⟩
      · exact h.no.elim
    · exact h.no.elim
  | .ca t j :: r,⟨base,nt,ts,gs,bs,fs⟩,K,h => by
    simp only [edP] at h;split at h
    · rename_i vs hv;split at h
      · rename_i id off len hj;split at h
        · rename_i t0 sz n row hb;rw [forceVL_eq,forceT_eq,forceG_eq,forceB_eq,forceF_eq] at h;obtain ⟨S2,h3,h4⟩ := edP_le r h;exact ⟨S2,(le_cutA ⟨base,nt,ts,gs,bs,fs⟩ hv hj hb).trans h3,h4⟩
        · exact h.no.elim
      · exact h.no.elim
    · exact h.no.elim
  | .cb q j :: r,⟨base,nt,ts,gs,bs,fs⟩,K,h => by
    simp only [edP] at h;split at h
    · rename_i t cs hq;split at h
      · rename_i id off len hj;split at h
        · rename_i t0 sz n row hb;rw [forceVL_eq,forceT_eq,forceG_eq,forceB_eq,forceB_eq,forceF_eq] at h;obtain ⟨S2,h3,h4⟩ := edP_le r h;exact ⟨S2,(le_cutB ⟨base,nt,ts,gs,bs,fs⟩ hq hj hb).trans h3,h4⟩
        · exact h.no.elim
      · exact h.no.elim
    · exact h.no.elim
def restT (ks:List Nat):St → St
  | ⟨base,nt,ts,_,bs,fs⟩ => ⟨base,nt,ks.map fun k => (k,getT ts k),[],bs,fs⟩
theorem leT_rest {ts:List (Nat × V)}:∀ (ks:List Nat),LeT ts (ks.map fun k => (k,getT ts k))
  | [] => trivial
  | k :: r => by
    refine ⟨?_,leT_rest r⟩;unfold getT
    cases look ts k <;> exact .refl _
theorem restT_le (ks:List Nat):LE S (restT ks S) := by
  obtain ⟨base,nt,ts,gs,bs,fs⟩ := S;exact ⟨fun B w0 F ρ a w h => ⟨ρ,h.below,h.hB,h.defers,h.nt,h.top.le (leT_rest ks),h.blks,h.sep,h.ge,h.frames⟩⟩
def LeP:St → St → Prop
  | ⟨_,nt,ts,_,bs,fs⟩,⟨_,nt',ts',gs',bs',fs'⟩ => (nt = nt' ∧ gs' = []) ∧ LeT ts ts' ∧ LeB bs bs' ∧ LeF fs fs'
theorem LeP.le {S S':St} (h:LeP S S'):LE S S' := by
  obtain ⟨base,nt,ts,gs,bs,fs⟩ := S;obtain ⟨base',nt',ts',gs',bs',fs'⟩ := S';obtain ⟨⟨rfl,rfl⟩,h1,h2,h3⟩ := h;exact le_mk h1 h2 h3
theorem VLe.tupL {vs vs':List V} (h:CellsLe vs vs'):VLe (.tup vs) (.tup vs') := ⟨fun w ow ρ x hx => by
  obtain ⟨h1,h2⟩ := h.get
  cases hx with
  | tup hs hv =>
    refine .tup (by rw [hs,h1]) fun j v hj => ?_;obtain ⟨u,hu,hle⟩ := h2 j v hj;exact hle.out _ _ _ _ (hv j u hu)⟩
theorem srA {p:Prop} (h:p := by
  (repeat' first | ((conv => whnf); first | exact trivial | refine And.intro ?_ ?_ | exact KF.mk (by kernel_rfl) | exact KT.mk (by kernel_rfl) | exact BLe.refl _ | exact VLe.refl _) | exact trivial | exact rfl | refine And.intro ?_ ?_ | exact BLe.refl _ | exact VLe.refl _ | exact VLe.any _ | exact VLe.nil_osl rfl | exact VLe.nil_sl rfl | exact VLe.built rfl rfl | (refine VLe.osl rfl ?_; (first | rfl | assumption | (refine Eq.symm ?_; assumption) | (simp; done) | (simp [dsub_eq] <;> omega) | omega | (simp [dsub_eq] <;> (dsimp only at *; omega)))) | exact VLe.rows (by first | rfl | assumption | (refine Eq.symm ?_; assumption) | (simp; done) | (simp [dsub_eq] <;> omega) | omega | (simp [dsub_eq] <;> (dsimp only at *; omega))) (fun _ _ => rfl) | exact VLe.rows (by simp [dsub_eq] <;> omega) rows_take | exact VLe.rows (by simp [dsub_eq] <;> omega) rows_dt | exact VLe.rows (by simp [dsub_eq] <;> omega) rows_vt | exact VLe.rows (by simp) (fun i _ => by simp [viewRow_eq,Nat.add_comm]) | refine VLe.aggL ?_ | refine VLe.tupL ?_ | (refine BLe.rows rfl ?_ fun _ _ => rfl; (first | rfl | assumption | (refine Eq.symm ?_; assumption) | (simp; done) | (simp [dsub_eq] <;> omega) | omega | (simp [dsub_eq] <;> (dsimp only at *; omega)))) | (refine BLe.rows rfl rfl ?_; first | exact rows_take) | (refine BLe.rows rfl ?_ rows_take; (first | rfl | (simp; done) | (simp [dsub_eq] <;> omega) | omega | (simp [dsub_eq] <;> (dsimp only at *; omega)))) | refine BLe.box ?_ | exact fun _ _ => rfl | exact rows_take | (intro i hi; dsimp only at hi ⊢; simp only [List.length_take] at hi; simp [viewRow_eq,addOff_eq,List.getD_eq_getElem?_getD,Nat.lt_of_lt_of_le hi (Nat.min_le_left _ _)]; done) | (first | rfl | assumption | (refine Eq.symm ?_; assumption) | (simp; done) | (simp [dsub_eq] <;> omega) | omega | (simp [dsub_eq] <;> (dsimp only at *; omega))))):p := h
def keysT:St → List Nat
  | ⟨_,_,ts,_,_,_⟩ => ts.map (·.1)
theorem leX {S S':St} (l:List Ed) (h:stK (restT (keysT S') S) fun S => edP l S fun S1 => LeP S1 S' := by exact srA):LE S S' := by
  rw [stK_eq] at h;obtain ⟨S1,h1,h2⟩ := edP_le l h;exact (restT_le _).trans (h1.trans h2.le)
def keysR:List ResultVar → List Nat
  | [] => []
  | .tmp t :: r => t :: keysR r
  | .cell x _ :: r => x :: keysR r
def retX (tb:Tb) (rs:List ResultVar) (res:V) (nb:List Nb):Exit → St → Prop := fun e S' => match e with
  | .ret => ∃ S'',LE S' S'' ∧ resV tb rs S'' fun v => VLe v res ∧ NbIn S''.blks nb
  | .normal => ∃ S'',LE S' S'' ∧ resV tb rs S'' fun v => VLe v res ∧ NbIn S''.blks nb
  | _ => Stuck "return no way out"
theorem lfP {rs:List ResultVar} {res:V} {nb:List Nb} (l:List Ed) (h:stK (restT (keysR rs) S) fun S => edP l S fun S1 => resV tb rs S1 fun v => VLe v res ∧ NbIn S1.blks nb := by exact srA) :
    ∃ S'',LE S S'' ∧ resV tb rs S'' fun v => VLe v res ∧ NbIn S''.blks nb := by
  rw [stK_eq] at h;obtain ⟨S1,h1,h2⟩ := edP_le l h;exact ⟨S1,(restT_le _).trans h1,h2⟩
theorem retX_sound (hT:TOk P tb) {fn:Func} {res:V} {nb:List Nb} {S':St} {a':Act} {w':World} (hflat:flatV res = true) (hrows:∀ b ∈ nb,∀ i,i < b.n → ∀ d ∈ b.row i,atomD d = true)
    (h:Sim (allOld w) w [] ρ S' a' w') (hk:resV tb fn.results.toList S' fun v => VLe v res ∧ NbIn S'.blks nb) :
    a'.defers = [] ∧ ∃ v,(results fn a'.tmps).run P w' = .ok v w' ∧ ∃ v' ρ',Ending.returned v = .returned v' ∧ Pure w w' ∧ VR w' (fun b => b < w.heap.size) ρ' res v' ∧
      (∀ b ∈ nb,BR w' (fun b => b < w.heap.size) ρ' b.id (.arr b.t b.sz b.n b.row)) ∧ (∀ x ∈ nb,∀ y ∈ nb,(ρ' x.id).ph = false → (ρ' y.id).ph = false → (ρ' x.id).b = (ρ' y.id).b → x.id = y.id) ∧ (∀ x ∈ nb,(ρ' x.id).ph = false → w.heap.size ≤ (ρ' x.id).b) := by
  obtain ⟨x,v,h1,h2,h3,h4⟩ := resV_sound hT h fn _ hk;have hn := nbIn_mem h4;refine ⟨h.defers,v,h1,v,ρ,rfl,⟨h.below.os,h.below.tape,h.below.output,h.below.size,h.below.block⟩,(h3.out _ _ _ _ h2).flat hflat,fun b hb => ?_,fun p hp q hq hpp hpq hpe => ?_,fun p hp hpp => ?_⟩
  · obtain ⟨t,n,row,g1,g2,g3⟩ := hn b hb;subst g2
    cases h.blks _ _ g1 with
    | arr0 k1 k2 k3 k4 => exact .arr0 k1 k2 k3 k4
    | arr C et k1 k2 k3 k4 k5 k6 k7 k8 =>
      exact .arr C et k1 k2 k3 k4 (fun i hi => by rw [← g3 i hi]; exact k5 i hi) k6 k7 fun i j d hi hd => (k8 i j d hi (by rw [g3 i hi]; exact hd)).atom (hrows b hb i hi d (List.mem_of_getElem? hd)) _ _
  · obtain ⟨_,_,_,g1,_⟩ := hn p hp;obtain ⟨_,_,_,g2,_⟩ := hn q hq;exact h.sep _ _ _ _ g1 g2 hpp hpq hpe
  · obtain ⟨_,_,_,g1,_⟩ := hn p hp;exact Nat.le_of_not_lt (h.ge _ _ g1 hpp)
theorem pureC_x (hT:TOk P tb) {f:FuncId} {fn:Func} {c:Code} {args:List V} {res:V} {nb:List Nb} (hf:P.funcs[f]? = some fn) (hb:fn.body = some c)
    (h : wpc P tb c ⟨0, fn.ntmps, enumT 0 args, [], [], []⟩ (retX tb fn.results.toList res nb)) (hn : (fn.name == "runtime.NumGoroutine") = false := by kernel_rfl)
    (hl:Nat.ble args.length fn.ntmps = true := by kernel_rfl) (hflat:flatV res = true := by kernel_rfl) (hrows:∀ b ∈ nb,∀ i,i < b.n → ∀ d ∈ b.row i,atomD d = true := by simp [atomD]) (hdist:nb.Pairwise fun x y => x.id ≠ y.id := by simp) (hids:∀ id,res.mentions id = true → ∃ b ∈ nb,b.id = id := by exact ids_of rfl):PureC P f args res nb := by
  refine ⟨⟨fn,hf,hn,by simp [hb]⟩,hflat,hrows,hdist,hids,fun w vals ρ0 hv => ?_⟩;have hl := Nat.le_of_ble_eq_true hl;have hvs := hv.1;have hown:∀ b,own ([]:List (Nat × Blk)) ρ0 b → False := fun b ⟨_,_,h,_⟩ => by simp [look] at h
  refine calls_of_wp hf hb (wp_mono (wpc_sound hT c _ _ h (allOld w) w [] ρ0 ⟨vals ++ Array.replicate (fn.ntmps - vals.size) undef,[]⟩ w ?_) ?_)
  · refine ⟨Kept.refl _ _,fun _ h => h,rfl,by simp; omega,⟨fun t v ht => ?_,fun g hg => by simp at hg⟩,fun id b hb => by simp [look] at hb,fun i j x y hx => by simp [look] at hx,fun i x hx => by simp [look] at hx,rfl,fun i f tm hf => by simp at hf⟩;obtain ⟨_,h2⟩ := look_enumT ht;have hlt := (List.getElem?_eq_some_iff.1 h2).1;simp only [Nat.sub_zero] at h2 hlt;dsimp only;rw [enter_getD (by omega)];exact (hv.2 t v h2).keep ⟨Nat.le_refl _,fun b _ _ => ⟨rfl,fun h => h.elim (hown b) fun h => h⟩⟩ fun _ _ => rfl
  · rintro e a' w' ⟨ρ',S',h1,h2⟩
    cases e <;> simp only [retX] at h2 <;> first
      | exact h2.no.elim
      | (obtain ⟨S'',hle,hk⟩ := h2
         obtain ⟨ρ'',h3⟩ := hle.out _ _ _ _ _ _ h1;exact retX_sound hT hflat hrows h3 hk)
def anchLX (M:List (Nat × Blk)) (ts:List (Nat × V)):Nat → List (Nat × Blk) → Prop
  | _,[] => True
  | t,(j,b) :: r => (match look M j with
    | some b' => sameF b b' ∧ (match look ts t with
      | some u => VLe u (anch b j)
      | none => Stuck "no anchor")
    | none => True) ∧ anchLX M ts (t + 1) r
def anchFX (M bs:List (Nat × Blk)):List Fr → Prop
  | ⟨ts,_⟩ :: _ => anchLX M ts 0 bs
  | [] => Stuck "no frame"
theorem anchLX_of {M:List (Nat × Blk)} {ts:List (Nat × V)}:∀ {bs:List (Nat × Blk)} {t:Nat},anchLX M ts t bs → ∀ j b b',look bs j = some b → look M j = some b' → ∃ i u,bs[i]? = some (j,b) ∧ sameF b b' ∧ look ts (t + i) = some u ∧ VLe u (anch b j)
  | (u,x) :: r,t,h,j,b,b',hb,hb' => by
    simp only [anchLX] at h;rcases look_cons hb with ⟨rfl,rfl⟩ | ⟨hn,hb⟩
    · have h1 := h.1;rw [hb'] at h1;obtain ⟨h1,h2⟩ := h1
      cases hl:look ts t with
      | none => rw [hl] at h2; exact h2.no.elim
      | some v => rw [hl] at h2; exact ⟨0,v,rfl,h1,hl,h2⟩
    · obtain ⟨i,v,h1,h2,h3,h4⟩ := anchLX_of h.2 j b b' hb hb';exact ⟨i + 1,v,by simpa using h1,h2,by rw [show t + (i + 1) = t + 1 + i by omega]; exact h3,h4⟩
  | [],_,_,_,_,_,hb,_ => by simp [look] at hb
def retEX (tb:Tb) (rs:List ResultVar) (res:V) (bs M:List (Nat × Blk)):Exit → St → Prop := fun e S' => match e with
  | .ret => ∃ S'',LE S' S'' ∧ resV tb rs S'' fun v => VLe v res ∧ outB S''.blks M ∧ anchFX M bs S''.frames
  | .normal => ∃ S'',LE S' S'' ∧ resV tb rs S'' fun v => VLe v res ∧ outB S''.blks M ∧ anchFX M bs S''.frames
  | _ => Stuck "return no way out"
theorem lfE {rs:List ResultVar} {res:V} {bs M:List (Nat × Blk)} (l:List Ed) (h:stK (restT (keysR rs) S) fun S => edP l S fun S1 => resV tb rs S1 fun v => VLe v res ∧ outB S1.blks M ∧ anchFX M bs S1.frames := by exact srA) :
    ∃ S'',LE S S'' ∧ resV tb rs S'' fun v => VLe v res ∧ outB S''.blks M ∧ anchFX M bs S''.frames := by
  rw [stK_eq] at h;obtain ⟨S1,h1,h2⟩ := edP_le l h;exact ⟨S1,(restT_le _).trans h1,h2⟩
theorem effC_x (hT:TOk P tb) {f:FuncId} {fn:Func} {c:Code} {args:List V} {res:V} {bs M:List (Nat × Blk)} (hf:P.funcs[f]? = some fn) (hb:fn.body = some c)
    (h : wpc P tb c ⟨0, fn.ntmps, enumT 0 args, [], bs, [⟨anchT 0 bs, []⟩]⟩ (retEX tb fn.results.toList res bs M)) (hn : (fn.name == "runtime.NumGoroutine") = false := by kernel_rfl)
    (hl:Nat.ble args.length fn.ntmps = true := by kernel_rfl) (s1:res.within (hasB M) = true := by kernel_rfl) (s2:withinB (hasB M) M = true := by kernel_rfl) (s3:apartN (fun i => i) (idsB bs) = true := by kernel_rfl):EffC P f args bs res M := by
  refine ⟨⟨fn,hf,hn,by simp [hb]⟩,s1,s2,fun Z w vals ρ0 hv hblk hsep hZ hlt => ?_⟩;have hl := Nat.le_of_ble_eq_true hl;have hvs := hv.1
  let B:Bd := ⟨fun b => b < w.heap.size ∧ ¬ own bs ρ0 b,Z,fun b hb => ⟨hlt b hb,fun ⟨i,x,hx,hp,e⟩ => hZ i x hx hp (e ▸ hb)⟩⟩
  let tm:Array Value := (bs.map fun p => anchVal ρ0 p.2 p.1).toArray
  refine calls_of_wp hf hb (wp_mono (wpc_sound hT c _ _ h B w [tm] ρ0 ⟨vals ++ Array.replicate (fn.ntmps - vals.size) undef,[]⟩ w ?_) ?_)
  · refine ⟨Kept.refl _ _,fun _ h => h.1,rfl,by simp; omega,⟨fun t v ht => ?_,fun g hg => by simp at hg⟩,hblk,hsep,fun i x hx hp hk => hk.2 ⟨i,x,hx,hp,rfl⟩,rfl,fun i f t hf' ht => ?_⟩
    · obtain ⟨_,h2⟩ := look_enumT ht;have hlt := (List.getElem?_eq_some_iff.1 h2).1;simp only [Nat.sub_zero] at h2 hlt;dsimp only;rw [enter_getD (by omega)];exact hv.2 t v h2
    · cases i with
      | succ i => simp at hf'
      | zero =>
        simp only [List.getElem?_cons_zero,Option.some.injEq] at hf' ht;subst hf' ht;refine ⟨fun t v htv => ?_,fun g hg => by simp at hg⟩;obtain ⟨i,j,b,rfl,h1,rfl⟩ := anchT_get htv;rw [Nat.zero_add,anchVals_get h1];exact anch_val (hblk j b (look_of_get s3 h1))
  · rintro e a' w' ⟨ρ',S',h1,h2⟩;have key:(∃ S'',LE S' S'' ∧ resV tb fn.results.toList S'' fun v => VLe v res ∧ outB S''.blks M ∧ anchFX M bs S''.frames) → a'.defers = [] ∧ ∃ v,(results fn a'.tmps).run P w' = .ok v w' ∧ ∃ v' ρ,Ending.returned v = .returned v' ∧ Kept (fun b => b < w.heap.size ∧ ¬ own bs ρ0 b) w w' ∧ (∀ i x y,look bs i = some x → look M i = some y → Agr (ρ0 i) (ρ i)) ∧
      VR w' (fun x => own M ρ x ∨ Z x) ρ res v' ∧ (∀ i b,look M i = some b → BR w' (fun x => own M ρ x ∨ Z x) ρ i b) ∧
      (∀ i j x y,look M i = some x → look M j = some y → (ρ i).ph = false → (ρ j).ph = false → (ρ i).b = (ρ j).b → i = j) ∧
      (∀ i x,look M i = some x → (ρ i).ph = false → w.heap.size ≤ (ρ i).b ∨ own bs ρ0 (ρ i).b) := fun hk => by
      obtain ⟨S'',hle,hk⟩ := hk;obtain ⟨ρ',h1⟩ := hle.out _ _ _ _ _ _ h1;obtain ⟨x,v,k1,k2,k3,k4,k5⟩ := resV_sound hT h1 fn _ hk;have hout := outB_of k4;have look1:∀ i b,look M i = some b → ∃ b0,look S''.blks i = some b0 ∧ BLe b0 b := fun i b hb => hout i b (mem_of_look hb);have sub:∀ b,own M ρ' b ∨ Z b → ownZ B S''.blks ρ' b := fun b hb => by
        rcases hb with ⟨i,y,hy,hp,e⟩ | hb
        · obtain ⟨b0,g1,_⟩ := look1 i y hy;exact .inl ⟨i,b0,g1,hp,e⟩
        · exact .inr hb
      refine ⟨h1.defers,v,k1,v,ρ',rfl,h1.below,fun i y z hy hz => ?_,(k3.out _ _ _ _ k2).mono sub,fun i b hb => ?_,fun i j y z hy hz => ?_,fun i y hy hp => ?_⟩
      · cases hfr:S''.frames with
        | nil => rw [hfr] at k5; exact k5.no.elim
        | cons f0 fs =>
          rw [hfr] at k5;obtain ⟨ts,gs⟩ := f0;obtain ⟨n,u,g1,g2,g3,g7⟩ := anchLX_of k5 i y z hy hz;obtain ⟨z0,g4,g5⟩ := look1 i z hz;have g6 := g7.out _ _ _ _ ((h1.frames.2 0 ⟨ts,gs⟩ tm (by rw [hfr]; rfl) rfl).tmps _ _ g3);rw [Nat.zero_add,anchVals_get g1] at g6;exact anch_agr (hblk i y hy) (g5.out _ _ _ _ (h1.blks i z0 g4)) g2 g6
      · obtain ⟨b0,g1,g2⟩ := look1 i b hb;exact (g2.out _ _ _ _ (h1.blks i b0 g1)).mono sub
      · obtain ⟨y0,g1,_⟩ := look1 i y hy;obtain ⟨z0,g2,_⟩ := look1 j z hz;exact h1.sep i j y0 z0 g1 g2
      · obtain ⟨y0,g1,_⟩ := look1 i y hy;have := h1.ge i y0 g1 hp;rcases Nat.lt_or_ge (ρ' i).b w.heap.size with h3 | h3
        · exact .inr (Classical.byContradiction fun h4 => this ⟨h3,h4⟩)
        · exact .inl h3
    cases e <;> simp only [retEX] at h2 <;> first
      | exact h2.no.elim
      | exact key h2
inductive Tr where
  | e (j:Nat) (pre:List (Nat × Blk)) (res:V) (nb post:List (Nat × Blk))
  | r (j:Nat) (pre:List (Nat × Blk)) (res:V) (nb:List (Nat × Blk))
  | a (j:Nat) (pre:List (Nat × Blk)) (res:V) (post:List (Nat × Blk))
  | l (j:Nat) (pre:List (Nat × Blk)) (res:V)
  | u (j k:Nat) (res:V) (nb:List Nb)
def Tr.j:Tr → Nat
  | .e j _ _ _ _ => j
  | .r j _ _ _ => j
  | .a j _ _ _ => j
  | .l j _ _ => j
  | .u j _ _ _ => j
def Tr.c (P:Program):Tr → CS
  | .e _ pre res nb post => .eff res nb post (fun g vs => EffD P pre g vs res nb post) (LeB pre post)
  | .r _ pre res nb => .eff res nb pre (fun g vs => EffD P pre g vs res nb pre) (LeB pre pre)
  | .a _ pre res post => .app pre res post
  | .l _ pre res => .app pre res pre
  | .u _ k res nb => .pure k res nb
noncomputable def trF (l:List Tr) (j:Nat):Option Tr := List.rec (motive := fun _ => Option Tr) none (fun t _ ih => match Nat.beq t.j j with
  | true => some t
  | false => ih) l
noncomputable def tcs (P:Program) (l:List Tr) (j:Nat):Option CS := match trF l j with
  | some t => some (t.c P)
  | none => none
noncomputable def bitsF (f:Nat):Nat → List Bool := Nat.rec (motive := fun _ => Nat → List Bool) (fun _ => []) (fun _ ih n => match Nat.beq n 0 with
  | true => []
  | false => Nat.beq (n % 2) 1 :: ih (n / 2)) f
noncomputable def dm (l:List Nat):List (List Bool) := l.map (bitsF 400)
theorem draw_u (hT:TOk P tb) {id:Nat} {opsA:Array Oper} {S:St} {K:St → Prop} (l:List Tr) (m:Nat) (ls mk mkt:List Nat) (h:evDrawK P tb (tcs P l) m (dm mk) opsA.toList S K)
    (hmx:P.follows .mixedOrders = true := by kernel_rfl) (hml:m ≤ opsA.size := by decide) (hno:(noEff (tcs P l) m && dstChk opsA.toList (tcs P l) m) = true := by kernel_rfl)
    (hst:statOkL m ls opsA.toList (dm mk) (dm mkt) = true := by kernel_rfl):DrawP P id opsA S K :=
  draw_k hT hmx (tcs P l) m ls (dm mk) (dm mkt) hml hno hst h
theorem cC {base nt:Nat} {ts:List (Nat × V)} {gs:List Gd} {bs:List (Nat × Blk)} {fs:List Fr} {f:FuncId} {args args':List V} {res:V} {nb:List Nb} {K:V → St → Prop} (k:Nat) (h:PureC P f args' res nb)
    (hk:forceV (res.shift k) fun v => forceB (nb.map (Nb.ent k) ++ bs) fun bs => K v ⟨base,nt,ts,gs,bs,fs⟩) (hv:viewL (look bs) args = some args' := by kernel_rfl) (hm:(nb.all fun b => !(St.mentions ⟨base,nt,ts,gs,bs,fs⟩ (b.id + k))) = true := by kernel_rfl) :
    CallP P f args ⟨base,nt,ts,gs,bs,fs⟩ K := callC k h hv hm hk
theorem cE {base nt:Nat} {ts:List (Nat × V)} {gs:List Gd} {blks:List (Nat × Blk)} {fs:List Fr} {f:FuncId} {args args':List V} {bs M:List (Nat × Blk)} {res:V} {K:V → St → Prop} (r:List (Nat × Nat)) (k:Nat) (h:EffC P f args' bs res M)
    (hk:forceV (res.ren (renN r k)) fun v => forceB (newB (renN r k) bs M (effB (renN r k) M blks bs) M) fun bs => K v ⟨base,nt,ts,gs,bs,fs⟩)
    (hw:CellsLe args (renL (renN r k) args') := by exact argA) (hi:inB blks (renN r k) bs := by exact inA) (ha:apartN (renN r k) (idsB bs ++ newIds bs M) = true := by kernel_rfl) (hm:(newIds bs M).all (fun j => !(St.mentions ⟨base,nt,ts,gs,blks,fs⟩ (renN r k j))) = true := by kernel_rfl) :
    CallP P f args ⟨base,nt,ts,gs,blks,fs⟩ K := callE r k h hw hi ha hm hk
def clrL {α:Type} [Inhabited α] (xs:List α) (o l:Nat):List α := (List.range xs.length).map fun i => if o ≤ i ∧ i < o + l then default else xs.getD i default
@[simp] theorem clrL_length {α:Type} [Inhabited α] {xs:List α} {o l:Nat}:(clrL xs o l).length = xs.length := by simp [clrL]
theorem clr_rows {α:Type} [Inhabited α] {enc:α → List D} {xs:List α} {n o l:Nat} {z:List D} (hn:n = xs.length) (hz:enc default = z):∀ i,i < n → rows enc (clrL xs o l) i = if o ≤ i ∧ i < o + l then z else rows enc xs i := by
  intro i hi;subst hn hz;have:(clrL xs o l).getD i default = if o ≤ i ∧ i < o + l then default else xs.getD i default := by
    simp [clrL,List.getD_eq_getElem?_getD,hi]
  simp only [rows];rw [this];split <;> rfl
def fnOk (P:Program) (f:FuncId):Bool := match P.funcs[f]? with
  | some fn => !(fn.name == "runtime.NumGoroutine") && !fn.body.isNone
  | none => false
theorem cG {S S':St} {al l:List (Nat × Bool)} {f:FuncId} {args args':List V} {res:V} {K:V → St → Prop} {key:Nat} {want:Bool} (h:condP S al l (PureC P f args' res [])) (hk:K res S') (hf:fnOk P f = true := by kernel_rfl)
    (hv:viewL (look S'.blks) args = some args' := by kernel_rfl) (hfl:flatV res = true := by kernel_rfl) (hm:res.plain = true := by kernel_rfl):CallG P (condP S al l) (condN S' key want) f args S' K := by
  unfold fnOk at hf;split at hf
  · rename_i fn e;rw [Bool.and_eq_true,Bool.not_eq_true',Bool.not_eq_true'] at hf;exact callG_m e hf.1 hf.2 hv hfl hm h hk
  · exact absurd hf (by decide)
theorem andI {p q:Prop} {b:Bool} {α:Type} {x y:Option α} {r:α} (h:(if b = true then x else y) = some r) (hp:b = true → x = some r → p) (hq:b = false → y = some r → q):(b = true → p) ∧ (b = false → q) :=
  ⟨fun e => hp e (ite_t h e),fun e => hq e (ite_f h e)⟩
theorem bd_set {α β:Type} [Inhabited α] {xs:List α} {i:Nat} {e:α} {k:List α → Option β} {r:β} (h:bd (some (xs.set i e)) k = some r):∃ y,xs.set i e = y ∧ y.length = xs.length ∧ k y = some r := by
  obtain ⟨y,h1,h2⟩ := bd_some h;exact ⟨y,Option.some.inj h1,set_len (Option.some.inj h1),h2⟩
theorem appS {α:Type} [Inhabited α] {enc:α → List D} {xs ys:List α} {n m:Nat} {r r':Nat → List D} {K:Nat → (Nat → List D) → Prop} (k:K (xs ++ ys).length (rows enc (xs ++ ys)))
    (hn:n = xs.length := by first | rfl | assumption | (refine Eq.symm ?_; assumption) | (simp; done) | (simp [dsub_eq] <;> omega) | omega) (hm:m = ys.length := by first | rfl | assumption | (refine Eq.symm ?_; assumption) | (simp; done) | (simp [dsub_eq] <;> omega) | omega)
    (h1:∀ i,i < n → r i = rows enc xs i := by first | exact fun _ _ => rfl | exact rows_take | (intro i hi; simp only [viewRow_eq,addOff_eq,Int.toNat_zero,Nat.zero_add,Nat.add_zero]; exact rows_take i hi) | exact rows_vt | exact rows_dt | (intro i hi; simp only [viewRow_eq,Nat.zero_add]) | (intro i hi; simp [viewRow_eq]))
    (h2:∀ i,i < m → r' i = rows enc ys i := by first | exact fun _ _ => rfl | exact rows_take | (intro i hi; simp only [viewRow_eq,addOff_eq,Int.toNat_zero,Nat.zero_add,Nat.add_zero]; exact rows_take i hi) | exact rows_vt | exact rows_dt | (intro i hi; simp only [viewRow_eq,Nat.zero_add]) | (intro i hi; simp [viewRow_eq])) :
    ∃ c row,c = n + m ∧ (∀ i,i < c → row i = catRow n r r' i) ∧ K c row :=
  ⟨(xs ++ ys).length,rows enc (xs ++ ys),by rw [List.length_append,hn,hm],app_rows hn hm h1 h2,k⟩
theorem appN {α:Type} [Inhabited α] {enc:α → List D} {ys:List α} {m:Nat} {r':Nat → List D} {K:Nat → (Nat → List D) → Prop} (k:K ys.length (rows enc ys))
    (hm:m = ys.length := by first | rfl | assumption | (refine Eq.symm ?_; assumption) | (simp; done) | (simp [dsub_eq] <;> omega) | omega)
    (h2:∀ i,i < m → r' i = rows enc ys i := by first | exact fun _ _ => rfl | exact rows_take | (intro i hi; simp only [viewRow_eq,addOff_eq,Int.toNat_zero,Nat.zero_add,Nat.add_zero]; exact rows_take i hi) | exact rows_vt | exact rows_dt | (intro i hi; simp only [viewRow_eq,Nat.zero_add]) | (intro i hi; simp [viewRow_eq])) :
    ∃ c row,c = m ∧ (∀ i,i < c → row i = r' i) ∧ K c row := ⟨ys.length,rows enc ys,hm.symm,app_rows0 hm h2,k⟩
theorem bldS {α:Type} {enc:α → List D} [Inhabited α] (ys:List α) {n:Nat} {rs:List (List D)} {K:Nat → (Nat → List D) → Prop} (k:K ys.length (rows enc ys)) (hn:ys.length = n := by kernel_rfl) (hr:rs = ys.map enc := by kernel_rfl) :
    ∃ c row,c = n ∧ (∀ i,i < c → row i = rowAt rs i) ∧ K c row := ⟨ys.length,rows enc ys,hn,by subst hr; exact build_rows,k⟩
theorem setS {α:Type} [Inhabited α] {enc:α → List D} {xs y:List α} {n r off:Nat} {ds:List D} {e:α} {K:(Nat → List D) → Prop} (hy:xs.set r e = y) (k:K (rows enc y)) (hn:n = xs.length := by first | rfl | assumption | (refine Eq.symm ?_; assumption) | (simp; done) | (simp [dsub_eq] <;> omega) | omega) (h:setAt (rows enc xs r) off ds = enc e := by kernel_rfl) :
    ∃ row,(∀ i,i < n → row i = if i = r then setAt (rows enc xs r) off ds else rows enc xs i) ∧ K row := ⟨rows enc y,store_rows2 hy hn h,k⟩
theorem gdI {c:Prop} {α:Type} {m:Option α} {r:α} {p:Prop} (h:gd c m = some r) (k:m = some r → p):c ∧ p := ⟨(gd_some h).1,k (gd_some h).2⟩
end Go.Ab
