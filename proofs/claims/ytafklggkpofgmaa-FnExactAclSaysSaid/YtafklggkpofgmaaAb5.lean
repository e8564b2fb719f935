/-
  Rows out of contracts: a part of the frame in which a given row's proof walks the program; no condition.
-/
import Derived.Test.YtafklggkpofgmaaAb4
import Derived.ProofKit
import Derived.SizedLaws
import Derived.Deep.Slices
namespace Go.Ab
open Go.RowKit Go.ChangeShapes Go.WideShapes

inductive DRs (w : World) (ow : Nat → Prop) : List D → List Value → Prop
  | nil : DRs w ow [] []
  | cons {d v ds vs} : DR w ow d v → DRs w ow ds vs → DRs w ow (d :: ds) (v :: vs)

def TypedFs (p : TypeId → List D → Prop) : List (TypeId × Nat) → List D → Prop
  | [], ds => ds = []
  | (t, _) :: r, ds => ∃ d1 d2, ds = d1 ++ d2 ∧ p t d1 ∧ TypedFs p r d2

/-- The data of a value of this type. -/
def Typed (tb : Tb) : Nat → TypeId → List D → Prop
  | 0, _, _ => True
  | f + 1, t, ds => match tb.find t with
    | some ⟨.bool, _, _, _, _⟩ => ∃ b, ds = [.bool b]
    | some ⟨.int k, _, _, _, _⟩ => ∃ n, ds = [.int k n] ∧ k.min ≤ n ∧ n ≤ k.max
    | some ⟨.str, _, _, _, _⟩ => ∃ s, ds = [.str s] ∧ s.size ≤ 140737488355328
    | some ⟨.slice e, _, _, _, _⟩ => (match tb.find e with
      | some ⟨_, _, by_, _, _⟩ => ∃ n row, ds = [.sl n row] ∧ n * by_ ≤ 140737488355328 ∧ n ≤ 9223372036854775807 ∧ ∀ i, i < n → Typed tb f e (row i)
      | none => True)
    | some ⟨.struct fs, _, _, _, _⟩ => TypedFs (Typed tb f) fs ds
    | _ => True

def lay (tb : Tb) : Nat → List (TypeId × Nat) → Option Nat
  | o, [] => some o
  | o, (t, off) :: r => match Nat.beq off o, tb.find t with
    | true, some ti => lay tb (o + ti.size) r
    | _, _ => none

def okTy (tb : Tb) : Nat → TypeId → Bool
  | 0, _ => false
  | f + 1, t => match tb.find t with
    | some ⟨.bool, _, _, _, _⟩ => true
    | some ⟨.int _, _, _, _, _⟩ => true
    | some ⟨.str, _, _, _, _⟩ => true
    | some ⟨.slice e, _, _, _, _⟩ => (match tb.find e with
      | some ti => Nat.blt 0 ti.size
      | none => false) && okTy tb f e
    | some ⟨.struct fs, sz, _, _, _⟩ => (lay tb 0 fs == some sz) && fs.all fun p => okTy tb f p.1
    | _ => false

variable {P : Program} {tb : Tb} {w : World} {ow : Nat → Prop} {H : Type} {enc : TypeId × Value → H} {base : Nat} {spare : Nat → Bool} {held : Bool}

theorem DRs.len {ds : List D} {vs : List Value} (h : DRs w ow ds vs) : ds.length = vs.length := by
  induction h with
  | nil => rfl
  | cons _ _ ih => simp [ih]
theorem DRs.append {ds ds' : List D} {vs vs' : List Value} (h : DRs w ow ds vs) (h' : DRs w ow ds' vs') : DRs w ow (ds ++ ds') (vs ++ vs') := by
  induction h with
  | nil => exact h'
  | cons a _ ih => exact .cons a ih
theorem DRs.get {ds : List D} {vs : List Value} (h : DRs w ow ds vs) : ∀ {j : Nat} {d : D}, ds[j]? = some d → ∃ v, vs[j]? = some v ∧ DR w ow d v := by
  induction h with
  | nil => intro j d hj; simp at hj
  | cons a _ ih =>
    intro j d hj
    cases j with
    | zero => simp at hj; subst hj; exact ⟨_, rfl, a⟩
    | succ j => simpa using ih (by simpa using hj)

theorem cellsOf_tb (hT : TOk P tb) {t : TypeId} {ti : TI} (h : tb.find t = some ti) : P.cellsOf t = ti.size ∧ P.bytesOf t = ti.bytes := by
  obtain ⟨i, z, h1, h2, h3, _⟩ := (hT.ok t ti h).info
  simp [Program.cellsOf, Program.bytesOf, h1, h2, h3]

theorem weightsAll_mem {e : TypeId} : ∀ {ds : List (DataW H)} {d : DataW H}, d ∈ ds → ∀ n ∈ d.weights P e, n ∈ DataW.weightsAll P e ds
  | x :: r, d, hd, n, hn => by
    simp only [DataW.weightsAll, List.mem_append]
    rcases List.mem_cons.1 hd with hd | hd
    · subst hd; exact .inl hn
    · exact .inr (weightsAll_mem hd n hn)
  | [], _, hd, _, _ => by simp at hd

theorem und_tb (hT : TOk P tb) {t : TypeId} {ti : TI} (h : tb.find t = some ti) : ∃ d, P.underlying t = some d ∧ kOk ti.kind d = true := (hT.ok t ti h).kind

theorem open_ty (hT : TOk P tb) : ∀ (f : Nat) (t : TypeId) (cs : List Value) (fuel : Nat) (x : DataW H × List MemPlace), okTy tb f t = true →
    DataW.trod enc P w base spare held fuel t cs = some x → (∀ n ∈ x.1.weights P t, n ≤ reachBytes) → ∃ ds, DRs w (fun _ => False) ds cs ∧ Typed tb f t ds := by
  intro f
  induction f with
  | zero => intro t cs fuel x h; simp [okTy] at h
  | succ f ih =>
    intro t cs fuel x hok h hw
    simp only [okTy] at hok
    split at hok
    · rename_i hf
      obtain ⟨d, hd, hk⟩ := und_tb hT hf
      cases d <;> simp only [kOk] at hk <;> try (cases hk; done)
      obtain ⟨b, rfl, _⟩ := DataW.trod_bool hd h
      exact ⟨[.bool b], .cons .bool .nil, by simp only [Typed, hf]; exact ⟨b, rfl⟩⟩
    · rename_i hf
      obtain ⟨d, hd, hk⟩ := und_tb hT hf
      cases d <;> simp only [kOk] at hk <;> try (cases hk; done)
      have hk := of_decide_eq_true hk
      subst hk
      obtain ⟨n, rfl, _, hwf⟩ := DataW.trod_int hd h
      simp only [Lit.wf, Bool.and_eq_true, decide_eq_true_eq] at hwf
      exact ⟨[.int _ n], .cons .int .nil, by simp only [Typed, hf]; exact ⟨n, rfl, hwf⟩⟩
    · rename_i hf
      obtain ⟨d, hd, hk⟩ := und_tb hT hf
      cases d <;> simp only [kOk] at hk <;> try (cases hk; done)
      obtain ⟨s, rfl, rfl, hs⟩ := DataW.trod_string hd h
      refine ⟨[.str s], .cons .str .nil, ?_⟩
      simp only [Typed, hf]
      refine ⟨s, rfl, ?_⟩
      have := hw s.data.toList.length (by unfold DataW.weights; exact List.mem_singleton.2 rfl)
      have e : s.data.toList.length = s.size := rfl
      rw [e] at this
      unfold reachBytes at this
      omega
    · rename_i e _ _ _ _ hf
      obtain ⟨d, hd, hk⟩ := und_tb hT hf
      cases d <;> simp only [kOk] at hk <;> try (cases hk; done)
      have hk := eq_of_beq hk
      subst hk
      rw [Bool.and_eq_true] at hok
      obtain ⟨hpos, hoke⟩ := hok
      split at hpos
      case h_2 => cases hpos
      rename_i ti hfe
      obtain ⟨kk, sz, byt, zz, qq⟩ := ti
      have hpos : 0 < sz := by simpa [Nat.blt_eq] using hpos
      obtain ⟨hc1, hc2⟩ := cellsOf_tb hT hfe
      dsimp only at hc1 hc2
      rcases Go.Deep.open_slice hd h with ⟨rfl, _⟩ | ⟨a, len, cap, m, n, Df, Pl, rfl, _, hlc, hcm, hm, rfl, hi⟩
      · refine ⟨[.sl 0 fun _ => []], .cons (.sl0 rfl) .nil, ?_⟩
        simp only [Typed, hf, hfe]
        exact ⟨0, _, rfl, by omega, by omega, fun i hi => absurd hi (Nat.not_lt_zero _)⟩
      · have hlm : len ≤ m := by rw [hm]; split <;> omega
        have hwt : len * byt ≤ reachBytes := by
          have := hw ((((List.range len).map Df).length + ((List.range (m - len)).map fun j => Df (len + j)).length) * P.bytesOf e) (by simp [DataW.weights, hd])
          simp only [List.length_map, List.length_range] at this
          rw [hc2, show len + (m - len) = m by omega] at this
          exact Nat.le_trans (Nat.mul_le_mul_right _ hlm) this
        have hin : ∀ i, i < len → ∃ (y : List D × List Value), DRs w (fun _ => False) y.1 y.2 ∧ Typed tb f e y.1 ∧ y.2.length = sz ∧ ∀ j, j < sz → w.cell? (a.add (i * sz + j)) = y.2[j]? := fun i hil => by
          obtain ⟨cs', h1, h2⟩ := hi i (by omega)
          rw [hc1] at h1
          obtain ⟨_, g2, g3⟩ := World.cells?_some h1
          obtain ⟨ds, g4, g5⟩ := ih e cs' n _ hoke h2 (fun k hk => hw k (by
            simp only [DataW.weights, hd, List.mem_cons, List.mem_append]
            exact .inr (.inl (weightsAll_mem (List.mem_map.2 ⟨i, by simpa using hil, rfl⟩) k hk))))
          exact ⟨(ds, cs'), g4, g5, g2, fun j hj => by rw [← Go.Deep.add_add]; exact g3 j hj⟩
        obtain ⟨Y, hY⟩ := Go.Deep.choose_lt (α := List D × List Value) hin
        refine ⟨[.sl len fun i => (Y i).1], ?_, ?_⟩
        · refine .cons ?_ .nil
          by_cases h0 : len = 0
          · subst h0; exact .sl0 rfl
          · obtain ⟨b, off, spot⟩ := a
            have hspot : spot = none ∧ b < w.heap.size := by
              obtain ⟨g1, _, g3, g4⟩ := hY 0 (by omega)
              have := g4 0 hpos
              rw [List.getElem?_eq_getElem (by omega)] at this
              have e0 : (0 * sz + 0) = 0 := by omega
              rw [e0] at this
              exact ⟨by simpa [Addr.add] using World.cell?_spot this, by have := cell_lt this; simpa [Addr.add] using this⟩
            obtain ⟨rfl, hb⟩ := hspot
            have hadd : ∀ k, (⟨b, off, none⟩ : Addr).add k = ⟨b, off + k, none⟩ := fun k => by
              unfold Addr.add
              split
              · rename_i h; subst h; rfl
              · rfl
            refine .sl (sz := sz) (fun i j => (Y i).2.getD j undef) (fun h => h) hb (fun i hil => ?_) (fun i j d hil hjd => ?_) (fun i j d hil hjd => ?_)
            · obtain ⟨g1, _, g3, _⟩ := hY i hil
              rw [g1.len, g3]
            · obtain ⟨g1, _, g3, g4⟩ := hY i hil
              obtain ⟨v, hv, _⟩ := g1.get hjd
              have hj : j < sz := by have := (List.getElem?_eq_some_iff.1 hv).1; omega
              have := g4 j hj
              rw [hadd, ← Nat.add_assoc] at this
              rw [this, hv, List.getD_eq_getElem?_getD, hv]; rfl
            · obtain ⟨g1, _, g3, g4⟩ := hY i hil
              obtain ⟨v, hv, hdr⟩ := g1.get hjd
              rw [List.getD_eq_getElem?_getD, hv]; exact hdr
        · simp only [Typed, hf, hfe]
          unfold reachBytes at hwt
          unfold maxLen at hcm
          exact ⟨len, _, rfl, by omega, by omega, fun i hil => (hY i hil).2.1⟩
    · rename_i fs sz _ _ _ hf
      obtain ⟨d, hd, hk⟩ := und_tb hT hf
      cases d <;> simp only [kOk] at hk <;> try (cases hk; done)
      rename_i fields
      rw [Bool.and_eq_true] at hk
      have hfs := eq_of_beq hk.1
      rw [Bool.and_eq_true] at hok
      obtain ⟨hlay, hall⟩ := hok
      have hlay := eq_of_beq hlay
      obtain ⟨hc1, _⟩ := cellsOf_tb hT hf
      dsimp only at hc1
      obtain ⟨xs, n, _, rfl, hlen, hxl, hg⟩ := DataW.trod_struct hd h
      rw [hc1] at hlen
      simp only [Typed, hf]
      have key : ∀ (L : List (TypeId × Nat)) (k o : Nat), (∀ i, L[i]? = fs[k + i]?) → lay tb o L = some sz → ∃ ds, DRs w (fun _ => False) ds (cs.drop o) ∧ TypedFs (Typed tb f) L ds := by
        intro L
        induction L with
        | nil =>
          intro k o _ hl
          simp only [lay, Option.some.injEq] at hl
          refine ⟨[], ?_, rfl⟩
          rw [List.drop_eq_nil_of_le (by omega)]
          exact .nil
        | cons p L ihL =>
          intro k o hsub hl
          obtain ⟨ft, off⟩ := p
          simp only [lay] at hl
          split at hl
          case h_2 => cases hl
          rename_i ti hb hft
          have hb := Nat.eq_of_beq_eq_true hb
          subst hb
          obtain ⟨ds2, g1, g2⟩ := ihL (k + 1) (off + ti.size) (fun i => by
            have := hsub (i + 1)
            simp only [List.getElem?_cons_succ] at this
            rw [this]; congr 1; omega) hl
          have hk0 : fs[k]? = some (ft, off) := by have := hsub 0; simpa using this.symm
          rw [hfs, List.getElem?_map] at hk0
          obtain ⟨fd, hfd, he⟩ := Option.map_eq_some_iff.1 hk0
          simp only [Prod.mk.injEq] at he
          obtain ⟨rfl, rfl⟩ := he
          have hfd' : fields[k]? = some fd := by simpa using hfd
          have hx := hg k fd hfd'
          have hkl : k < xs.length := by rw [hxl]; exact (Array.getElem?_eq_some_iff.1 hfd').1
          rw [List.getElem?_eq_getElem hkl] at hx
          obtain ⟨hs1, _⟩ := cellsOf_tb hT hft
          rw [hs1] at hx
          obtain ⟨ds1, g3, g4⟩ := ih _ _ _ _ (List.all_eq_true.1 hall (fd.type, fd.offset) (by rw [hfs]; exact List.mem_map.2 ⟨fd, List.mem_of_getElem? hfd, rfl⟩)) hx (fun j hj => hw j (by
            simp only [DataW.weights, hd]
            refine DataW.weights_mem_each (j := k) (t := fd.type) (d := xs[k].1) (by simp [hfd]) (by simp [List.getElem?_eq_getElem hkl]) j hj))
          refine ⟨ds1 ++ ds2, ?_, ⟨ds1, ds2, rfl, g4, g2⟩⟩
          have := g3.append g1
          rw [show cs.drop (fd.offset + ti.size) = (cs.drop fd.offset).drop ti.size by rw [List.drop_drop], List.take_append_drop] at this
          exact this
      obtain ⟨ds, g1, g2⟩ := key fs 0 0 (fun i => by rw [Nat.zero_add]) hlay
      exact ⟨ds, by simpa using g1, g2⟩
    · cases hok

end Go.Ab
namespace Go.Ab
open Go.RowKit Go.ChangeShapes Go.WideShapes
variable {P : Program} {tb : Tb} {w : World} {ow : Nat → Prop} {H : Type} {enc : TypeId × Value → H} {base : Nat} {spare : Nat → Bool} {held : Bool}

def argV (tb : Tb) (t : TypeId) (ds : List D) : V := match tb.find t with
  | some ⟨.struct _, _, _, _, _⟩ => .agg (ds.map .d)
  | _ => (match ds with
    | [d] => .d d
    | _ => .any)

def argVs (tb : Tb) : List TypeId → List (List D) → List V
  | t :: ts, ds :: r => argV tb t ds :: argVs tb ts r
  | _, _ => []

def TypedAll (tb : Tb) (f : Nat) : List TypeId → List (List D) → Prop
  | [], [] => True
  | t :: ts, ds :: r => Typed tb f t ds ∧ TypedAll tb f ts r
  | _, _ => False

theorem argV_one {t : TypeId} {ds : List D} {v : Value} {ρ : Env} (hn : ∀ fs a b c d, tb.find t ≠ some ⟨.struct fs, a, b, c, d⟩) (h : DRs w ow ds [v]) : VR w ow ρ (argV tb t ds) v := by
  cases h with | cons h1 h2 =>
  cases h2
  unfold argV
  split
  · rename_i hf; exact absurd hf (hn _ _ _ _ _)
  · exact .d h1

theorem open_arg (hT : TOk P tb) {f : Nat} {t : TypeId} {v : Value} {d : DataW H} {p : List MemPlace} {r : Reach} {b0 : Nat} (ρ : Env) (hok : okTy tb f t = true) (hv : Value.okWide P w r b0 t v)
    (h : DataW.Trod enc P w base spare held t v d p) (hw : ∀ n ∈ d.weights P t, n ≤ reachBytes) : ∃ ds, Typed tb f t ds ∧ VR w (fun _ => False) ρ (argV tb t ds) v := by
  obtain ⟨fuel, hf⟩ := h
  obtain ⟨ds, h1, h2⟩ := open_ty hT f t _ _ _ hok hf hw
  refine ⟨ds, h2, ?_⟩
  cases f with
  | zero => simp [okTy] at hok
  | succ f =>
    simp only [okTy] at hok
    split at hok
    · rename_i hfd
      obtain ⟨d, hd, hk⟩ := und_tb hT hfd
      cases d <;> simp only [kOk] at hk <;> try (cases hk; done)
      obtain ⟨b, rfl⟩ := okWide_bool hd hv
      exact argV_one (fun _ _ _ _ _ e => by rw [hfd] at e; cases e) h1
    · rename_i hfd
      obtain ⟨d, hd, hk⟩ := und_tb hT hfd
      cases d <;> simp only [kOk] at hk <;> try (cases hk; done)
      obtain ⟨b, rfl⟩ := okWide_int hd hv
      exact argV_one (fun _ _ _ _ _ e => by rw [hfd] at e; cases e) h1
    · rename_i hfd
      obtain ⟨d, hd, hk⟩ := und_tb hT hfd
      cases d <;> simp only [kOk] at hk <;> try (cases hk; done)
      obtain ⟨b, rfl⟩ := okWide_string hd hv
      exact argV_one (fun _ _ _ _ _ e => by rw [hfd] at e; cases e) h1
    · rename_i hfd
      obtain ⟨d, hd, hk⟩ := und_tb hT hfd
      cases d <;> simp only [kOk] at hk <;> try (cases hk; done)
      obtain ⟨a, l, c, rfl⟩ := okWide_slice hd hv
      exact argV_one (fun _ _ _ _ _ e => by rw [hfd] at e; cases e) h1
    · rename_i hfd
      obtain ⟨d, hd, hk⟩ := und_tb hT hfd
      cases d <;> simp only [kOk] at hk <;> try (cases hk; done)
      obtain ⟨cs, rfl, _⟩ := okWide_struct hd hv
      have h1 : DRs w (fun _ => False) ds cs.toList := h1
      have hlen := h1.len
      unfold argV
      rw [hfd]
      refine .agg (by simp [hlen]) (fun j hj => ?_) (fun j u hu => ?_)
      · have : ds[j]? = some (ds[j]'(by simp at hlen; omega)) := List.getElem?_eq_getElem _
        obtain ⟨x, hx, hdr⟩ := h1.get this
        have hx' : cs[j]? = some x := by simpa using hx
        rw [Array.getD_eq_getD_getElem?, hx']; exact hdr.oneCell
      · rw [List.getElem?_map] at hu
        obtain ⟨d, hd', rfl⟩ := Option.map_eq_some_iff.1 hu
        obtain ⟨x, hx, hdr⟩ := h1.get hd'
        have hx' : cs[j]? = some x := by simpa using hx
        rw [Array.getD_eq_getD_getElem?, hx']; exact .d hdr
    · cases hok

theorem open_args (hT : TOk P tb) {f : Nat} (ρ : Env) : ∀ {ts : List TypeId} {vs : List Value} {ds : List (DataW H)} {ps : List MemPlace}, (∀ t ∈ ts, okTy tb f t = true) →
    (∀ (j : Nat) t v, ts[j]? = some t → vs[j]? = some v → ∃ r b0, Value.okWide P w r b0 t v) → DataW.TrodAll enc P w base spare held ts vs ds ps →
    (∀ (j : Nat) t d, ts[j]? = some t → ds[j]? = some d → ∀ n ∈ d.weights P t, n ≤ reachBytes) →
    ∃ dss, TypedAll tb f ts dss ∧ vs.length = (argVs tb ts dss).length ∧ ∀ (j : Nat) u, (argVs tb ts dss)[j]? = some u → VR w (fun _ => False) ρ u (vs.getD j undef)
  | [], vs, ds, ps, _, _, h, _ => by
    obtain ⟨rfl, _, _⟩ := trodAll_nil h
    exact ⟨[], trivial, rfl, fun j u hu => by simp [argVs] at hu⟩
  | t :: ts, vs, ds, ps, hok, hv, h, hw => by
    obtain ⟨v, vs', d, ds', p, q, rfl, rfl, rfl, h1, h2⟩ := trodAll_cons h
    obtain ⟨r, b0, hv0⟩ := hv 0 t v rfl rfl
    obtain ⟨x, g1, g2⟩ := open_arg hT ρ (hok t (by simp)) hv0 h1 (hw 0 t d rfl rfl)
    obtain ⟨dss, g3, g4, g5⟩ := open_args hT ρ (fun u hu => hok u (by simp [hu])) (fun j t' v' ht hv' => hv (j + 1) t' v' (by simpa using ht) (by simpa using hv')) h2 (fun j t' d' ht hd' => hw (j + 1) t' d' (by simpa using ht) (by simpa using hd'))
    refine ⟨x :: dss, ⟨g1, g3⟩, by simp [argVs, g4], fun j u hu => ?_⟩
    cases j with
    | zero => simp [argVs] at hu; subst hu; simpa using g2
    | succ j => simpa using g5 j u (by simpa [argVs] using hu)

theorem trodAll_below (hl : laidOutB P = true) {W W' : World} (hb : Below W.heap.size W W') : ∀ {ts : List TypeId} {vs : List Value} {ds : List (DataW H)} {ps : List MemPlace},
    (∀ t ∈ ts, P.readableRec t = true ∧ t < P.types.size) → (∀ x ∈ ps, x.block < W.heap.size) →
    DataW.TrodAll enc P W 0 (fun _ => true) true ts vs ds ps → DataW.TrodAll enc P W' 0 (fun b => decide (b < W.heap.size)) true ts vs ds ps
  | [], vs, ds, ps, _, _, h => by
    obtain ⟨rfl, rfl, rfl⟩ := trodAll_nil h; rfl
  | t :: ts, vs, ds, ps, hr, hlt, h => by
    obtain ⟨v, vs', d, ds', p, q, rfl, rfl, rfl, h1, h2⟩ := trodAll_cons h
    exact ⟨p, q, Below.trod hl (hr t (by simp)).1 (hr t (by simp)).2 h1 hb (fun x hx => hlt x (by simp [hx])), trodAll_below hl hb (fun u hu => hr u (by simp [hu])) (fun x hx => hlt x (by simp [hx])) h2, rfl⟩

theorem trodAll_len : ∀ {ts : List TypeId} {vs : List Value} {ds : List (DataW H)} {ps : List MemPlace}, DataW.TrodAll enc P w base spare held ts vs ds ps → ds.length = ts.length
  | [], vs, ds, ps, h => by obtain ⟨rfl, rfl, rfl⟩ := trodAll_nil h; rfl
  | t :: ts, vs, ds, ps, h => by
    obtain ⟨v, vs', d, ds', p, q, rfl, rfl, rfl, h1, h2⟩ := trodAll_cons h
    simp [trodAll_len h2]

/-- A LAW'S ROW out of the contract that it returns true. -/
theorem law_any {a : Assume} {C : Checked} {os : Os} {f : FuncId} {fn : Func} {s : ChangeSpec} {fu : Nat} {tb : Tb} {rt : TypeId} (hT : TOk C.prog tb)
    (own : ownKnob C.prog.godebug = none) (started : os.Started) (noInit : C.prog.inits.idxOf? f = none) (hfn : C.prog.funcs[f]? = some fn)
    (witness : ∃ (w : World) (tape : Tape) (i : Input), w.os = os ∧ (w.forCall tape i).Shaped C.prog ∧ i.vars = [] ∧ Input.okWide C.prog (w.forCall tape i) .any w.heap.size f i ∧
      s.pre6 enc C.prog fn [] false (w.forCall tape i).memory i.args ∧ a.holds C.prog (lone (Frame.enter C.prog f i.args .normal) [] (w.forCall tape i)))
    (hl : laidOutB C.prog = true) (hread : fn.params.toList.all (fun t => C.prog.readableRec t && decide (t < C.prog.types.size)) = true) (hok : fn.params.toList.all (okTy tb fu) = true) (hvars : s.vars = [])
    (hres : fn.resultTypes = #[rt]) (hbool : C.prog.underlying rt = some .bool)
    (hspec : ∀ ds : List (DataW H), ds.length = fn.params.toList.length → s.fn H ds = { results := [.lit (.bool true)], args := ds })
    (law : ∀ dss, TypedAll tb fu fn.params.toList dss → PureC C.prog f (argVs tb fn.params.toList dss) (.d (.bool true)) []) :
    ReturnsInHanded a C os f .any (s.pre6 enc C.prog fn [] false) (s.post enc C.prog fn false true false false) := by
  refine returnsInHanded_of_change_sized own started noInit hfn witness ?_
  intro W base args ds gs before hval hW _ hwt _
  have hW' := hW
  obtain ⟨p, q, hA, hV, rfl, hfz, hnd⟩ := hW
  have hgs : gs = [] ∧ q = [] := by
    rw [hvars] at hV; exact trodVars_none hV
  obtain ⟨rfl, rfl⟩ := hgs
  have hlt : ∀ x ∈ p, x.block < W.heap.size := fun x hx => hW'.lt x (by simp [hx])
  have hdl := trodAll_len hA
  obtain ⟨dss, g1, g2, g3⟩ := open_args hT (f := fu) (fun _ => ⟨0, 0, 0, 0, 0, true⟩) (fun t ht => List.all_eq_true.1 hok t ht) (fun j t v ht hv => ⟨_, _, hval j t v (by simpa using ht) (by simpa using hv)⟩) hA
    (fun j t d ht hd n hn => by
      have hj : j < fn.params.toList.length := (List.getElem?_eq_some_iff.1 ht).1
      have := List.all_eq_true.1 hwt n (DataW.weights_mem_each (j := j) (t := t) (d := d) (by rw [List.getElem?_append_left hj]; exact ht) (by rw [List.getElem?_append_left (by omega)]; exact hd) n hn)
      simpa using this)
  have hc := law dss g1
  refine (hc.out W args (fun _ => ⟨0, 0, 0, 0, 0, true⟩) ⟨by simpa using g2, fun j u hu => ?_⟩).mono fun e W' he => ?_
  · have := g3 j u hu
    rw [List.getD_eq_getElem?_getD] at this
    rw [Array.getD_eq_getD_getElem?]
    simpa using this
  · obtain ⟨v, ρ, rfl, hp, hv, _⟩ := he
    have hb := hv.bool_inv
    subst hb
    have hbe := hp.below
    have hs := hspec (ds ++ []) (by simp [hdl])
    rw [List.append_nil] at hs
    refine ⟨_, rfl, ⟨ds, [], p ++ [], [], p, [], hW', ?_, ?_, ?_, hbe.frame _, fun h => by cases h⟩⟩
    · rw [List.append_nil, hs, hres]
      exact trodAll_mk1 ⟨1, by simp [DataW.trod, Value.cells, hbool]⟩
    · rw [List.append_nil, hs]
      exact trodAll_below hl hbe (fun t ht => by have := List.all_eq_true.1 hread t ht; simpa using this) hlt hA
    · rw [List.append_nil, hs, hvars]; rfl

end Go.Ab
namespace Go.Ab
open Go.RowKit
variable {P : Program} {tb : Tb}

noncomputable def codeOf (f : Func) : Code := f.body.getD .skip
@[reducible] def rows {α : Type} [Inhabited α] (enc : α → List D) (xs : List α) : Nat → List D := fun i => enc (xs.getD i default)
@[reducible] def slD {α : Type} [Inhabited α] (enc : α → List D) (xs : List α) : D := .sl xs.length (rows enc xs)
@[reducible] def i64 (n : Int) : V := .d (.int .i64 n)
@[reducible] def bl (b : Bool) : V := .d (.bool b)
@[reducible] def encInt (n : Int) : List D := [.int .i64 n]
@[reducible] def encByte (n : Int) : List D := [.int .u8 n]
/-- A number that fits the kind 'int'. -/
def Fits (n : Int) : Prop := -9223372036854775808 ≤ n ∧ n ≤ 9223372036854775807
def FitsB (n : Int) : Prop := 0 ≤ n ∧ n ≤ 255

structure DLe (d d' : D) : Prop where
  out : ∀ w ow x, DR w ow d x → DR w ow d' x
theorem DLe.refl (d : D) : DLe d d := ⟨fun _ _ _ h => h⟩
def DsLe : List D → List D → Prop
  | [], [] => True
  | d :: r, d' :: r' => DLe d d' ∧ DsLe r r'
  | _, _ => False
theorem DsLe.refl : ∀ (ds : List D), DsLe ds ds
  | [] => trivial
  | d :: r => ⟨.refl d, .refl r⟩
theorem DsLe.of {ds ds' : List D} (h : ds = ds') : DsLe ds ds' := h ▸ .refl ds
theorem DsLe.len : ∀ {ds ds' : List D}, DsLe ds ds' → ds.length = ds'.length
  | [], [], _ => rfl
  | _ :: _, _ :: _, h => by simp [DsLe.len h.2]
  | [], _ :: _, h => h.elim
  | _ :: _, [], h => h.elim
theorem DsLe.get : ∀ {ds ds' : List D} {j : Nat} {d' : D}, DsLe ds ds' → ds'[j]? = some d' → ∃ d, ds[j]? = some d ∧ DLe d d'
  | d :: r, d' :: r', 0, u, h, hu => by simp at hu; subst hu; exact ⟨d, rfl, h.1⟩
  | d :: r, d' :: r', j + 1, u, h, hu => by simpa using DsLe.get h.2 (by simpa using hu)
  | [], [], _, _, _, hu => by simp at hu
  | [], _ :: _, _, _, h, _ => h.elim
  | _ :: _, [], _, _, h, _ => h.elim
theorem DsLe.append {a b c d : List D} (h : DsLe a b) (k : DsLe c d) : DsLe (a ++ c) (b ++ d) := by
  induction a generalizing b with
  | nil => cases b with
    | nil => exact k
    | cons => exact h.elim
  | cons x a ih => cases b with
    | nil => exact h.elim
    | cons y b => exact ⟨h.1, ih h.2⟩

theorem DLe.sl {n : Nat} {row row' : Nat → List D} (h : ∀ i, i < n → DsLe (row i) (row' i)) : DLe (.sl n row) (.sl n row') := ⟨fun w ow x hx => by
  cases hx with
  | sl0 h0 => exact .sl0 h0
  | sl vals h1 h2 h3 h4 h5 =>
    refine .sl vals h1 h2 (fun i hi => by rw [← (h i hi).len]; exact h3 i hi) (fun i j d hi hd => ?_) (fun i j d hi hd => ?_)
    · obtain ⟨d0, g1, _⟩ := (h i hi).get hd
      exact h4 i j d0 hi g1
    · obtain ⟨d0, g1, g2⟩ := (h i hi).get hd
      exact g2.out _ _ _ (h5 i j d0 hi g1)⟩

theorem VLe.d {d d' : D} (h : DLe d d') : VLe (.d d) (.d d') := ⟨fun w ow ρ x hx => by cases hx with | d hx => exact .d (h.out _ _ _ hx)⟩

theorem VLe.agg {ds ds' : List D} (h : DsLe ds ds') : VLe (.agg (ds.map .d)) (.agg (ds'.map .d)) := ⟨fun w ow ρ x hx => by
  cases hx with
  | agg h1 h2 h3 =>
    refine .agg (by rw [h1]; simp [h.len]) h2 fun j v hj => ?_
    rw [List.getElem?_map] at hj
    obtain ⟨d', hd', rfl⟩ := Option.map_eq_some_iff.1 hj
    obtain ⟨d0, g1, g2⟩ := h.get hd'
    exact (VLe.d g2).out _ _ _ _ (h3 j (.d d0) (by rw [List.getElem?_map, g1]; rfl))⟩

theorem PureC.le {f : FuncId} {us vs : List V} {res : V} {nb : List Nb} (h : CellsLe us vs) (k : PureC P f vs res nb) : PureC P f us res nb := by
  refine ⟨k.can, k.flat, k.rows, k.dist, k.ids, fun w vals ρ0 ha => k.out w vals ρ0 ?_⟩
  obtain ⟨h1, h2⟩ := h.get
  refine ⟨by rw [ha.1, h1], fun j v hj => ?_⟩
  obtain ⟨u, hu, hle⟩ := h2 j v hj
  exact hle.out _ _ _ _ (ha.2 j u hu)

/-- A slice of a type whose elements are known. -/
theorem typed_sl {α : Type} [Inhabited α] {enc : α → List D} {ok : α → Prop} {f : Nat} {t e : TypeId} {z1 z2 z3 z4 : _} {k1 k2 k3 k4 k5 : _} (ht : tb.find t = some ⟨.slice e, z1, z2, z3, z4⟩) (he : tb.find e = some ⟨k1, k2, k3, k4, k5⟩)
    (hel : ∀ ds, Typed tb f e ds → ∃ x, ok x ∧ DsLe ds (enc x)) {ds : List D} (h : Typed tb (f + 1) t ds) :
    ∃ xs : List α, (∀ x ∈ xs, ok x) ∧ xs.length * k3 ≤ 140737488355328 ∧ xs.length ≤ 9223372036854775807 ∧ DsLe ds [slD enc xs] := by
  simp only [Typed, ht, he] at h
  obtain ⟨n, row, rfl, h1, h2, h3⟩ := h
  obtain ⟨F, hF⟩ := Go.Deep.choose_lt (α := α) (fun i hi => hel (row i) (h3 i hi))
  refine ⟨(List.range n).map F, fun x hx => ?_, by simpa using h1, by simpa using h2, ⟨?_, trivial⟩⟩
  · obtain ⟨i, hi, rfl⟩ := List.mem_map.1 hx
    exact (hF i (by simpa using hi)).1
  · have : slD enc ((List.range n).map F) = .sl n (rows enc ((List.range n).map F)) := by simp [slD]
    rw [this]
    refine DLe.sl fun i hi => ?_
    have e : rows enc ((List.range n).map F) i = enc (F i) := by
      simp [rows, List.getD_eq_getElem?_getD, List.getElem?_map, List.getElem?_range hi]
    rw [e]; exact (hF i hi).2

theorem typed_int {f : Nat} {t : TypeId} {z1 z2 z3 z4 : _} (ht : tb.find t = some ⟨.int .i64, z1, z2, z3, z4⟩) {ds : List D} (h : Typed tb (f + 1) t ds) : ∃ n : Int, Fits n ∧ DsLe ds [.int .i64 n] := by
  simp only [Typed, ht] at h
  obtain ⟨n, rfl, h1, h2⟩ := h
  exact ⟨n, ⟨h1, h2⟩, .refl _⟩
theorem typed_byte {f : Nat} {t : TypeId} {z1 z2 z3 z4 : _} (ht : tb.find t = some ⟨.int .u8, z1, z2, z3, z4⟩) {ds : List D} (h : Typed tb (f + 1) t ds) : ∃ n : Int, FitsB n ∧ DsLe ds [.int .u8 n] := by
  simp only [Typed, ht] at h
  obtain ⟨n, rfl, h1, h2⟩ := h
  exact ⟨n, ⟨h1, h2⟩, .refl _⟩
theorem typed_bool {f : Nat} {t : TypeId} {z1 z2 z3 z4 : _} (ht : tb.find t = some ⟨.bool, z1, z2, z3, z4⟩) {ds : List D} (h : Typed tb (f + 1) t ds) : ∃ b : Bool, DsLe ds [.bool b] := by
  simp only [Typed, ht] at h
  obtain ⟨b, rfl⟩ := h
  exact ⟨b, .refl _⟩
theorem typed_struct {f : Nat} {t : TypeId} {fs : List (TypeId × Nat)} {z1 z2 z3 z4 : _} (ht : tb.find t = some ⟨.struct fs, z1, z2, z3, z4⟩) {ds : List D} (h : Typed tb (f + 1) t ds) : TypedFs (Typed tb f) fs ds := by
  simpa only [Typed, ht] using h
theorem typedFs_cons {p : TypeId → List D → Prop} {t : TypeId} {o : Nat} {r : List (TypeId × Nat)} {ds : List D} (h : TypedFs p ((t, o) :: r) ds) : ∃ d1 d2, ds = d1 ++ d2 ∧ p t d1 ∧ TypedFs p r d2 := h
theorem typedFs_nil {p : TypeId → List D → Prop} {ds : List D} (h : TypedFs p [] ds) : ds = [] := h

theorem wrap_i64 {n : Int} (h1 : -9223372036854775808 ≤ n) (h2 : n ≤ 9223372036854775807) : IntKind.i64.wrap n = n := by
  have e1 : IntKind.bits .i64 = 64 := rfl
  have e2 : IntKind.signed .i64 = true := rfl
  unfold IntKind.wrap
  simp only [e1, e2, Bool.true_and]
  by_cases hn : 0 ≤ n
  · rw [Int.emod_eq_of_lt hn (by omega)]
    split
    · rename_i h; simp at h; omega
    · rfl
  · have e : n % 2 ^ 64 = n + 2 ^ 64 := by omega
    rw [e]
    split
    · omega
    · rename_i h; simp at h; omega
theorem VLe.int {k : IntKind} {n n' : Int} (h : n = n') : VLe (.d (.int k n)) (.d (.int k n')) := .of (by rw [h])
theorem VLe.bool {n n' : Bool} (h : n = n') : VLe (.d (.bool n)) (.d (.bool n')) := .of (by rw [h])
theorem VLe.osl {id off len off' len' : Nat} (h : off = off') (h2 : len = len') : VLe (.osl id off len) (.osl id off' len') := .of (by rw [h, h2])

theorem condP_of {S : St} {al : List (Nat × Bool)} : ∀ {l : List (Nat × Bool)} {p : Prop}, p → condP S al l p
  | [], p, h => h
  | (k, w) :: r, p, h => by
    simp only [condP]
    split
    · exact fun _ => condP_of h
    · exact condP_of h
theorem condP_mono {S : St} {al : List (Nat × Bool)} : ∀ {l : List (Nat × Bool)} {p q : Prop}, (p → q) → condP S al l p → condP S al l q
  | [], p, q, h, k => h k
  | (i, w) :: r, p, q, h, k => by
    simp only [condP] at k ⊢
    split
    · rename_i b hb
      rw [hb] at k
      exact fun e => condP_mono h (k e)
    · rename_i hno
      split at k
      · rename_i b hb; exact absurd hb (hno b)
      · exact condP_mono h k

/-- A call by its contract. -/
theorem callC {base nt : Nat} {ts : List (Nat × V)} {gs : List Gd} {bs : List (Nat × Blk)} {fs : List Fr} {f : FuncId} {args args' : List V} {res : V} {nb : List Nb} {K : V → St → Prop} (k : Nat) (h : PureC P f args' res nb)
    (hv : viewL (look bs) args = some args') (hm : (nb.all fun b => !(St.mentions ⟨base, nt, ts, gs, bs, fs⟩ (b.id + k))) = true) (hk : forceV (res.shift k) fun v => forceB (nb.map (Nb.ent k) ++ bs) fun bs => K v ⟨base, nt, ts, gs, bs, fs⟩) :
    CallP P f args ⟨base, nt, ts, gs, bs, fs⟩ K := by
  rw [forceV_eq, forceB_eq] at hk
  exact callPure k h hv (fun b hb => by have := List.all_eq_true.1 hm b hb; simpa using this) hk
/-- A call entered in place. -/
theorem callI (hT : TOk P tb) {base nt : Nat} {ts : List (Nat × V)} {gs : List Gd} {bs : List (Nat × Blk)} {fs : List Fr} {f : FuncId} {fn : Func} {c : Code} {args : List V} {K : V → St → Prop} (b : Nat) (hf : P.funcs[f]? = some fn) (hb : fn.body = some c) (hn : (fn.name == "runtime.NumGoroutine") = false) (hl : Nat.ble args.length fn.ntmps = true)
    (h : wpc P tb c ⟨b, fn.ntmps, enumT 0 args, [], bs, ⟨ts, gs⟩ :: fs⟩ (retI tb fn.results.toList base nt K)) : CallP P f args ⟨base, nt, ts, gs, bs, fs⟩ K :=
  callInline hT b hf hb hn hl h

/-- A guarded call whose contract holds whatever the guards say. -/
theorem callG_any {S S' : St} {al l : List (Nat × Bool)} {f : FuncId} {args args' : List V} {res : V} {K : V → Prop} (h : PureC P f args' res []) (hv : viewL (look S'.blks) args = some args') (hk : K res) : CallG P (condP S al l) f args S' K :=
  callPureG h.can (condP_of h) (fun _ _ => condP_mono) h.flat (fun id => by
    cases hmi : res.mentions id
    · rfl
    · obtain ⟨b, hb, _⟩ := h.ids id hmi; simp at hb) hv hk
theorem callD_any {g : FuncId} {blk : Nat → Option Blk} {vs args' : List V} {res : V} {nb : List Nb} (h : PureC P g args' res nb) (hv : viewL blk vs = some args') : CallD P id g blk vs res nb := ⟨h.can, ⟨args', hv, h⟩⟩
theorem callDG_any {S : St} {al l : List (Nat × Bool)} {g : FuncId} {blk : Nat → Option Blk} {vs args' : List V} {res : V} {nb : List Nb} (h : PureC P g args' res nb) (hv : viewL blk vs = some args') : CallD P (condP S al l) g blk vs res nb := ⟨h.can, condP_of ⟨args', hv, h⟩⟩

theorem callDG_if {S : St} {al l : List (Nat × Bool)} {g : FuncId} {fn : Func} {blk : Nat → Option Blk} {vs args' : List V} {res : V} {nb : List Nb} (hf : P.funcs[g]? = some fn) (hn : (fn.name == "runtime.NumGoroutine") = false) (hb : fn.body.isNone = false)
    (hv : viewL blk vs = some args') (h : condP S al l (PureC P g args' res nb)) : CallD P (condP S al l) g blk vs res nb := ⟨⟨fn, hf, hn, hb⟩, condP_mono (fun k => ⟨args', hv, k⟩) h⟩
theorem callG_if {S S' : St} {al l : List (Nat × Bool)} {f : FuncId} {fn : Func} {args args' : List V} {res : V} {K : V → Prop} (hf : P.funcs[f]? = some fn) (hn : (fn.name == "runtime.NumGoroutine") = false) (hb : fn.body.isNone = false)
    (hv : viewL (look S'.blks) args = some args') (hfl : flatV res = true) (hm : ∀ id, res.mentions id = false) (h : condP S al l (PureC P f args' res [])) (hk : K res) : CallG P (condP S al l) f args S' K :=
  callPureG ⟨fn, hf, hn, hb⟩ h (fun _ _ => condP_mono) hfl hm hv hk

theorem pow2_le {a b : Nat} (h : a ≤ b) : (2 : Int) ^ a ≤ 2 ^ b := by
  have h1 := Nat.pow_le_pow_right (show 0 < 2 by omega) h
  have e : ∀ k : Nat, (2 : Int) ^ k = ((2 ^ k : Nat) : Int) := fun k => by simp
  rw [e, e]
  exact Int.ofNat_le.2 h1

theorem all_take_succ {α : Type} [Inhabited α] {p : α → Bool} {xs : List α} {i : Nat} (h : i < xs.length) : (xs.take (i + 1)).all p = ((xs.take i).all p && p (xs.getD i default)) := by
  rw [List.take_succ_eq_append_getElem h, List.all_append]
  simp [List.getD_eq_getElem?_getD, List.getElem?_eq_getElem h]
theorem all_false_of {α : Type} [Inhabited α] {p : α → Bool} {xs : List α} {i : Nat} (h : i < xs.length) (hp : p (xs.getD i default) = false) : xs.all p = false := by
  rw [List.all_eq_false]
  refine ⟨xs[i], List.getElem_mem h, ?_⟩
  rw [List.getD_eq_getElem?_getD, List.getElem?_eq_getElem h] at hp
  simpa using hp

theorem typedAll_cons {f : Nat} {t : TypeId} {ts : List TypeId} {dss : List (List D)} (h : TypedAll tb f (t :: ts) dss) : ∃ a r, dss = a :: r ∧ Typed tb f t a ∧ TypedAll tb f ts r := by
  cases dss with
  | nil => exact h.elim
  | cons a r => exact ⟨a, r, rfl, h.1, h.2⟩
theorem typedAll_nil {f : Nat} {dss : List (List D)} (h : TypedAll tb f [] dss) : dss = [] := by
  cases dss with
  | nil => rfl
  | cons a r => exact h.elim
theorem len_one {α : Type} {l : List α} (h : l.length = 1) : ∃ a, l = [a] := List.length_eq_one_iff.1 h
theorem len_two {α : Type} {l : List α} (h : l.length = 2) : ∃ a b, l = [a, b] := by
  match l, h with
  | [a, b], _ => exact ⟨a, b, rfl⟩
theorem argV_le1 {t : TypeId} {ds : List D} {d : D} (hn : (match tb.find t with | some ⟨.struct _, _, _, _, _⟩ => false | _ => true) = true) (h : DsLe ds [d]) : VLe (argV tb t ds) (.d d) := by
  have hl := h.len
  obtain ⟨a, rfl⟩ := len_one hl
  unfold argV
  split
  · rename_i hf; rw [hf] at hn; cases hn
  · exact VLe.d h.1
theorem argV_leS {t : TypeId} {ds ds' : List D} (hn : (match tb.find t with | some ⟨.struct _, _, _, _, _⟩ => true | _ => false) = true) (h : DsLe ds ds') : VLe (argV tb t ds) (.agg (ds'.map .d)) := by
  unfold argV
  split
  · exact VLe.agg h
  · rename_i hno
    split at hn
    · rename_i hf; exact absurd hf (hno _ _ _ _ _)
    · cases hn

end Go.Ab
