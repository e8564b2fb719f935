/-
  What some of the program's functions compute: their models, and that the functions compute these; no condition.
-/
import Derived.Test.YtaoeomoepefojaaTyz
import Derived.Test.YtaoeomoepefojaaTbz
import Derived.Test.YtaoeomoepefojaaAbz7
import Derived.Maps.OwnOps
import Derived.Maps.Views
import Derived.WalkKit
import Derived.Test.YtaoeomoepefojaaKz1
set_option linter.all false
namespace Go.Proofs.Ytaoeomoepefojaa
open Go Go.Ab
set_option maxRecDepth 100000
set_option maxHeartbeats 40000000
noncomputable def hitV (f0 f3 f4 q : Int) (e : NatEntry) : Bool := e.Kind == f0 && e.Peer == f3 && e.PeerPort == f4 && e.Outer == q
noncomputable def freeV (tk : Int → Bool) (lo hi : Int) : Int := ((firstR (fun i => !tk (lo + (i : Int))) (hi - lo + 1).toNat).map fun i => lo + (i : Int)).getD 0
noncomputable def impl_NatBook_freePort_m (a0 : NatBook) (a1 : NatFlow) : Option (Int) :=
 gd (a0.Entries.length ≤ 1152921504606846976 ∧ -4611686018427387904 ≤ a0.Low ∧ a0.High ≤ 4611686018427387904 ∧ ∀ e ∈ a0.Entries, -9223372036854775808 ≤ e.Outer ∧ e.Outer ≤ 9223372036854775807) <|
 some (freeV (fun q => a0.Entries.any (hitV a1.Kind a1.To a1.ToPort q)) a0.Low a0.High)

namespace Fp
open Go.RowKit Go.Maps
theorem cell_new (w : World) (cs : Array Value) (t : TypeId) (i : Nat) (v : Value) (h : cs[i]? = some v) : (w.alloc (.cells cs t)).cell? ⟨w.heap.size, i, none⟩ = some v := by
  have := (MapKept.heap_alloc w (.cells cs t)).1
  unfold World.cell?
  dsimp only
  rw [this]
  exact h
theorem cell_old {w : World} {o : Obj} {b i : Nat} {v : Value} (h : b < w.heap.size) (k : w.cell? ⟨b, i, none⟩ = some v) : (w.alloc o).cell? ⟨b, i, none⟩ = some v := (World.cell?_of_block (Below.heap_alloc w o b h)).trans k
theorem keyed3 : Keyed Try.prog 3 := int_keyed Try.underlying3
theorem freeV_at {tk : Int → Bool} {lo hi : Int} {p : Nat} (h : lo + p ≤ hi) (hq : ∀ q : Nat, q < p → tk (lo + q) = true) (hp : tk (lo + p) = false) : freeV tk lo hi = lo + p := by
  unfold freeV
  cases e : firstR (fun i => !tk (lo + (i : Int))) (hi - lo + 1).toNat with
  | none =>
    have := firstR_none e p (by omega)
    simp [hp] at this
  | some i =>
    obtain ⟨h1, h2, h3⟩ := firstR_some e
    rcases Nat.lt_trichotomy i p with c | c | c
    · have := hq i c
      simp [this] at h2
    · subst c; rfl
    · have := h3 p c
      simp [hp] at this
theorem freeV_no {tk : Int → Bool} {lo hi : Int} {p : Nat} (h : hi < lo + p) (hq : ∀ q : Nat, q < p → tk (lo + q) = true) : freeV tk lo hi = 0 := by
  unfold freeV
  cases e : firstR (fun i => !tk (lo + (i : Int))) (hi - lo + 1).toNat with
  | none => rfl
  | some i =>
    obtain ⟨h1, h2, h3⟩ := firstR_some e
    have := hq i (by omega)
    simp [this] at h2
structure CellsV (w : World) (b o : Nat) (e : NatEntry) : Prop where
  c0 : w.cell? ⟨b, o, none⟩ = some (.int .i64 e.Kind)
  c1 : w.cell? ⟨b, o + 1, none⟩ = some (.int .i64 e.Peer)
  c2 : w.cell? ⟨b, o + 2, none⟩ = some (.int .i64 e.PeerPort)
  c3 : w.cell? ⟨b, o + 3, none⟩ = some (.int .i64 e.Outer)
  c4 : w.cell? ⟨b, o + 4, none⟩ = some (.int .i64 e.Inner)
  c5 : w.cell? ⟨b, o + 5, none⟩ = some (.int .i64 e.InnerPort)
  c6 : w.cell? ⟨b, o + 6, none⟩ = some (.int .i64 e.Last)
theorem any_step {p : NatEntry → Bool} {xs : List NatEntry} {k : Nat} (h : k < xs.length) : (xs.take (k + 1)).any p = ((xs.take k).any p || p xs[k]) := by
  rw [List.take_add_one, List.getElem?_eq_getElem h, List.any_append]
  simp
theorem wpList_lookup_own_b {H : Type} {P : Program} (w : World) {ops : Array Oper} {rest : List Oper} {o : Oper} {a : Act} {Q : Exit → Act → World → Prop}
    (hg : o.guard = none) (m x : Operand) (t : TypeId) (hop : o.op = Op.lookup t m x false)
    (k e : TypeId) (K : Keyed P k) (ht : P.underlying t = some (.map k e)) (he : P.underlying e = some .bool) (hz : (zeroValue e).run P w = .ok (.bool false) w) (b n : Nat) (D : DataW H)
    (hm : a.eval m = .map (some b)) (hown : w.ownsMap P k (plainElem P e) b n D) (key : Value) (kl : Lit) (hx : a.eval x = key) (hkey : keyOf P k key = some kl) (c : Bool)
    (hat : D.atKey kl (.lit (.bool false)) = .lit (.bool c)) (hK : wpList P ops Q rest (a.put o.dst (.bool c)) w) :
    wpList P ops Q (o :: rest) a w := by
  refine wpList_plain hg fun K' hK' => ?_
  obtain ⟨v, ps, hrun, hv⟩ := hown.lookup K ht hz (plainElem_bool he false) hkey
  rw [hat] at hv
  have hvc : v = .bool c := by
    unfold plainElem at hv
    rw [he] at hv
    cases v <;> simp at hv
    rw [hv.1]
  subst hvc
  unfold Oper.wp
  simp [execOp, hop, hm, hx, hrun, Result.andThen]
  exact hK' _ _ hK
theorem zero4 (w : World) : (zeroValue 4).run Try.prog w = .ok (.bool false) w := by kernel_rfl
theorem wf64 {q : Int} (h : -9223372036854775808 ≤ q ∧ q ≤ 9223372036854775807) : (Lit.int .i64 q).wf = true := by
  have h1 : IntKind.min .i64 = -9223372036854775808 := by decide
  have h2 : IntKind.max .i64 = 9223372036854775807 := by decide
  simp [Lit.wf, h1, h2, h]
theorem walk {H : Type} (v0 v1 v2 v5 v6 : Value) (lo hi : Int) (f0 f1 f2 f3 f4 : Int) (b off cap : Nat) (xs : List NatEntry) (w : World) (hb : b < w.heap.size) (hlen : xs.length ≤ 1152921504606846976) (hlo : -4611686018427387904 ≤ lo) (hhi : hi ≤ 4611686018427387904)
   (hload : ∀ j, j < xs.length → CellsV w b (off + j * 7) (xs.getD j default)) (hwf : ∀ j, j < xs.length → (Lit.int .i64 (xs.getD j default).Outer).wf = true) :
    Calls Try.prog 115 #[.agg #[v0, v1, v2, .int .i64 lo, .int .i64 hi, v5, v6, .slice (some ⟨b, off, none⟩) xs.length cap], .agg #[.int .i64 f0, .int .i64 f1, .int .i64 f2, .int .i64 f3, .int .i64 f4]] w fun e w' => e = .returned (.int .i64 (freeV (fun q => xs.any (hitV f0 f3 f4 q)) lo hi)) ∧ Below w.heap.size w w' := by
  have hmm := @run_makeMap Try.prog
  go_enter Try.func115, Try.ntmps115
  go_wp2
  go_loopw [13] (fun i wr => ∃ (k : Nat) (D : DataW H), k ≤ xs.length ∧ i = .int .i64 k ∧ wr.ownsMap Try.prog 3 (plainElem Try.prog 4) (w.heap.size + 2) k D ∧ IsMap D ∧ (∀ q, (Lit.int .i64 q).wf = true → D.atKey (.int .i64 q) (.lit (.bool false)) = .lit (.bool ((xs.take k).any (hitV f0 f3 f4 q)))) ∧
      Below (w.heap.size + 2) ((w.alloc (Obj.cells #[v0, v1, v2, .int .i64 lo, .int .i64 hi, v5, v6, .slice (some ⟨b, off, none⟩) xs.length cap] 55)).alloc (Obj.cells #[.int .i64 f0, .int .i64 f1, .int .i64 f2, .int .i64 f3, .int .i64 f4] 56)) wr)
    (fun i _ => xs.length - (intOf i).toNat)
  case atStart =>
    refine ⟨0, .map [], Nat.zero_le _, rfl, ?_, ⟨[], rfl⟩, fun q hq => rfl, ?_⟩
    · have := World.ownsMap_made (H := H) ((w.alloc (Obj.cells #[v0, v1, v2, .int .i64 lo, .int .i64 hi, v5, v6, .slice (some ⟨b, off, none⟩) xs.length cap] 55)).alloc (Obj.cells #[.int .i64 f0, .int .i64 f1, .int .i64 f2, .int .i64 f3, .int .i64 f4] 56)) Try.prog 3 (plainElem Try.prog 4)
      simpa using this
    · exact (Below.refl _ _).alloc (by simp) _
  case round =>
    obtain ⟨k, D, hk, rfl, hown, hD, hat, hB⟩ := hrel
    have hc : k < xs.length → CellsV wr b (off + k * 7) (xs.getD k default) := fun hlt => by
      obtain ⟨h0, h1, h2, h3, h4, h5, h6⟩ := hload k hlt
      have tr : ∀ o, wr.cell? ⟨b, o, none⟩ = w.cell? ⟨b, o, none⟩ := fun o => World.cell?_of_block (w := w) ((hB.block b (by omega)).trans (by rw [Below.heap_alloc _ _ _ (by simp; omega), Below.heap_alloc _ _ _ hb]))
      exact ⟨by rw [tr, h0], by rw [tr, h1], by rw [tr, h2], by rw [tr, h3], by rw [tr, h4], by rw [tr, h5], by rw [tr, h6]⟩
    have c0 := fun h => (hc h).c0
    have c1 := fun h => (hc h).c1
    have c2 := fun h => (hc h).c2
    have c3 := fun h => (hc h).c3
    have c4 := fun h => (hc h).c4
    have c5 := fun h => (hc h).c5
    have c6 := fun h => (hc h).c6
    clear hc
    have bk : ∀ b' o', b' < w.heap.size + 2 → wr.cell? ⟨b', o', none⟩ = ((w.alloc (Obj.cells #[v0, v1, v2, .int .i64 lo, .int .i64 hi, v5, v6, .slice (some ⟨b, off, none⟩) xs.length cap] 55)).alloc (Obj.cells #[.int .i64 f0, .int .i64 f1, .int .i64 f2, .int .i64 f3, .int .i64 f4] 56)).cell? ⟨b', o', none⟩ := fun b' o' h => World.cell?_of_block (hB.block b' h)
    have sz : w.heap.size + 2 ≤ wr.heap.size := by have := hB.size; simpa using this
    have al : ∀ o b' o', b' < w.heap.size + 2 → (wr.alloc o).cell? ⟨b', o', none⟩ = ((w.alloc (Obj.cells #[v0, v1, v2, .int .i64 lo, .int .i64 hi, v5, v6, .slice (some ⟨b, off, none⟩) xs.length cap] 55)).alloc (Obj.cells #[.int .i64 f0, .int .i64 f1, .int .i64 f2, .int .i64 f3, .int .i64 f4] 56)).cell? ⟨b', o', none⟩ := fun o b' o' h => (World.cell?_of_block (Below.heap_alloc _ _ _ (by show b' < _; omega))).trans (bk b' o' h)
    have hn1 : ∀ i v, (#[Value.int .i64 f0, .int .i64 f1, .int .i64 f2, .int .i64 f3, .int .i64 f4])[i]? = some v → ((w.alloc (Obj.cells #[v0, v1, v2, .int .i64 lo, .int .i64 hi, v5, v6, .slice (some ⟨b, off, none⟩) xs.length cap] 55)).alloc (Obj.cells #[.int .i64 f0, .int .i64 f1, .int .i64 f2, .int .i64 f3, .int .i64 f4] 56)).cell? ⟨w.heap.size + 1, i, none⟩ = some v := fun i v h => by
      have := cell_new (w.alloc (Obj.cells #[v0, v1, v2, .int .i64 lo, .int .i64 hi, v5, v6, .slice (some ⟨b, off, none⟩) xs.length cap] 55)) _ 56 i v h
      have e : (w.alloc (Obj.cells #[v0, v1, v2, .int .i64 lo, .int .i64 hi, v5, v6, .slice (some ⟨b, off, none⟩) xs.length cap] 55)).heap.size = w.heap.size + 1 := by simp
      rwa [e] at this
    have g0 : ∀ o, (wr.alloc o).cell? ⟨w.heap.size + 1, 0, none⟩ = some (.int .i64 f0) := fun o => by rw [al _ _ _ (by omega)]; exact hn1 _ _ rfl
    have g3 : ∀ o, (wr.alloc o).cell? ⟨w.heap.size + 1, 3, none⟩ = some (.int .i64 f3) := fun o => by rw [al _ _ _ (by omega)]; exact hn1 _ _ rfl
    have g4 : ∀ o, (wr.alloc o).cell? ⟨w.heap.size + 1, 4, none⟩ = some (.int .i64 f4) := fun o => by rw [al _ _ _ (by omega)]; exact hn1 _ _ rfl
    have b3 : wr.cell? ⟨w.heap.size, 3, none⟩ = some (.int .i64 lo) := by rw [bk _ _ (by omega)]; exact cell_old (by simp) (cell_new _ _ _ _ _ rfl)
    have b4 : wr.cell? ⟨w.heap.size, 4, none⟩ = some (.int .i64 hi) := by rw [bk _ _ (by omega)]; exact cell_old (by simp) (cell_new _ _ _ _ _ rfl)
    clear bk al hn1
    have hw : k < xs.length → (Lit.int .i64 (xs.getD k default).Outer).wf = true := fun h => hwf k h
    go_wp2_with (first
      | (at_mapUpdate; have hlt : k < xs.length := by assumption
         have hk3 : (Lit.int .i64 xs[k].Outer).wf = true := by have := hw hlt; simpa [List.getD_eq_getElem?_getD, hlt] using this
         refine wpList_mapUpdate_own _ rfl _ _ _ 164 rfl 3 4 keyed3 Try.underlying164 (plainElem Try.prog 4) (w.heap.size + 2) k D rfl (hown.alloc _) (by unfold maxLen; omega) _ _ _ rfl rfl (keyOf_int_mk Try.underlying3 hk3) _ [] (plainElem_bool Try.underlying4 true) ?_; intro w1 hown1 hgrow1)
      | (at_mapUpdate; refine wpList_mapUpdate_own _ rfl _ _ _ 164 rfl 3 4 keyed3 Try.underlying164 (plainElem (H := H) Try.prog 4) (w.heap.size + 2) k D rfl ?h1 ?h2 _ _ _ rfl rfl ?h3 _ [] ?h4 ?_)
      | go_in)
    · have hlt : k < xs.length := by assumption
      have hyes : ∀ q, hitV f0 f3 f4 q xs[k] = (xs[k].Outer == q) := fun q => by simp only [hitV]; simp_all
      go_roundw
      case rel =>
        refine ⟨k + 1, D.put (.int .i64 xs[k].Outer) (.lit (.bool true)), by omega, by go_num, hown1, hD.put _ _, fun q hq => ?_, (hB.alloc sz _).grown hgrow1 (by simp; omega) (fun j hj => by cases hj; exact Nat.le_refl _)⟩
        rw [any_step hlt, hyes q]
        by_cases c : xs[k].Outer = q
        · subst c
          rw [atKey_put_same hD (show WideAt.IsKeyLit (.int .i64 xs[k].Outer) from trivial)]
          simp
        · rw [atKey_put_other (fun h => c (by injection h with _ h; exact h.symm)), hat q hq]
          simp [c]
      case measure => simp [intOf]; omega
    · have hlt : k < xs.length := by assumption
      have hno : ∀ q, hitV f0 f3 f4 q xs[k] = false := fun q => by simp only [hitV]; simp_all
      go_roundw
      case rel =>
        refine ⟨k + 1, D, by omega, by go_num, (hown.alloc _).mono (by omega), hD, fun q hq => ?_, hB.alloc sz _⟩
        rw [hat q hq, any_step hlt, hno q, Bool.or_false]
      case measure => simp [intOf]; omega
    · have hlt : k < xs.length := by assumption
      have hno : ∀ q, hitV f0 f3 f4 q xs[k] = false := fun q => by simp only [hitV]; simp_all
      go_roundw
      case rel =>
        refine ⟨k + 1, D, by omega, by go_num, (hown.alloc _).mono (by omega), hD, fun q hq => ?_, hB.alloc sz _⟩
        rw [hat q hq, any_step hlt, hno q, Bool.or_false]
      case measure => simp [intOf]; omega
    · have hlt : k < xs.length := by assumption
      have hno : ∀ q, hitV f0 f3 f4 q xs[k] = false := fun q => by simp only [hitV]; simp_all
      go_roundw
      case rel =>
        refine ⟨k + 1, D, by omega, by go_num, (hown.alloc _).mono (by omega), hD, fun q hq => ?_, hB.alloc sz _⟩
        rw [hat q hq, any_step hlt, hno q, Bool.or_false]
      case measure => simp [intOf]; omega
    · have : k = xs.length := by omega
      subst this
      clear c0 c1 c2 c3 c4 c5 c6 g0 g3 g4 hw
      have hW : Below w.heap.size w wr := (((Below.refl _ w).alloc (Nat.le_refl _) _).alloc (by simp) _).trans (hB.mono (by omega))
      rw [List.take_length] at hat
      go_loop [8] (fun i => ∃ p : Nat, i = .int .i64 (lo + p) ∧ (p = 0 ∨ lo + p ≤ hi + 1) ∧ ∀ q : Nat, q < p → xs.any (hitV f0 f3 f4 (lo + q)) = true) (fun i => (hi + 1 - intOf i).toNat)
      case atStart => exact ⟨0, by simp, .inl rfl, fun q hq => by omega⟩
      case round =>
        obtain ⟨p, rfl, hp, hq⟩ := hrel
        go_wp2_with (first
          | (at_lookup; have hlt : lo + p ≤ hi := by assumption
             refine wpList_lookup_own_b _ rfl _ _ 164 rfl 3 4 keyed3 Try.underlying164 Try.underlying4 (zero4 _) (w.heap.size + 2) _ D rfl hown _ _ rfl (keyOf_int_mk Try.underlying3 (wf64 (by omega))) _ (hat _ (wf64 (by omega))) ?_)
          | go_in)
        · go_ret
          have hno : xs.any (hitV f0 f3 f4 (lo + p)) = false := by simp_all
          exact ⟨by rw [freeV_at (by assumption) hq hno]; rfl, hW⟩
        · go_round
          case rel =>
            refine ⟨p + 1, by go_num, .inr (by omega), fun q hq' => ?_⟩
            rcases Nat.lt_or_ge q p with c | c
            · have := hq q c
              simpa using this
            · have : q = p := by omega
              subst this
              simp_all
          case measure => simp [intOf]; omega
        · go_ret
          exact ⟨by rw [freeV_no (by assumption) hq]; rfl, hW⟩
theorem walk0 (v0 v1 v2 v5 v6 : Value) (lo hi : Int) (f0 f1 f2 f3 f4 : Int) (ad : Option Addr) (cap : Nat) (w : World) (hlo : -4611686018427387904 ≤ lo) (hhi : hi ≤ 4611686018427387904) :
    Calls Try.prog 115 #[.agg #[v0, v1, v2, .int .i64 lo, .int .i64 hi, v5, v6, .slice ad 0 cap], .agg #[.int .i64 f0, .int .i64 f1, .int .i64 f2, .int .i64 f3, .int .i64 f4]] w fun e w' => e = .returned (.int .i64 (freeV (fun _ => false) lo hi)) ∧ Below w.heap.size w w' := by
  have hmm := @run_makeMap Try.prog
  go_enter Try.func115, Try.ntmps115
  go_wp2
  refine wp_loop_rounds 1 ?_
  rw [rounds_succ]
  have sz2 : ((w.alloc (Obj.cells #[v0, v1, v2, .int .i64 lo, .int .i64 hi, v5, v6, .slice ad 0 cap] 55)).alloc (Obj.cells #[.int .i64 f0, .int .i64 f1, .int .i64 f2, .int .i64 f3, .int .i64 f4] 56)).heap.size = w.heap.size + 1 + 1 := by simp
  have hown := World.ownsMap_made (H := Unit) ((w.alloc (Obj.cells #[v0, v1, v2, .int .i64 lo, .int .i64 hi, v5, v6, .slice ad 0 cap] 55)).alloc (Obj.cells #[.int .i64 f0, .int .i64 f1, .int .i64 f2, .int .i64 f3, .int .i64 f4] 56)) Try.prog 3 (plainElem Try.prog 4)
  rw [sz2] at hown
  have b3 : (((w.alloc (Obj.cells #[v0, v1, v2, .int .i64 lo, .int .i64 hi, v5, v6, .slice ad 0 cap] 55)).alloc (Obj.cells #[.int .i64 f0, .int .i64 f1, .int .i64 f2, .int .i64 f3, .int .i64 f4] 56)).alloc (.map #[] 0)).cell? ⟨w.heap.size, 3, none⟩ = some (.int .i64 lo) := cell_old (by simp; omega) (cell_old (by simp) (cell_new _ _ _ _ _ rfl))
  have b4 : (((w.alloc (Obj.cells #[v0, v1, v2, .int .i64 lo, .int .i64 hi, v5, v6, .slice ad 0 cap] 55)).alloc (Obj.cells #[.int .i64 f0, .int .i64 f1, .int .i64 f2, .int .i64 f3, .int .i64 f4] 56)).alloc (.map #[] 0)).cell? ⟨w.heap.size, 4, none⟩ = some (.int .i64 hi) := cell_old (by simp; omega) (cell_old (by simp) (cell_new _ _ _ _ _ rfl))
  have hW : Below w.heap.size w (((w.alloc (Obj.cells #[v0, v1, v2, .int .i64 lo, .int .i64 hi, v5, v6, .slice ad 0 cap] 55)).alloc (Obj.cells #[.int .i64 f0, .int .i64 f1, .int .i64 f2, .int .i64 f3, .int .i64 f4] 56)).alloc (.map #[] 0)) := (((Below.refl _ w).alloc (Nat.le_refl _) _).alloc (by simp) _).alloc (by simp; omega) _
  have hat : ∀ q, (Lit.int .i64 q).wf = true → (DataW.map [] : DataW Unit).atKey (.int .i64 q) (.lit (.bool false)) = .lit (.bool false) := fun q _ => rfl
  generalize ((w.alloc (Obj.cells #[v0, v1, v2, .int .i64 lo, .int .i64 hi, v5, v6, .slice ad 0 cap] 55)).alloc (Obj.cells #[.int .i64 f0, .int .i64 f1, .int .i64 f2, .int .i64 f3, .int .i64 f4] 56)).alloc (.map #[] 0) = w3 at hown b3 b4 hW ⊢
  go_wp2
  go_loop [8] (fun i => ∃ p : Nat, i = .int .i64 (lo + p) ∧ p = 0) (fun i => (hi + 1 - intOf i).toNat)
  case atStart => exact ⟨0, by simp, rfl⟩
  case round =>
    obtain ⟨p, rfl, rfl⟩ := hrel
    go_wp2_with (first
      | (at_lookup; have hlt : lo + ((0 : Nat) : Int) ≤ hi := by first | assumption | (simp; assumption)
         refine wpList_lookup_own_b _ rfl _ _ 164 rfl 3 4 keyed3 Try.underlying164 Try.underlying4 (zero4 _) (w.heap.size + 1 + 1) _ (.map []) rfl hown _ _ rfl (keyOf_int_mk Try.underlying3 (wf64 (by omega))) _ (hat _ (wf64 (by omega))) ?_)
      | go_in)
    · go_ret
      exact ⟨by rw [freeV_at (p := 0) (by simpa using ‹_›) (fun q hq => by omega) rfl]; simp, hW⟩
    · go_ret
      exact ⟨by rw [freeV_no (p := 0) (by simpa using ‹_›) (fun q hq => by omega)]; rfl, hW⟩

theorem vals_two {w : World} {ow : Nat → Prop} {ρ : Env} {u1 u2 : V} {vals : Array Value} (h : ArgsR w ow ρ [u1, u2] vals) : ∃ v1 v2, vals = #[v1, v2] ∧ VR w ow ρ u1 v1 ∧ VR w ow ρ u2 v2 := by
  obtain ⟨h1, h2⟩ := h
  obtain ⟨l⟩ := vals
  match l, h1 with
  | [a, b], _ => exact ⟨a, b, rfl, h2 0 u1 rfl, h2 1 u2 rfl⟩
theorem agg_inv {w : World} {ow : Nat → Prop} {ρ : Env} {vs : List V} {v : Value} (h : VR w ow ρ (.agg vs) v) : ∃ l : List Value, v = .agg l.toArray ∧ l.length = vs.length ∧ ∀ j u, vs[j]? = some u → VR w ow ρ u (l.getD j undef) := by
  cases h with
  | agg hs h1 h2 =>
    rename_i cs
    obtain ⟨l⟩ := cs
    exact ⟨l, rfl, hs, fun j u hj => by simpa [Array.getD_eq_getD_getElem?, List.getD_eq_getElem?_getD] using h2 j u hj⟩
theorem int_inv {w : World} {ow : Nat → Prop} {ρ : Env} {n : Int} {v : Value} (h : VR w ow ρ (.d (.int .i64 n)) v) : v = .int .i64 n := by
  cases h with | d h => cases h; rfl
end Fp
open Fp
theorem impl_NatBook_freePort_c {a0 : NatBook} {a1 : NatFlow} {r : Int} (h : impl_NatBook_freePort_m a0 a1 = some r) : PureC Try.prog 115 [.agg [.d (.int .i64 a0.Addr), .d (.int .i64 a0.Len), .d (.int .i64 a0.Own), .d (.int .i64 a0.Low), .d (.int .i64 a0.High), .d (slD NatDoor.enc a0.Doors), .d (.int .i64 a0.Now), .d (slD NatEntry.enc a0.Entries)], .agg [.d (.int .i64 a1.Kind), .d (.int .i64 a1.From), .d (.int .i64 a1.FromPort), .d (.int .i64 a1.To), .d (.int .i64 a1.ToPort)]] (.d (.int .i64 r)) [] := by
  unfold impl_NatBook_freePort_m at h
  obtain ⟨⟨g1, g2, g3, g4⟩, h⟩ := gd_some h
  obtain rfl := Option.some.inj h
  refine ⟨⟨Try.f115, rfl, by kernel_rfl, by kernel_rfl⟩, rfl, by simp, .nil, fun id hid => by simp [V.mentions] at hid, fun w vals ρ0 hv => ?_⟩
  obtain ⟨v1, v2, rfl, h1, h2⟩ := vals_two hv
  obtain ⟨l1, rfl, n1, k1⟩ := agg_inv h1
  obtain ⟨l2, rfl, n2, k2⟩ := agg_inv h2
  match l1, n1, k1 with
  | [p0, p1, p2, p3, p4, p5, p6, p7], _, k1 =>
  match l2, n2, k2 with
  | [q0, q1, q2, q3, q4], _, k2 =>
  have e3 := int_inv (k1 3 _ rfl)
  have e4 := int_inv (k1 4 _ rfl)
  have e7 := k1 7 _ rfl
  have f0 := int_inv (k2 0 _ rfl)
  have f1 := int_inv (k2 1 _ rfl)
  have f2 := int_inv (k2 2 _ rfl)
  have f3 := int_inv (k2 3 _ rfl)
  have f4 := int_inv (k2 4 _ rfl)
  simp only [List.getD_cons_succ, List.getD_cons_zero] at e3 e4 e7 f0 f1 f2 f3 f4
  subst e3 e4 f0 f1 f2 f3 f4
  have fin : ∀ {e : Ending} {w' : World} {m : Int}, (e = .returned (.int .i64 m) ∧ RowKit.Below w.heap.size w w') → ∃ v ρ, e = .returned v ∧ Pure w w' ∧ VR w' (fun b => b < w.heap.size) ρ (.d (.int .i64 m)) v ∧
    (∀ b ∈ ([] : List Nb), BR w' (fun b => b < w.heap.size) ρ b.id (.arr b.t b.sz b.n b.row)) ∧ (∀ x ∈ ([] : List Nb), ∀ y ∈ ([] : List Nb), (ρ x.id).ph = false → (ρ y.id).ph = false → (ρ x.id).b = (ρ y.id).b → x.id = y.id) ∧ (∀ x ∈ ([] : List Nb), (ρ x.id).ph = false → w.heap.size ≤ (ρ x.id).b) := fun {e w' m} ⟨he, hb⟩ =>
    ⟨_, ρ0, he, ⟨hb.os, hb.tape, hb.output, hb.size, hb.block⟩, .d .int, by simp, by simp, by simp⟩
  cases e7 with
  | d e7 =>
    cases e7 with
    | sl0 hn =>
      refine Calls.mono (walk0 _ _ _ _ _ _ _ _ _ _ _ _ _ _ w g2 g3) fun e w' hw => ?_
      have : a0.Entries = [] := List.eq_nil_of_length_eq_zero hn
      rw [this]
      exact fin hw
    | sl vals ho hb hl hc hvv hcap =>
      refine Calls.mono (walk (H := Unit) _ _ _ _ _ _ _ _ _ _ _ _ _ _ _ a0.Entries w hb g1 g2 g3 (fun j hj => ?_) fun j hj => wf64 (g4 _ ?_)) fun e w' hw => fin hw
      · have hsz := hl j hj
        have cc : ∀ i d, (rows NatEntry.enc a0.Entries j)[i]? = some d → ∀ n, d = .int .i64 n → w.cell? ⟨_, _ + j * 7 + i, none⟩ = some (.int .i64 n) := fun i d hd n hn => by
          have h1 := hc j i d hj hd
          have h2 := hvv j i d hj hd
          rw [hn] at h2
          have h3 := int_inv (ρ := ρ0) (.d h2)
          rw [h3, ← hsz] at h1
          exact h1
        exact ⟨cc 0 _ rfl _ rfl, cc 1 _ rfl _ rfl, cc 2 _ rfl _ rfl, cc 3 _ rfl _ rfl, cc 4 _ rfl _ rfl, cc 5 _ rfl _ rfl, cc 6 _ rfl _ rfl⟩
      · rw [List.getD_eq_getElem?_getD, List.getElem?_eq_getElem hj]; exact List.getElem_mem hj

noncomputable def slices_BinarySearchFunc_NatEntry_NatEntry_NatEntry_impl_NatEntry_compare_m (a0 : (List NatEntry)) (a1 : NatEntry) : Option (Int × Bool) :=
 bd (lp (σ := Int × Int) (β := (Int)) (fun s1 =>
(if (decide (s1.2 < s1.1)) = true then
 gd ((0 : Int) ≤ 1) <|
 gd ((0 : Int) ≤ IntKind.i64.wrap ((IntKind.u64.wrap (IntKind.i64.wrap (s1.2 + s1.1)) : Int).fdiv (2 ^ min (1 : Int).toNat IntKind.u64.bits)) ∧ IntKind.i64.wrap ((IntKind.u64.wrap (IntKind.i64.wrap (s1.2 + s1.1)) : Int).fdiv (2 ^ min (1 : Int).toNat IntKind.u64.bits)) < ((a0.length : Nat) : Int)) <|
 bd (impl_NatEntry_compare_m (a0.getD ((IntKind.i64.wrap ((IntKind.u64.wrap (IntKind.i64.wrap (s1.2 + s1.1)) : Int).fdiv (2 ^ min (1 : Int).toNat IntKind.u64.bits))).toNat) default) a1) fun x7 =>
(if (decide (x7 < 0)) = true then
 some (.inl (s1.1, IntKind.i64.wrap ((IntKind.i64.wrap ((IntKind.u64.wrap (IntKind.i64.wrap (s1.2 + s1.1)) : Int).fdiv (2 ^ min (1 : Int).toNat IntKind.u64.bits))) + 1)))
else
 some (.inl (IntKind.i64.wrap ((IntKind.u64.wrap (IntKind.i64.wrap (s1.2 + s1.1)) : Int).fdiv (2 ^ min (1 : Int).toNat IntKind.u64.bits)), s1.2)))
else
 some (.inr s1.2))) (((a0.length : Nat) : Int), 0)) fun x4 =>
 gd ((decide (x4 < ((a0.length : Nat) : Int))) = true → ((0 : Int) ≤ x4 ∧ x4 < ((a0.length : Nat) : Int))) <|
 bd (gcall ((decide (x4 < ((a0.length : Nat) : Int))) = true) (impl_NatEntry_compare_m (a0.getD x4.toNat default) a1)) fun x10 =>
 some (x4, ((decide (x4 < ((a0.length : Nat) : Int))) && (x10 == 0)))

theorem slices_BinarySearchFunc_NatEntry_NatEntry_NatEntry_impl_NatEntry_compare_c {a0 : (List NatEntry)} {a1 : NatEntry} {r : Int × Bool} (h : slices_BinarySearchFunc_NatEntry_NatEntry_NatEntry_impl_NatEntry_compare_m a0 a1 = some r) : PureC Try.prog 116 [.d (slD NatEntry.enc a0), .agg [.d (.int .i64 a1.Kind), .d (.int .i64 a1.Peer), .d (.int .i64 a1.PeerPort), .d (.int .i64 a1.Outer), .d (.int .i64 a1.Inner), .d (.int .i64 a1.InnerPort), .d (.int .i64 a1.Last)], .fn 117 []] (.tup [.d (.int .i64 r.1), .d (.bool r.2)]) [] := by
  refine pureC_x tOk (fn := Try.f116) (c := codeOf Try.f116) rfl rfl ?_
  unfold slices_BinarySearchFunc_NatEntry_NatEntry_NatEntry_impl_NatEntry_compare_m at h
  conv => whnf
  refine seq_in tOk ?_
  conv => whnf
  obtain ⟨x4, hx4, h⟩ := bd_some h
  refine loop_m tOk hx4 (fun s1 => ⟨0, 49, [(0, .d (slD NatEntry.enc a0)), (2, .fn 117 []), (4, .ref 4 0 0), (8, .d (.int .i64 ((a0.length : Nat) : Int))), (9, .d (.int .i64 s1.2)), (10, .d (.int .i64 s1.1))], [], [(4, .box 92 [.d (.int .i64 a1.Kind), .d (.int .i64 a1.Peer), .d (.int .i64 a1.PeerPort), .d (.int .i64 a1.Outer), .d (.int .i64 a1.Inner), .d (.int .i64 a1.InnerPort), .d (.int .i64 a1.Last)])], []⟩) ?_ ?_
  · exact leX []
  · clear hx4
    intro s1 y2 g3 hy2
    conv => whnf
    refine seq_in tOk ?_
    conv => whnf
    refine andI g3 (fun _ g3 => ?_) (fun _ g3 => ?_)
    · conv => whnf
      refine gdI g3 (fun g3 => ?_)
      conv => whnf
      obtain ⟨g6, g3⟩ := gd_some g3
      obtain ⟨x7, hx7, g3⟩ := bd_some g3
      refine draw_u tOk [.u 6 0 (.d (.int .i64 x7)) []] 8 [] [0, 0, 0, 6, 14, 0, 63, 127] [] ?_
      conv => whnf
      refine And.intro g6 ?_
      clear g6
      conv => whnf
      refine And.intro (callD_any (impl_NatEntry_compare_c hx7) (by kernel_rfl)) ?_
      conv => whnf
      refine And.intro (by kernel_rfl) ?_
      conv => whnf
      refine andI g3 (fun _ g3 => ?_) (fun _ g3 => ?_)
      · conv => whnf
        obtain rfl := Option.some.inj g3
        exact ⟨_, rfl, leX []⟩
      · conv => whnf
        obtain rfl := Option.some.inj g3
        exact ⟨_, rfl, leX []⟩
    · conv => whnf
      obtain rfl := Option.some.inj g3
      obtain rfl := hy2 _ rfl
      obtain ⟨g9, h⟩ := gd_some h
      obtain ⟨x10, hx10, h⟩ := bd_some h
      refine draw_u tOk [.u 11 0 (.d (.int .i64 x10)) []] 16 [] [0, 0, 0, 6, 14, 30, 30, 30, 222, 478, 30, 2046, 4094, 8190, 4095, 32767] [] ?_
      conv => whnf
      refine And.intro g9 ?_
      clear g9
      conv => whnf
      refine And.intro (callDG_if rfl rfl rfl rfl (by intro c0; exact impl_NatEntry_compare_c (gcall_some hx10 c0))) ?_
      conv => whnf
      refine And.intro (by kernel_rfl) ?_
      conv => whnf
      obtain rfl := Option.some.inj h
      exact lfP []

noncomputable def slices_Insert_NatEntry_NatEntry_m (a0 : (List NatEntry)) (a1 : Int) (a2 : (List NatEntry)) : Option ((List NatEntry)) :=
 gd ((0 ≤ a1 ∧ a1 ≤ a0.length) ∧ 0 < a2.length ∧ (a0.length + a2.length) * (56 + 1) ≤ 70368744177664) <|
 some (insL a0 a1.toNat a2)

theorem slices_Insert_NatEntry_NatEntry_c {a0 : (List NatEntry)} {a1 : Int} {a2 : (List NatEntry)} {r : (List NatEntry)} (h : slices_Insert_NatEntry_NatEntry_m a0 a1 a2 = some r) : EffC Try.prog 118 [.osl 9000 0 a0.length, .d (.int .i64 a1), .osl 9001 0 a2.length] [(9000, .arr 92 7 a0.length (rows NatEntry.enc a0)), (9001, .arr 92 7 a2.length (rows NatEntry.enc a2))] (.osl 5001 0 r.length) [(5001, .arr 92 7 r.length (rows NatEntry.enc r))] := by
  unfold slices_Insert_NatEntry_NatEntry_m at h
  have L : LIns Try.prog ⟨fun x => match x with | 22 => 118 | 29 => 146 | 30 => 147 | _ => 0, fun x => match x with | 0 => 0 | 3 => 3 | 4 => 4 | 9 => 92 | 24 => 53 | _ => 0, fun x => x⟩ 7 56 (.agg #[.int .i64 0, .int .i64 0, .int .i64 0, .int .i64 0, .int .i64 0, .int .i64 0, .int .i64 0]) := ⟨by kernel_rfl, ⟨Try.f118.name, by kernel_rfl, by kernel_rfl⟩, ⟨Try.f146, by kernel_rfl, by kernel_rfl, by kernel_rfl, by kernel_rfl, by kernel_rfl⟩, by kernel_rfl, fun w => by kernel_rfl, fun w => by kernel_rfl, fun w => by kernel_rfl, by kernel_rfl, fun w => by kernel_rfl, fun w => by kernel_rfl, fun w => by kernel_rfl, by kernel_rfl, fun w => by kernel_rfl, fun w => by kernel_rfl, fun w => by kernel_rfl, by kernel_rfl, fun w => by kernel_rfl, fun w => by kernel_rfl, fun w => by kernel_rfl, ⟨_, rfl, rfl, rfl, rfl⟩, fun w => by kernel_rfl, by kernel_rfl, fun u hu => List.all_eq_true.1 (by kernel_rfl : (List.all (Value.cells (.agg #[.int .i64 0, .int .i64 0, .int .i64 0, .int .i64 0, .int .i64 0, .int .i64 0, .int .i64 0])).toList Value.oneCell') = true) u hu, by decide⟩
  obtain ⟨g, h⟩ := gd_some h
  obtain rfl := Option.some.inj h
  have k := effC_ins (t := 92) (enc := NatEntry.enc) L (canOf (fn := Try.f118) (c := codeOf Try.f118) rfl rfl (by kernel_rfl)) (fun _ => rfl) (xs := a0) (ys := a2) (i := a1.toNat) (by omega) g.2.1 g.2.2
  rw [show ((a1.toNat : Nat) : Int) = a1 by omega] at k
  exact k

noncomputable def impl_NatBook_outPort_r05_m (a0 : NatBook) (a1 : NatFlow) : Option (Int × Int × NatBook) :=
 bd (lp (σ := Int) (β := (Int ⊕ Unit)) (fun s1 =>
(if (decide (s1 < ((a0.Doors.length : Nat) : Int))) = true then
 gd ((0 : Int) ≤ s1 ∧ s1 < ((a0.Doors.length : Nat) : Int)) <|
(if (((((a0.Doors.getD s1.toNat default).Kind) == a1.Kind) && (((a0.Doors.getD s1.toNat default).Inner) == a1.From)) && (((a0.Doors.getD s1.toNat default).InnerPort) == a1.FromPort)) = true then
 some (.inr (.inl ((a0.Doors.getD s1.toNat default).Outer)))
else
 some (.inl (IntKind.i64.wrap (s1 + 1))))
else
 some (.inr (.inr ())))) 0) fun x4 =>
(match x4 with
| .inl d6 =>
 some (d6, 0, a0)
| .inr d7 =>
 bd (lp (σ := Int) (β := ((Int × (List NatEntry)) ⊕ Unit)) (fun s8 =>
(if (decide (s8 < ((a0.Entries.length : Nat) : Int))) = true then
 gd ((0 : Int) ≤ s8 ∧ s8 < ((a0.Entries.length : Nat) : Int)) <|
 bd (impl_NatBook_lives_m a0 (a0.Entries.getD s8.toNat default)) fun x13 =>
 bd (gcall (x13 = true) (impl_NatEntry_flow_m (a0.Entries.getD s8.toNat default))) fun x14 =>
(if (x13 && ((x14.Kind == a1.Kind) && ((x14.From == a1.From) && ((x14.FromPort == a1.FromPort) && ((x14.To == a1.To) && ((x14.ToPort == a1.ToPort) && true)))))) = true then
 gd ((0 : Int) ≤ s8 ∧ s8 < ((a0.Entries.length : Nat) : Int)) <|
 some (.inr (.inl ((a0.Entries.getD s8.toNat default).Outer, a0.Entries.set s8.toNat ({ (a0.Entries.getD s8.toNat default) with Last := a0.Now }))))
else
 some (.inl (IntKind.i64.wrap (s8 + 1))))
else
 some (.inr (.inr ())))) 0) fun x11 =>
(match x11 with
| .inl d16 =>
 some (d16.1, 0, { a0 with Entries := d16.2 })
| .inr d17 =>
(if (((a0.Entries.length : Nat) : Int) == 16) = true then
 some (0, 4, a0)
else
 bd (impl_NatBook_freePort_m a0 a1) fun x18 =>
(if (x18 == 0) = true then
 some (0, 5, a0)
else
 bd (slices_BinarySearchFunc_NatEntry_NatEntry_NatEntry_impl_NatEntry_compare_m a0.Entries (⟨a1.Kind, a1.To, a1.ToPort, x18, a1.From, a1.FromPort, a0.Now⟩ : NatEntry)) fun x19 =>
 bd (slices_Insert_NatEntry_NatEntry_m a0.Entries x19.1 ([(⟨a1.Kind, a1.To, a1.ToPort, x18, a1.From, a1.FromPort, a0.Now⟩ : NatEntry)] : List NatEntry)) fun x20 =>
 some (x18, 0, { a0 with Entries := x20 })))))

theorem impl_NatBook_outPort_r05_c {a0 : NatBook} {a1 : NatFlow} {r : Int × Int × NatBook} (h : impl_NatBook_outPort_r05_m a0 a1 = some r) : EffC Try.prog 62 [.ref 9000 0 0, .agg [.d (.int .i64 a1.Kind), .d (.int .i64 a1.From), .d (.int .i64 a1.FromPort), .d (.int .i64 a1.To), .d (.int .i64 a1.ToPort)]] [(9000, .box 55 [.d (.int .i64 a0.Addr), .d (.int .i64 a0.Len), .d (.int .i64 a0.Own), .d (.int .i64 a0.Low), .d (.int .i64 a0.High), .osl 9001 0 a0.Doors.length, .d (.int .i64 a0.Now), .osl 9002 0 a0.Entries.length]), (9001, .arr 90 4 a0.Doors.length (rows NatDoor.enc a0.Doors)), (9002, .arr 92 7 a0.Entries.length (rows NatEntry.enc a0.Entries))] (.tup [.d (.int .i64 r.1), .d (.int .i64 r.2.1)]) [(9000, .box 55 [.d (.int .i64 a0.Addr), .d (.int .i64 a0.Len), .d (.int .i64 a0.Own), .d (.int .i64 a0.Low), .d (.int .i64 a0.High), .osl 5001 0 r.2.2.Doors.length, .d (.int .i64 a0.Now), .osl 5002 0 r.2.2.Entries.length]), (5001, .arr 90 4 r.2.2.Doors.length (rows NatDoor.enc r.2.2.Doors)), (5002, .arr 92 7 r.2.2.Entries.length (rows NatEntry.enc r.2.2.Entries))] := by
  refine effC_x tOk (fn := Try.f62) (c := codeOf Try.f62) rfl rfl ?_
  unfold impl_NatBook_outPort_r05_m at h
  conv => whnf
  refine seq_in tOk ?_
  conv => whnf
  obtain ⟨x4, hx4, h⟩ := bd_some h
  refine loop_m tOk hx4 (fun s1 => ⟨0, 130, [(0, .ref 9000 0 0), (3, .ref 3 0 0), (17, .osl 9001 0 a0.Doors.length), (18, .d (.int .i64 ((a0.Doors.length : Nat) : Int))), (19, .d (.int .i64 s1))], [], [(3, .box 56 [.d (.int .i64 a1.Kind), .d (.int .i64 a1.From), .d (.int .i64 a1.FromPort), .d (.int .i64 a1.To), .d (.int .i64 a1.ToPort)]), (9000, .box 55 [.d (.int .i64 a0.Addr), .d (.int .i64 a0.Len), .d (.int .i64 a0.Own), .d (.int .i64 a0.Low), .d (.int .i64 a0.High), .osl 9001 0 a0.Doors.length, .d (.int .i64 a0.Now), .osl 9002 0 a0.Entries.length]), (9001, .arr 90 4 a0.Doors.length (rows NatDoor.enc a0.Doors)), (9002, .arr 92 7 a0.Entries.length (rows NatEntry.enc a0.Entries))], [⟨[(0, .ref 9000 0 0)], []⟩]⟩) ?_ ?_
  · exact leX []
  · clear hx4
    intro s1 y2 g3 hy2
    conv => whnf
    refine seq_in tOk ?_
    conv => whnf
    refine andI g3 (fun _ g3 => ?_) (fun _ g3 => ?_)
    · conv => whnf
      refine seq_in tOk ?_
      conv => whnf
      refine gdI g3 (fun g3 => ?_)
      conv => whnf
      refine andI g3 (fun _ g3 => ?_) (fun _ g3 => ?_)
      · conv => whnf
        obtain rfl := Option.some.inj g3
        obtain rfl := hy2 _ rfl
        obtain rfl := Option.some.inj h
        exact lfE [.s [(5001, 9001), (5002, 9002), (9001, 5001), (9002, 5002)]]
      · conv => whnf
        obtain rfl := Option.some.inj g3
        exact ⟨_, rfl, leX []⟩
    · conv => whnf
      obtain rfl := Option.some.inj g3
      obtain rfl := hy2 _ rfl
      refine seq_in tOk ?_
      conv => whnf
      obtain ⟨x11, hx11, h⟩ := bd_some h
      refine loop_m tOk hx11 (fun s8 => ⟨0, 130, [(0, .ref 9000 0 0), (3, .ref 3 0 0), (48, .osl 9002 0 a0.Entries.length), (49, .d (.int .i64 ((a0.Entries.length : Nat) : Int))), (50, .d (.int .i64 s8))], [], [(3, .box 56 [.d (.int .i64 a1.Kind), .d (.int .i64 a1.From), .d (.int .i64 a1.FromPort), .d (.int .i64 a1.To), .d (.int .i64 a1.ToPort)]), (9000, .box 55 [.d (.int .i64 a0.Addr), .d (.int .i64 a0.Len), .d (.int .i64 a0.Own), .d (.int .i64 a0.Low), .d (.int .i64 a0.High), .osl 9001 0 a0.Doors.length, .d (.int .i64 a0.Now), .osl 9002 0 a0.Entries.length]), (9001, .arr 90 4 a0.Doors.length (rows NatDoor.enc a0.Doors)), (9002, .arr 92 7 a0.Entries.length (rows NatEntry.enc a0.Entries))], [⟨[(0, .ref 9000 0 0)], []⟩]⟩) ?_ ?_
      · exact leX []
      · clear hx11
        intro s8 y9 g10 hy9
        conv => whnf
        refine seq_in tOk ?_
        conv => whnf
        refine andI g10 (fun _ g10 => ?_) (fun _ g10 => ?_)
        · conv => whnf
          refine seq_in tOk ?_
          conv => whnf
          refine gdI g10 (fun g10 => ?_)
          conv => whnf
          obtain ⟨x13, hx13, g10⟩ := bd_some g10
          obtain ⟨x14, hx14, g10⟩ := bd_some g10
          refine draw_u tOk [.u 4 0 (.d (.bool x13)) [], .u 7 0 (.agg [.d (.int .i64 x14.Kind), .d (.int .i64 x14.From), .d (.int .i64 x14.FromPort), .d (.int .i64 x14.To), .d (.int .i64 x14.ToPort)]) []] 11 [] [0, 1, 3, 0, 15, 31, 63, 127, 63, 511, 1023] [] ?_
          conv => whnf
          refine And.intro (callD_any (impl_NatBook_lives_c hx13) (by kernel_rfl)) ?_
          conv => whnf
          refine And.intro (callDG_if rfl rfl rfl rfl (by intro c0; exact impl_NatEntry_flow_c (gcall_some hx14 c0))) ?_
          conv => whnf
          refine And.intro (by kernel_rfl) ?_
          conv => whnf
          refine andI g10 (fun _ g10 => ?_) (fun _ g10 => ?_)
          · conv => whnf
            obtain ⟨g15, g10⟩ := gd_some g10
            refine draw_u tOk [] 11 [] [0, 1, 3, 7, 0, 0, 32, 96, 224, 511, 1023] [2047] ?_
            conv => whnf
            refine And.intro g15 ?_
            clear g15
            conv => whnf
            refine And.intro (by kernel_rfl) ?_
            conv => whnf
            refine ⟨rows NatEntry.enc (a0.Entries.set s8.toNat ({ (a0.Entries.getD s8.toNat default) with Last := a0.Now })), store_rows' lenA rfl, ?_⟩
            conv => whnf
            obtain rfl := Option.some.inj g10
            obtain rfl := hy9 _ rfl
            obtain rfl := Option.some.inj h
            exact lfE [.s [(5001, 9001), (5002, 9002), (9001, 5001), (9002, 5002)]]
          · conv => whnf
            obtain rfl := Option.some.inj g10
            exact ⟨_, rfl, leX []⟩
        · conv => whnf
          obtain rfl := Option.some.inj g10
          obtain rfl := hy9 _ rfl
          refine seq_in tOk ?_
          conv => whnf
          refine andI h (fun _ h => ?_) (fun _ h => ?_)
          · conv => whnf
            obtain rfl := Option.some.inj h
            exact lfE [.s [(5001, 9001), (5002, 9002), (9001, 5001), (9002, 5002)]]
          · conv => whnf
            obtain ⟨x18, hx18, h⟩ := bd_some h
            refine draw_u tOk [.u 4 0 (.d (.int .i64 x18)) []] 6 [] [0, 1, 3, 0, 15, 31] [] ?_
            conv => whnf
            refine And.intro (callD_any (impl_NatBook_freePort_c hx18) (by kernel_rfl)) ?_
            conv => whnf
            refine And.intro (by kernel_rfl) ?_
            conv => whnf
            refine seq_in tOk ?_
            conv => whnf
            refine andI h (fun _ h => ?_) (fun _ h => ?_)
            · conv => whnf
              obtain rfl := Option.some.inj h
              exact lfE [.s [(5001, 9001), (5002, 9002), (9001, 5001), (9002, 5002)]]
            · conv => whnf
              refine draw_u tOk [] 17 [] [0, 1, 0, 4, 0, 16, 0, 0, 128, 0, 512, 0, 2048, 6144, 14336, 32767, 0] [131071] ?_
              conv => whnf
              refine And.intro (by kernel_rfl) ?_
              conv => whnf
              obtain ⟨x19, hx19, h⟩ := bd_some h
              refine draw_u tOk [.u 5 0 (.tup [.d (.int .i64 x19.1), .d (.bool x19.2)]) []] 11 [] [0, 1, 3, 7, 0, 31, 63, 127, 127, 255, 1023] [] ?_
              conv => whnf
              refine And.intro (callD_any (slices_BinarySearchFunc_NatEntry_NatEntry_NatEntry_impl_NatEntry_compare_c hx19) (by kernel_rfl)) ?_
              conv => whnf
              refine And.intro (by kernel_rfl) ?_
              conv => whnf
              obtain ⟨x20, hx20, h⟩ := bd_some h
              refine draw_t tOk [.a 7 [] (.osl 125 0 (([(⟨a1.Kind, a1.To, a1.ToPort, x18, a1.From, a1.FromPort, a0.Now⟩ : NatEntry)] : List NatEntry).length)) [(125, .arr 92 7 (([(⟨a1.Kind, a1.To, a1.ToPort, x18, a1.From, a1.FromPort, a0.Now⟩ : NatEntry)] : List NatEntry).length) (rows NatEntry.enc ([(⟨a1.Kind, a1.To, a1.ToPort, x18, a1.From, a1.FromPort, a0.Now⟩ : NatEntry)] : List NatEntry)))], .e 8 [(9002, .arr 92 7 a0.Entries.length (rows NatEntry.enc a0.Entries)), (125, .arr 92 7 (([(⟨a1.Kind, a1.To, a1.ToPort, x18, a1.From, a1.FromPort, a0.Now⟩ : NatEntry)] : List NatEntry).length) (rows NatEntry.enc ([(⟨a1.Kind, a1.To, a1.ToPort, x18, a1.From, a1.FromPort, a0.Now⟩ : NatEntry)] : List NatEntry)))] (.osl 6001 0 x20.length) [(6001, .arr 92 7 x20.length (rows NatEntry.enc x20))] []] 11 [] [0, 0, 2, 6, 14, 0, 0, 64, 254, 511, 1023] [2047] [9002] ?_
              conv => whnf
              refine And.intro (by (conv => whnf); exact bldS (enc := NatEntry.enc) ([(⟨a1.Kind, a1.To, a1.ToPort, x18, a1.From, a1.FromPort, a0.Now⟩ : NatEntry)] : List NatEntry) ⟨rfl, rfl⟩) ?_
              conv => whnf
              refine And.intro (eD [(9000, 9002), (9001, 125)] 1000 (slices_Insert_NatEntry_NatEntry_c hx20)) ?_
              conv => whnf
              refine And.intro (by kernel_rfl) ?_
              conv => whnf
              obtain rfl := Option.some.inj h
              exact lfE [.s [(5001, 9001), (5002, 6001), (6001, 5002), (9001, 5001)]]

noncomputable def impl_NatOut_pu_o05_07_m (a0 : NatBook) (a1 : NatFlow) : Option (NatBook × NatFlow × Int) :=
 bd (impl_NatBookOk_m a0) fun x1 =>
(if (!x1) = true then
 some ((⟨0, 0, 0, 0, 0, [], 0, []⟩ : NatBook), (⟨0, 0, 0, 0, 0⟩ : NatFlow), 1)
else
 bd (impl_copyBook_m a0) fun x2 =>
 bd (impl_NatFlowOk_m a1) fun x3 =>
(if (!x3) = true then
 some (x2, (⟨0, 0, 0, 0, 0⟩ : NatFlow), 2)
else
 bd (impl_NatBook_inside_m a0 a1.From) fun x4 =>
 bd (gcall ((!x4) = false) (impl_NatBook_inside_m a0 a1.To)) fun x5 =>
(if (((!x4) || x5) || (a1.To == a0.Own)) = true then
 some (x2, (⟨0, 0, 0, 0, 0⟩ : NatFlow), 3)
else
 bd (impl_NatBook_outPort_r05_m x2 a1) fun x6 =>
(if (x6.2.1 != 0) = true then
 some ({ x2 with Doors := x6.2.2.Doors, Entries := x6.2.2.Entries }, (⟨0, 0, 0, 0, 0⟩ : NatFlow), x6.2.1)
else
 some ({ x2 with Doors := x6.2.2.Doors, Entries := x6.2.2.Entries }, { a1 with From := a0.Own, FromPort := x6.1 }, 0)))))

theorem impl_NatOut_pu_o05_07_c {a0 : NatBook} {a1 : NatFlow} {r : NatBook × NatFlow × Int} (h : impl_NatOut_pu_o05_07_m a0 a1 = some r) : PureC Try.prog 16 [.agg [.d (.int .i64 a0.Addr), .d (.int .i64 a0.Len), .d (.int .i64 a0.Own), .d (.int .i64 a0.Low), .d (.int .i64 a0.High), .d (slD NatDoor.enc a0.Doors), .d (.int .i64 a0.Now), .d (slD NatEntry.enc a0.Entries)], .agg [.d (.int .i64 a1.Kind), .d (.int .i64 a1.From), .d (.int .i64 a1.FromPort), .d (.int .i64 a1.To), .d (.int .i64 a1.ToPort)]] (.tup [.agg [.d (.int .i64 r.1.Addr), .d (.int .i64 r.1.Len), .d (.int .i64 r.1.Own), .d (.int .i64 r.1.Low), .d (.int .i64 r.1.High), .osl 5001 0 r.1.Doors.length, .d (.int .i64 r.1.Now), .osl 5002 0 r.1.Entries.length], .agg [.d (.int .i64 r.2.1.Kind), .d (.int .i64 r.2.1.From), .d (.int .i64 r.2.1.FromPort), .d (.int .i64 r.2.1.To), .d (.int .i64 r.2.1.ToPort)], .d (.int .i64 r.2.2)]) [⟨5001, 90, 4, r.1.Doors.length, rows NatDoor.enc r.1.Doors⟩, ⟨5002, 92, 7, r.1.Entries.length, rows NatEntry.enc r.1.Entries⟩] := by
  refine EffC.pure (M := [(5001, .arr 90 4 r.1.Doors.length (rows NatDoor.enc r.1.Doors)), (5002, .arr 92 7 r.1.Entries.length (rows NatEntry.enc r.1.Entries))]) ?_
  refine effC_x tOk (fn := Try.f16) (c := codeOf Try.f16) rfl rfl ?_
  unfold impl_NatOut_pu_o05_07_m at h
  conv => whnf
  refine seq_in tOk ?_
  conv => whnf
  obtain ⟨x1, hx1, h⟩ := bd_some h
  refine cC 0 (impl_NatBookOk_c hx1) ?_
  clear hx1
  conv => whnf
  refine andI h (fun _ h => ?_) (fun _ h => ?_)
  · conv => whnf
    obtain rfl := Option.some.inj h
    exact lfE [.k [2, 3], .p 5001 90 4 (rows NatDoor.enc ([] : List NatDoor)), .p 5002 92 7 (rows NatEntry.enc ([] : List NatEntry))]
  · conv => whnf
    obtain ⟨x2, hx2, h⟩ := bd_some h
    refine cC 1000 (impl_copyBook_c hx2) ?_
    clear hx2
    conv => whnf
    refine seq_in tOk ?_
    conv => whnf
    obtain ⟨x3, hx3, h⟩ := bd_some h
    refine cC 0 (impl_NatFlowOk_c hx3) ?_
    clear hx3
    conv => whnf
    refine andI h (fun _ h => ?_) (fun _ h => ?_)
    · conv => whnf
      obtain rfl := Option.some.inj h
      exact lfE [.s [(5001, 6001), (5002, 6002), (6001, 5001), (6002, 5002)]]
    · conv => whnf
      obtain ⟨x4, hx4, h⟩ := bd_some h
      refine cC 0 (impl_NatBook_inside_c hx4) ?_
      clear hx4
      conv => whnf
      obtain ⟨x5, hx5, h⟩ := bd_some h
      refine cG (fun c0 => impl_NatBook_inside_c (gcall_some hx5 c0)) ?_
      conv => whnf
      refine andI h (fun _ h => ?_) (fun _ h => ?_)
      · conv => whnf
        obtain rfl := Option.some.inj h
        exact lfE [.s [(5001, 6001), (5002, 6002), (6001, 5001), (6002, 5002)]]
      · conv => whnf
        obtain ⟨x6, hx6, h⟩ := bd_some h
        refine cE [(9000, 7), (9001, 6001), (9002, 6002)] 2000 (impl_NatBook_outPort_r05_c hx6) ?_
        conv => whnf
        refine seq_in tOk ?_
        conv => whnf
        refine andI h (fun _ h => ?_) (fun _ h => ?_)
        · conv => whnf
          obtain rfl := Option.some.inj h
          exact lfE [.s [(5001, 7001), (5002, 7002), (7001, 5001), (7002, 5002)]]
        · conv => whnf
          refine draw_t tOk [.a 11 [(4, .box 55 [.d (.int .i64 0), .d (.int .i64 0), .d (.int .i64 0), .d (.int .i64 0), .d (.int .i64 0), .d (.nil), .d (.int .i64 0), .d (.nil)])] (.any) [(4, .box 55 [.d (.int .i64 x2.Addr), .d (.int .i64 x2.Len), .d (.int .i64 x2.Own), .d (.int .i64 x2.Low), .d (.int .i64 x2.High), .osl 7001 0 x6.2.2.Doors.length, .d (.int .i64 x2.Now), .osl 7002 0 x6.2.2.Entries.length])], .a 12 [(5, .box 56 [.d (.int .i64 0), .d (.int .i64 0), .d (.int .i64 0), .d (.int .i64 0), .d (.int .i64 0)])] (.any) [(5, .box 56 [.d (.int .i64 a1.Kind), .d (.int .i64 a0.Own), .d (.int .i64 x6.1), .d (.int .i64 a1.To), .d (.int .i64 a1.ToPort)])]] 14 [] [0, 0, 2, 0, 8, 0, 0, 64, 0, 256, 1022, 1, 4095, 8191] [] [4, 5] ?_
          conv => whnf
          refine And.intro (by (conv => whnf); exact ⟨rfl, rfl⟩) ?_
          conv => whnf
          refine And.intro (by (conv => whnf); exact ⟨rfl, rfl⟩) ?_
          conv => whnf
          refine And.intro (by kernel_rfl) ?_
          conv => whnf
          obtain rfl := Option.some.inj h
          exact lfE [.s [(5001, 7001), (5002, 7002), (7001, 5001), (7002, 5002)]]

noncomputable def laws_eqNatDoor_m (a0 : NatDoor) (a1 : NatDoor) : Option (Bool) :=
(if (a0.Kind != a1.Kind) = true then
 some false
else
(if (a0.Outer != a1.Outer) = true then
 some false
else
(if (a0.Inner != a1.Inner) = true then
 some false
else
(if (a0.InnerPort != a1.InnerPort) = true then
 some false
else
 some true))))

theorem laws_eqNatDoor_c {a0 : NatDoor} {a1 : NatDoor} {r : Bool} (h : laws_eqNatDoor_m a0 a1 = some r) : PureC Try.prog 119 [.agg [.d (.int .i64 a0.Kind), .d (.int .i64 a0.Outer), .d (.int .i64 a0.Inner), .d (.int .i64 a0.InnerPort)], .agg [.d (.int .i64 a1.Kind), .d (.int .i64 a1.Outer), .d (.int .i64 a1.Inner), .d (.int .i64 a1.InnerPort)]] (.d (.bool r)) [] := by
  refine pureC_x tOk (fn := Try.f119) (c := codeOf Try.f119) rfl rfl ?_
  unfold laws_eqNatDoor_m at h
  conv => whnf
  refine seq_in tOk ?_
  conv => whnf
  refine andI h (fun _ h => ?_) (fun _ h => ?_)
  · conv => whnf
    obtain rfl := Option.some.inj h
    exact lfP []
  · conv => whnf
    refine seq_in tOk ?_
    conv => whnf
    refine andI h (fun _ h => ?_) (fun _ h => ?_)
    · conv => whnf
      obtain rfl := Option.some.inj h
      exact lfP []
    · conv => whnf
      refine seq_in tOk ?_
      conv => whnf
      refine andI h (fun _ h => ?_) (fun _ h => ?_)
      · conv => whnf
        obtain rfl := Option.some.inj h
        exact lfP []
      · conv => whnf
        refine seq_in tOk ?_
        conv => whnf
        refine andI h (fun _ h => ?_) (fun _ h => ?_)
        · conv => whnf
          obtain rfl := Option.some.inj h
          exact lfP []
        · conv => whnf
          obtain rfl := Option.some.inj h
          exact lfP []

noncomputable def laws_eqNatDoorS_m (a0 : (List NatDoor)) (a1 : (List NatDoor)) : Option (Bool) :=
(if (((a0.length : Nat) : Int) != ((a1.length : Nat) : Int)) = true then
 some false
else
 bd (lp (σ := Int) (β := (Unit ⊕ Unit)) (fun s1 =>
(if (decide (s1 < ((a0.length : Nat) : Int))) = true then
 gd ((0 : Int) ≤ s1 ∧ s1 < ((a0.length : Nat) : Int)) <|
 gd ((0 : Int) ≤ s1 ∧ s1 < ((a1.length : Nat) : Int)) <|
 bd (laws_eqNatDoor_m (a0.getD s1.toNat default) (a1.getD s1.toNat default)) fun x7 =>
(if (!x7) = true then
 some (.inr (.inl ()))
else
 some (.inl (IntKind.i64.wrap (s1 + 1))))
else
 some (.inr (.inr ())))) 0) fun x4 =>
(match x4 with
| .inl d8 =>
 some false
| .inr d9 =>
 some true))

theorem laws_eqNatDoorS_c {a0 : (List NatDoor)} {a1 : (List NatDoor)} {r : Bool} (h : laws_eqNatDoorS_m a0 a1 = some r) : PureC Try.prog 63 [.d (slD NatDoor.enc a0), .d (slD NatDoor.enc a1)] (.d (.bool r)) [] := by
  refine pureC_x tOk (fn := Try.f63) (c := codeOf Try.f63) rfl rfl ?_
  unfold laws_eqNatDoorS_m at h
  conv => whnf
  refine seq_in tOk ?_
  conv => whnf
  refine andI h (fun _ h => ?_) (fun _ h => ?_)
  · conv => whnf
    obtain rfl := Option.some.inj h
    exact lfP []
  · conv => whnf
    refine seq_in tOk ?_
    conv => whnf
    obtain ⟨x4, hx4, h⟩ := bd_some h
    refine loop_m tOk hx4 (fun s1 => ⟨0, 27, [(0, .d (slD NatDoor.enc a0)), (1, .d (slD NatDoor.enc a1)), (5, .d (.int .i64 s1))], [], [], []⟩) ?_ ?_
    · exact leX []
    · clear hx4
      intro s1 y2 g3 hy2
      conv => whnf
      refine seq_in tOk ?_
      conv => whnf
      refine andI g3 (fun _ g3 => ?_) (fun _ g3 => ?_)
      · conv => whnf
        refine seq_in tOk ?_
        conv => whnf
        obtain ⟨g5, g3⟩ := gd_some g3
        obtain ⟨g6, g3⟩ := gd_some g3
        obtain ⟨x7, hx7, g3⟩ := bd_some g3
        refine draw_u tOk [.u 8 0 (.d (.bool x7)) []] 10 [] [0, 0, 3, 7, 0, 0, 48, 112, 255, 511] [] ?_
        conv => whnf
        refine And.intro g5 ?_
        clear g5
        conv => whnf
        refine And.intro g6 ?_
        clear g6
        conv => whnf
        refine And.intro (callD_any (laws_eqNatDoor_c hx7) (by kernel_rfl)) ?_
        conv => whnf
        refine And.intro (by kernel_rfl) ?_
        conv => whnf
        refine andI g3 (fun _ g3 => ?_) (fun _ g3 => ?_)
        · conv => whnf
          obtain rfl := Option.some.inj g3
          obtain rfl := hy2 _ rfl
          obtain rfl := Option.some.inj h
          exact lfP []
        · conv => whnf
          obtain rfl := Option.some.inj g3
          exact ⟨_, rfl, leX []⟩
      · conv => whnf
        obtain rfl := Option.some.inj g3
        obtain rfl := hy2 _ rfl
        obtain rfl := Option.some.inj h
        exact lfP []

noncomputable def laws_eqNatEntry_m (a0 : NatEntry) (a1 : NatEntry) : Option (Bool) :=
(if (a0.Kind != a1.Kind) = true then
 some false
else
(if (a0.Peer != a1.Peer) = true then
 some false
else
(if (a0.PeerPort != a1.PeerPort) = true then
 some false
else
(if (a0.Outer != a1.Outer) = true then
 some false
else
(if (a0.Inner != a1.Inner) = true then
 some false
else
(if (a0.InnerPort != a1.InnerPort) = true then
 some false
else
(if (a0.Last != a1.Last) = true then
 some false
else
 some true)))))))

theorem laws_eqNatEntry_c {a0 : NatEntry} {a1 : NatEntry} {r : Bool} (h : laws_eqNatEntry_m a0 a1 = some r) : PureC Try.prog 120 [.agg [.d (.int .i64 a0.Kind), .d (.int .i64 a0.Peer), .d (.int .i64 a0.PeerPort), .d (.int .i64 a0.Outer), .d (.int .i64 a0.Inner), .d (.int .i64 a0.InnerPort), .d (.int .i64 a0.Last)], .agg [.d (.int .i64 a1.Kind), .d (.int .i64 a1.Peer), .d (.int .i64 a1.PeerPort), .d (.int .i64 a1.Outer), .d (.int .i64 a1.Inner), .d (.int .i64 a1.InnerPort), .d (.int .i64 a1.Last)]] (.d (.bool r)) [] := by
  refine pureC_x tOk (fn := Try.f120) (c := codeOf Try.f120) rfl rfl ?_
  unfold laws_eqNatEntry_m at h
  conv => whnf
  refine seq_in tOk ?_
  conv => whnf
  refine andI h (fun _ h => ?_) (fun _ h => ?_)
  · conv => whnf
    obtain rfl := Option.some.inj h
    exact lfP []
  · conv => whnf
    refine seq_in tOk ?_
    conv => whnf
    refine andI h (fun _ h => ?_) (fun _ h => ?_)
    · conv => whnf
      obtain rfl := Option.some.inj h
      exact lfP []
    · conv => whnf
      refine seq_in tOk ?_
      conv => whnf
      refine andI h (fun _ h => ?_) (fun _ h => ?_)
      · conv => whnf
        obtain rfl := Option.some.inj h
        exact lfP []
      · conv => whnf
        refine seq_in tOk ?_
        conv => whnf
        refine andI h (fun _ h => ?_) (fun _ h => ?_)
        · conv => whnf
          obtain rfl := Option.some.inj h
          exact lfP []
        · conv => whnf
          refine seq_in tOk ?_
          conv => whnf
          refine andI h (fun _ h => ?_) (fun _ h => ?_)
          · conv => whnf
            obtain rfl := Option.some.inj h
            exact lfP []
          · conv => whnf
            refine seq_in tOk ?_
            conv => whnf
            refine andI h (fun _ h => ?_) (fun _ h => ?_)
            · conv => whnf
              obtain rfl := Option.some.inj h
              exact lfP []
            · conv => whnf
              refine seq_in tOk ?_
              conv => whnf
              refine andI h (fun _ h => ?_) (fun _ h => ?_)
              · conv => whnf
                obtain rfl := Option.some.inj h
                exact lfP []
              · conv => whnf
                obtain rfl := Option.some.inj h
                exact lfP []

noncomputable def laws_eqNatEntryS_m (a0 : (List NatEntry)) (a1 : (List NatEntry)) : Option (Bool) :=
(if (((a0.length : Nat) : Int) != ((a1.length : Nat) : Int)) = true then
 some false
else
 bd (lp (σ := Int) (β := (Unit ⊕ Unit)) (fun s1 =>
(if (decide (s1 < ((a0.length : Nat) : Int))) = true then
 gd ((0 : Int) ≤ s1 ∧ s1 < ((a0.length : Nat) : Int)) <|
 gd ((0 : Int) ≤ s1 ∧ s1 < ((a1.length : Nat) : Int)) <|
 bd (laws_eqNatEntry_m (a0.getD s1.toNat default) (a1.getD s1.toNat default)) fun x7 =>
(if (!x7) = true then
 some (.inr (.inl ()))
else
 some (.inl (IntKind.i64.wrap (s1 + 1))))
else
 some (.inr (.inr ())))) 0) fun x4 =>
(match x4 with
| .inl d8 =>
 some false
| .inr d9 =>
 some true))

theorem laws_eqNatEntryS_c {a0 : (List NatEntry)} {a1 : (List NatEntry)} {r : Bool} (h : laws_eqNatEntryS_m a0 a1 = some r) : PureC Try.prog 64 [.d (slD NatEntry.enc a0), .d (slD NatEntry.enc a1)] (.d (.bool r)) [] := by
  refine pureC_x tOk (fn := Try.f64) (c := codeOf Try.f64) rfl rfl ?_
  unfold laws_eqNatEntryS_m at h
  conv => whnf
  refine seq_in tOk ?_
  conv => whnf
  refine andI h (fun _ h => ?_) (fun _ h => ?_)
  · conv => whnf
    obtain rfl := Option.some.inj h
    exact lfP []
  · conv => whnf
    refine seq_in tOk ?_
    conv => whnf
    obtain ⟨x4, hx4, h⟩ := bd_some h
    refine loop_m tOk hx4 (fun s1 => ⟨0, 27, [(0, .d (slD NatEntry.enc a0)), (1, .d (slD NatEntry.enc a1)), (5, .d (.int .i64 s1))], [], [], []⟩) ?_ ?_
    · exact leX []
    · clear hx4
      intro s1 y2 g3 hy2
      conv => whnf
      refine seq_in tOk ?_
      conv => whnf
      refine andI g3 (fun _ g3 => ?_) (fun _ g3 => ?_)
      · conv => whnf
        refine seq_in tOk ?_
        conv => whnf
        obtain ⟨g5, g3⟩ := gd_some g3
        obtain ⟨g6, g3⟩ := gd_some g3
        obtain ⟨x7, hx7, g3⟩ := bd_some g3
        refine draw_u tOk [.u 8 0 (.d (.bool x7)) []] 10 [] [0, 0, 3, 7, 0, 0, 48, 112, 255, 511] [] ?_
        conv => whnf
        refine And.intro g5 ?_
        clear g5
        conv => whnf
        refine And.intro g6 ?_
        clear g6
        conv => whnf
        refine And.intro (callD_any (laws_eqNatEntry_c hx7) (by kernel_rfl)) ?_
        conv => whnf
        refine And.intro (by kernel_rfl) ?_
        conv => whnf
        refine andI g3 (fun _ g3 => ?_) (fun _ g3 => ?_)
        · conv => whnf
          obtain rfl := Option.some.inj g3
          obtain rfl := hy2 _ rfl
          obtain rfl := Option.some.inj h
          exact lfP []
        · conv => whnf
          obtain rfl := Option.some.inj g3
          exact ⟨_, rfl, leX []⟩
      · conv => whnf
        obtain rfl := Option.some.inj g3
        obtain rfl := hy2 _ rfl
        obtain rfl := Option.some.inj h
        exact lfP []

noncomputable def laws_eqNatBook_m (a0 : NatBook) (a1 : NatBook) : Option (Bool) :=
(if (a0.Addr != a1.Addr) = true then
 some false
else
(if (a0.Len != a1.Len) = true then
 some false
else
(if (a0.Own != a1.Own) = true then
 some false
else
(if (a0.Low != a1.Low) = true then
 some false
else
(if (a0.High != a1.High) = true then
 some false
else
 bd (laws_eqNatDoorS_m a0.Doors a1.Doors) fun x1 =>
(if (!x1) = true then
 some false
else
(if (a0.Now != a1.Now) = true then
 some false
else
 bd (laws_eqNatEntryS_m a0.Entries a1.Entries) fun x2 =>
(if (!x2) = true then
 some false
else
 some true))))))))

theorem laws_eqNatBook_c {a0 : NatBook} {a1 : NatBook} {r : Bool} (h : laws_eqNatBook_m a0 a1 = some r) : PureC Try.prog 17 [.agg [.d (.int .i64 a0.Addr), .d (.int .i64 a0.Len), .d (.int .i64 a0.Own), .d (.int .i64 a0.Low), .d (.int .i64 a0.High), .d (slD NatDoor.enc a0.Doors), .d (.int .i64 a0.Now), .d (slD NatEntry.enc a0.Entries)], .agg [.d (.int .i64 a1.Addr), .d (.int .i64 a1.Len), .d (.int .i64 a1.Own), .d (.int .i64 a1.Low), .d (.int .i64 a1.High), .d (slD NatDoor.enc a1.Doors), .d (.int .i64 a1.Now), .d (slD NatEntry.enc a1.Entries)]] (.d (.bool r)) [] := by
  refine pureC_x tOk (fn := Try.f17) (c := codeOf Try.f17) rfl rfl ?_
  unfold laws_eqNatBook_m at h
  conv => whnf
  refine seq_in tOk ?_
  conv => whnf
  refine andI h (fun _ h => ?_) (fun _ h => ?_)
  · conv => whnf
    obtain rfl := Option.some.inj h
    exact lfP []
  · conv => whnf
    refine seq_in tOk ?_
    conv => whnf
    refine andI h (fun _ h => ?_) (fun _ h => ?_)
    · conv => whnf
      obtain rfl := Option.some.inj h
      exact lfP []
    · conv => whnf
      refine seq_in tOk ?_
      conv => whnf
      refine andI h (fun _ h => ?_) (fun _ h => ?_)
      · conv => whnf
        obtain rfl := Option.some.inj h
        exact lfP []
      · conv => whnf
        refine seq_in tOk ?_
        conv => whnf
        refine andI h (fun _ h => ?_) (fun _ h => ?_)
        · conv => whnf
          obtain rfl := Option.some.inj h
          exact lfP []
        · conv => whnf
          refine seq_in tOk ?_
          conv => whnf
          refine andI h (fun _ h => ?_) (fun _ h => ?_)
          · conv => whnf
            obtain rfl := Option.some.inj h
            exact lfP []
          · conv => whnf
            refine seq_in tOk ?_
            conv => whnf
            obtain ⟨x1, hx1, h⟩ := bd_some h
            refine cC 0 (laws_eqNatDoorS_c hx1) ?_
            clear hx1
            conv => whnf
            refine andI h (fun _ h => ?_) (fun _ h => ?_)
            · conv => whnf
              obtain rfl := Option.some.inj h
              exact lfP []
            · conv => whnf
              refine seq_in tOk ?_
              conv => whnf
              refine andI h (fun _ h => ?_) (fun _ h => ?_)
              · conv => whnf
                obtain rfl := Option.some.inj h
                exact lfP []
              · conv => whnf
                refine seq_in tOk ?_
                conv => whnf
                obtain ⟨x2, hx2, h⟩ := bd_some h
                refine cC 0 (laws_eqNatEntryS_c hx2) ?_
                clear hx2
                conv => whnf
                refine andI h (fun _ h => ?_) (fun _ h => ?_)
                · conv => whnf
                  obtain rfl := Option.some.inj h
                  exact lfP []
                · conv => whnf
                  obtain rfl := Option.some.inj h
                  exact lfP []

noncomputable def laws_eqNatFlow_m (a0 : NatFlow) (a1 : NatFlow) : Option (Bool) :=
(if (a0.Kind != a1.Kind) = true then
 some false
else
(if (a0.From != a1.From) = true then
 some false
else
(if (a0.FromPort != a1.FromPort) = true then
 some false
else
(if (a0.To != a1.To) = true then
 some false
else
(if (a0.ToPort != a1.ToPort) = true then
 some false
else
 some true)))))

theorem laws_eqNatFlow_c {a0 : NatFlow} {a1 : NatFlow} {r : Bool} (h : laws_eqNatFlow_m a0 a1 = some r) : PureC Try.prog 18 [.agg [.d (.int .i64 a0.Kind), .d (.int .i64 a0.From), .d (.int .i64 a0.FromPort), .d (.int .i64 a0.To), .d (.int .i64 a0.ToPort)], .agg [.d (.int .i64 a1.Kind), .d (.int .i64 a1.From), .d (.int .i64 a1.FromPort), .d (.int .i64 a1.To), .d (.int .i64 a1.ToPort)]] (.d (.bool r)) [] := by
  refine pureC_x tOk (fn := Try.f18) (c := codeOf Try.f18) rfl rfl ?_
  unfold laws_eqNatFlow_m at h
  conv => whnf
  refine seq_in tOk ?_
  conv => whnf
  refine andI h (fun _ h => ?_) (fun _ h => ?_)
  · conv => whnf
    obtain rfl := Option.some.inj h
    exact lfP []
  · conv => whnf
    refine seq_in tOk ?_
    conv => whnf
    refine andI h (fun _ h => ?_) (fun _ h => ?_)
    · conv => whnf
      obtain rfl := Option.some.inj h
      exact lfP []
    · conv => whnf
      refine seq_in tOk ?_
      conv => whnf
      refine andI h (fun _ h => ?_) (fun _ h => ?_)
      · conv => whnf
        obtain rfl := Option.some.inj h
        exact lfP []
      · conv => whnf
        refine seq_in tOk ?_
        conv => whnf
        refine andI h (fun _ h => ?_) (fun _ h => ?_)
        · conv => whnf
          obtain rfl := Option.some.inj h
          exact lfP []
        · conv => whnf
          refine seq_in tOk ?_
          conv => whnf
          refine andI h (fun _ h => ?_) (fun _ h => ?_)
          · conv => whnf
            obtain rfl := Option.some.inj h
            exact lfP []
          · conv => whnf
            obtain rfl := Option.some.inj h
            exact lfP []

noncomputable def laws_markNatDoorS_m (a0 : (List NatDoor)) (a1 : Int) : Option (Int × (List NatDoor)) :=
 bd (lp (σ := List NatDoor × Int × Int) (β := (Int × (List NatDoor) × Nat)) (fun s1 =>
(if (decide (s1.2.2 < ((s1.1.length : Nat) : Int))) = true then
 gd ((0 : Int) ≤ s1.2.2 ∧ s1.2.2 < ((s1.1.length : Nat) : Int)) <|
 gd ((0 : Int) ≤ s1.2.2 ∧ s1.2.2 < ((s1.1.length : Nat) : Int)) <|
 bd (some ((s1.1.set s1.2.2.toNat ({ (s1.1.getD s1.2.2.toNat default) with Kind := s1.2.1 })).set s1.2.2.toNat ({ ((s1.1.set s1.2.2.toNat ({ (s1.1.getD s1.2.2.toNat default) with Kind := s1.2.1 })).getD s1.2.2.toNat default) with Outer := IntKind.i64.wrap (s1.2.1 + 1) }))) fun x7 =>
 gd ((0 : Int) ≤ s1.2.2 ∧ s1.2.2 < ((s1.1.length : Nat) : Int)) <|
 bd (some (x7.set s1.2.2.toNat ({ (x7.getD s1.2.2.toNat default) with Inner := IntKind.i64.wrap ((IntKind.i64.wrap (s1.2.1 + 1)) + 1) }))) fun x9 =>
 gd ((0 : Int) ≤ s1.2.2 ∧ s1.2.2 < ((s1.1.length : Nat) : Int)) <|
 bd (some (x9.set s1.2.2.toNat ({ (x9.getD s1.2.2.toNat default) with InnerPort := IntKind.i64.wrap ((IntKind.i64.wrap ((IntKind.i64.wrap (s1.2.1 + 1)) + 1)) + 1) }))) fun x11 =>
 some (.inl (x11, IntKind.i64.wrap ((IntKind.i64.wrap ((IntKind.i64.wrap ((IntKind.i64.wrap (s1.2.1 + 1)) + 1)) + 1)) + 1), IntKind.i64.wrap (s1.2.2 + 1)))
else
 some (.inr (s1.2.1, s1.1, s1.1.length)))) (a0, a1, 0)) fun x4 =>
 gd (x4.2.2 = a0.length) <|
 some (x4.1, x4.2.1)

theorem laws_markNatDoorS_c {a0 : (List NatDoor)} {a1 : Int} {r : Int × (List NatDoor)} (h : laws_markNatDoorS_m a0 a1 = some r) : EffC Try.prog 65 [.osl 9000 0 a0.length, .d (.int .i64 a1)] [(9000, .arr 90 4 a0.length (rows NatDoor.enc a0))] (.d (.int .i64 r.1)) [(9000, .arr 90 4 a0.length (rows NatDoor.enc r.2))] := by
  refine effC_x tOk (fn := Try.f65) (c := codeOf Try.f65) rfl rfl ?_
  unfold laws_markNatDoorS_m at h
  conv => whnf
  refine seq_in tOk ?_
  conv => whnf
  obtain ⟨x4, hx4, h⟩ := bd_some h
  refine loop_m tOk hx4 (fun s1 => ⟨0, 41, [(0, .osl 9000 0 s1.1.length), (1, .d (.int .i64 s1.2.1)), (5, .d (.int .i64 s1.2.2))], [], [(9000, .arr 90 4 s1.1.length (rows NatDoor.enc s1.1))], [⟨[(0, .osl 9000 0 s1.1.length)], []⟩]⟩) ?_ ?_
  · exact leX []
  · clear hx4
    intro s1 y2 g3 hy2
    conv => whnf
    refine seq_in tOk ?_
    conv => whnf
    refine andI g3 (fun _ g3 => ?_) (fun _ g3 => ?_)
    · conv => whnf
      refine seq_in tOk ?_
      conv => whnf
      refine gdI g3 (fun g3 => ?_)
      conv => whnf
      refine ⟨rows NatDoor.enc (s1.1.set s1.2.2.toNat ({ (s1.1.getD s1.2.2.toNat default) with Kind := s1.2.1 })), store_rows' lenA rfl, ?_⟩
      conv => whnf
      refine gdI g3 (fun g3 => ?_)
      conv => whnf
      obtain ⟨x7, hx7, hlx7, g3⟩ := bd_set g3
      try simp only [List.length_set] at hlx7
      refine setS (enc := NatDoor.enc) hx7 ?_
      conv => whnf
      refine gdI g3 (fun g3 => ?_)
      conv => whnf
      obtain ⟨x9, hx9, hlx9, g3⟩ := bd_set g3
      refine setS (enc := NatDoor.enc) hx9 ?_
      conv => whnf
      refine gdI g3 (fun g3 => ?_)
      conv => whnf
      obtain ⟨x11, hx11, hlx11, g3⟩ := bd_set g3
      refine setS (enc := NatDoor.enc) hx11 ?_
      conv => whnf
      obtain rfl := Option.some.inj g3
      exact ⟨_, rfl, leX []⟩
    · conv => whnf
      obtain rfl := Option.some.inj g3
      obtain rfl := hy2 _ rfl
      obtain ⟨g13, h⟩ := gd_some h
      obtain rfl := Option.some.inj h
      exact lfE []

noncomputable def laws_markNatEntryS_m (a0 : (List NatEntry)) (a1 : Int) : Option (Int × (List NatEntry)) :=
 bd (lp (σ := List NatEntry × Int × Int) (β := (Int × (List NatEntry) × Nat)) (fun s1 =>
(if (decide (s1.2.2 < ((s1.1.length : Nat) : Int))) = true then
 gd ((0 : Int) ≤ s1.2.2 ∧ s1.2.2 < ((s1.1.length : Nat) : Int)) <|
 gd ((0 : Int) ≤ s1.2.2 ∧ s1.2.2 < ((s1.1.length : Nat) : Int)) <|
 bd (some ((s1.1.set s1.2.2.toNat ({ (s1.1.getD s1.2.2.toNat default) with Kind := s1.2.1 })).set s1.2.2.toNat ({ ((s1.1.set s1.2.2.toNat ({ (s1.1.getD s1.2.2.toNat default) with Kind := s1.2.1 })).getD s1.2.2.toNat default) with Peer := IntKind.i64.wrap (s1.2.1 + 1) }))) fun x7 =>
 gd ((0 : Int) ≤ s1.2.2 ∧ s1.2.2 < ((s1.1.length : Nat) : Int)) <|
 bd (some (x7.set s1.2.2.toNat ({ (x7.getD s1.2.2.toNat default) with PeerPort := IntKind.i64.wrap ((IntKind.i64.wrap (s1.2.1 + 1)) + 1) }))) fun x9 =>
 gd ((0 : Int) ≤ s1.2.2 ∧ s1.2.2 < ((s1.1.length : Nat) : Int)) <|
 bd (some (x9.set s1.2.2.toNat ({ (x9.getD s1.2.2.toNat default) with Outer := IntKind.i64.wrap ((IntKind.i64.wrap ((IntKind.i64.wrap (s1.2.1 + 1)) + 1)) + 1) }))) fun x11 =>
 gd ((0 : Int) ≤ s1.2.2 ∧ s1.2.2 < ((s1.1.length : Nat) : Int)) <|
 bd (some (x11.set s1.2.2.toNat ({ (x11.getD s1.2.2.toNat default) with Inner := IntKind.i64.wrap ((IntKind.i64.wrap ((IntKind.i64.wrap ((IntKind.i64.wrap (s1.2.1 + 1)) + 1)) + 1)) + 1) }))) fun x13 =>
 gd ((0 : Int) ≤ s1.2.2 ∧ s1.2.2 < ((s1.1.length : Nat) : Int)) <|
 bd (some (x13.set s1.2.2.toNat ({ (x13.getD s1.2.2.toNat default) with InnerPort := IntKind.i64.wrap ((IntKind.i64.wrap ((IntKind.i64.wrap ((IntKind.i64.wrap ((IntKind.i64.wrap (s1.2.1 + 1)) + 1)) + 1)) + 1)) + 1) }))) fun x15 =>
 gd ((0 : Int) ≤ s1.2.2 ∧ s1.2.2 < ((s1.1.length : Nat) : Int)) <|
 bd (some (x15.set s1.2.2.toNat ({ (x15.getD s1.2.2.toNat default) with Last := IntKind.i64.wrap ((IntKind.i64.wrap ((IntKind.i64.wrap ((IntKind.i64.wrap ((IntKind.i64.wrap ((IntKind.i64.wrap (s1.2.1 + 1)) + 1)) + 1)) + 1)) + 1)) + 1) }))) fun x17 =>
 some (.inl (x17, IntKind.i64.wrap ((IntKind.i64.wrap ((IntKind.i64.wrap ((IntKind.i64.wrap ((IntKind.i64.wrap ((IntKind.i64.wrap ((IntKind.i64.wrap (s1.2.1 + 1)) + 1)) + 1)) + 1)) + 1)) + 1)) + 1), IntKind.i64.wrap (s1.2.2 + 1)))
else
 some (.inr (s1.2.1, s1.1, s1.1.length)))) (a0, a1, 0)) fun x4 =>
 gd (x4.2.2 = a0.length) <|
 some (x4.1, x4.2.1)

theorem laws_markNatEntryS_c {a0 : (List NatEntry)} {a1 : Int} {r : Int × (List NatEntry)} (h : laws_markNatEntryS_m a0 a1 = some r) : EffC Try.prog 66 [.osl 9000 0 a0.length, .d (.int .i64 a1)] [(9000, .arr 92 7 a0.length (rows NatEntry.enc a0))] (.d (.int .i64 r.1)) [(9000, .arr 92 7 a0.length (rows NatEntry.enc r.2))] := by
  refine effC_x tOk (fn := Try.f66) (c := codeOf Try.f66) rfl rfl ?_
  unfold laws_markNatEntryS_m at h
  conv => whnf
  refine seq_in tOk ?_
  conv => whnf
  obtain ⟨x4, hx4, h⟩ := bd_some h
  refine loop_m tOk hx4 (fun s1 => ⟨0, 62, [(0, .osl 9000 0 s1.1.length), (1, .d (.int .i64 s1.2.1)), (5, .d (.int .i64 s1.2.2))], [], [(9000, .arr 92 7 s1.1.length (rows NatEntry.enc s1.1))], [⟨[(0, .osl 9000 0 s1.1.length)], []⟩]⟩) ?_ ?_
  · exact leX []
  · clear hx4
    intro s1 y2 g3 hy2
    conv => whnf
    refine seq_in tOk ?_
    conv => whnf
    refine andI g3 (fun _ g3 => ?_) (fun _ g3 => ?_)
    · conv => whnf
      refine seq_in tOk ?_
      conv => whnf
      refine gdI g3 (fun g3 => ?_)
      conv => whnf
      refine ⟨rows NatEntry.enc (s1.1.set s1.2.2.toNat ({ (s1.1.getD s1.2.2.toNat default) with Kind := s1.2.1 })), store_rows' lenA rfl, ?_⟩
      conv => whnf
      refine gdI g3 (fun g3 => ?_)
      conv => whnf
      obtain ⟨x7, hx7, hlx7, g3⟩ := bd_set g3
      try simp only [List.length_set] at hlx7
      refine setS (enc := NatEntry.enc) hx7 ?_
      conv => whnf
      refine gdI g3 (fun g3 => ?_)
      conv => whnf
      obtain ⟨x9, hx9, hlx9, g3⟩ := bd_set g3
      refine setS (enc := NatEntry.enc) hx9 ?_
      conv => whnf
      refine gdI g3 (fun g3 => ?_)
      conv => whnf
      obtain ⟨x11, hx11, hlx11, g3⟩ := bd_set g3
      refine setS (enc := NatEntry.enc) hx11 ?_
      conv => whnf
      refine gdI g3 (fun g3 => ?_)
      conv => whnf
      obtain ⟨x13, hx13, hlx13, g3⟩ := bd_set g3
      refine setS (enc := NatEntry.enc) hx13 ?_
      conv => whnf
      refine gdI g3 (fun g3 => ?_)
      conv => whnf
      obtain ⟨x15, hx15, hlx15, g3⟩ := bd_set g3
      refine setS (enc := NatEntry.enc) hx15 ?_
      conv => whnf
      refine gdI g3 (fun g3 => ?_)
      conv => whnf
      obtain ⟨x17, hx17, hlx17, g3⟩ := bd_set g3
      refine setS (enc := NatEntry.enc) hx17 ?_
      conv => whnf
      obtain rfl := Option.some.inj g3
      exact ⟨_, rfl, leX []⟩
    · conv => whnf
      obtain rfl := Option.some.inj g3
      obtain rfl := hy2 _ rfl
      obtain ⟨g19, h⟩ := gd_some h
      obtain rfl := Option.some.inj h
      exact lfE []

noncomputable def laws_markNatBook_m (a0 : NatBook) (a1 : Int) : Option (Int × NatBook) :=
 bd (laws_markNatDoorS_m a0.Doors a1) fun x1 =>
 gd (x1.2.length = a0.Doors.length) <|
 bd (laws_markNatEntryS_m a0.Entries x1.1) fun x2 =>
 gd (x2.2.length = a0.Entries.length) <|
 some (x2.1, { a0 with Doors := x1.2, Entries := x2.2 })

theorem laws_markNatBook_c {a0 : NatBook} {a1 : Int} {r : Int × NatBook} (h : laws_markNatBook_m a0 a1 = some r) : EffC Try.prog 19 [.agg [.d (.int .i64 a0.Addr), .d (.int .i64 a0.Len), .d (.int .i64 a0.Own), .d (.int .i64 a0.Low), .d (.int .i64 a0.High), .osl 9000 0 a0.Doors.length, .d (.int .i64 a0.Now), .osl 9001 0 a0.Entries.length], .d (.int .i64 a1)] [(9000, .arr 90 4 a0.Doors.length (rows NatDoor.enc a0.Doors)), (9001, .arr 92 7 a0.Entries.length (rows NatEntry.enc a0.Entries))] (.d (.int .i64 r.1)) [(9000, .arr 90 4 a0.Doors.length (rows NatDoor.enc r.2.Doors)), (9001, .arr 92 7 a0.Entries.length (rows NatEntry.enc r.2.Entries))] := by
  refine effC_x tOk (fn := Try.f19) (c := codeOf Try.f19) rfl rfl ?_
  unfold laws_markNatBook_m at h
  conv => whnf
  obtain ⟨x1, hx1, h⟩ := bd_some h
  obtain ⟨g4, h⟩ := gd_some h
  refine cE [(9000, 9000)] 0 (laws_markNatDoorS_c hx1) ?_
  conv => whnf
  obtain ⟨x2, hx2, h⟩ := bd_some h
  obtain ⟨g3, h⟩ := gd_some h
  refine cE [(9000, 9001)] 0 (laws_markNatEntryS_c hx2) ?_
  conv => whnf
  obtain rfl := Option.some.inj h
  exact lfE []

noncomputable def laws_heldNatDoorS_m (a0 : (List NatDoor)) (a1 : Int) : Option (Int) :=
 bd (lp (σ := Int × Int) (β := (Unit ⊕ Int)) (fun s1 =>
(if (decide (s1.2 < ((a0.length : Nat) : Int))) = true then
 gd ((0 : Int) ≤ s1.2 ∧ s1.2 < ((a0.length : Nat) : Int)) <|
(if (((a0.getD s1.2.toNat default).Kind) != s1.1) = true then
 some (.inr (.inl ()))
else
 gd ((0 : Int) ≤ s1.2 ∧ s1.2 < ((a0.length : Nat) : Int)) <|
(if (((a0.getD s1.2.toNat default).Outer) != (IntKind.i64.wrap (s1.1 + 1))) = true then
 some (.inr (.inl ()))
else
 gd ((0 : Int) ≤ s1.2 ∧ s1.2 < ((a0.length : Nat) : Int)) <|
(if (((a0.getD s1.2.toNat default).Inner) != (IntKind.i64.wrap ((IntKind.i64.wrap (s1.1 + 1)) + 1))) = true then
 some (.inr (.inl ()))
else
 gd ((0 : Int) ≤ s1.2 ∧ s1.2 < ((a0.length : Nat) : Int)) <|
(if (((a0.getD s1.2.toNat default).InnerPort) != (IntKind.i64.wrap ((IntKind.i64.wrap ((IntKind.i64.wrap (s1.1 + 1)) + 1)) + 1))) = true then
 some (.inr (.inl ()))
else
 some (.inl (IntKind.i64.wrap ((IntKind.i64.wrap ((IntKind.i64.wrap ((IntKind.i64.wrap (s1.1 + 1)) + 1)) + 1)) + 1), IntKind.i64.wrap (s1.2 + 1)))))))
else
 some (.inr (.inr s1.1)))) (a1, 0)) fun x4 =>
(match x4 with
| .inl d9 =>
 some (-1)
| .inr d10 =>
 some d10)

theorem laws_heldNatDoorS_c {a0 : (List NatDoor)} {a1 : Int} {r : Int} (h : laws_heldNatDoorS_m a0 a1 = some r) : PureC Try.prog 67 [.d (slD NatDoor.enc a0), .d (.int .i64 a1)] (.d (.int .i64 r)) [] := by
  refine pureC_x tOk (fn := Try.f67) (c := codeOf Try.f67) rfl rfl ?_
  unfold laws_heldNatDoorS_m at h
  conv => whnf
  refine seq_in tOk ?_
  conv => whnf
  obtain ⟨x4, hx4, h⟩ := bd_some h
  refine loop_m tOk hx4 (fun s1 => ⟨0, 49, [(0, .d (slD NatDoor.enc a0)), (1, .d (.int .i64 s1.1)), (5, .d (.int .i64 s1.2))], [], [], []⟩) ?_ ?_
  · exact leX []
  · clear hx4
    intro s1 y2 g3 hy2
    conv => whnf
    refine seq_in tOk ?_
    conv => whnf
    refine andI g3 (fun _ g3 => ?_) (fun _ g3 => ?_)
    · conv => whnf
      refine seq_in tOk ?_
      conv => whnf
      refine seq_in tOk ?_
      conv => whnf
      refine gdI g3 (fun g3 => ?_)
      conv => whnf
      refine andI g3 (fun _ g3 => ?_) (fun _ g3 => ?_)
      · conv => whnf
        obtain rfl := Option.some.inj g3
        obtain rfl := hy2 _ rfl
        obtain rfl := Option.some.inj h
        exact lfP []
      · conv => whnf
        refine seq_in tOk ?_
        conv => whnf
        refine gdI g3 (fun g3 => ?_)
        conv => whnf
        refine andI g3 (fun _ g3 => ?_) (fun _ g3 => ?_)
        · conv => whnf
          obtain rfl := Option.some.inj g3
          obtain rfl := hy2 _ rfl
          obtain rfl := Option.some.inj h
          exact lfP []
        · conv => whnf
          refine seq_in tOk ?_
          conv => whnf
          refine gdI g3 (fun g3 => ?_)
          conv => whnf
          refine andI g3 (fun _ g3 => ?_) (fun _ g3 => ?_)
          · conv => whnf
            obtain rfl := Option.some.inj g3
            obtain rfl := hy2 _ rfl
            obtain rfl := Option.some.inj h
            exact lfP []
          · conv => whnf
            refine seq_in tOk ?_
            conv => whnf
            refine gdI g3 (fun g3 => ?_)
            conv => whnf
            refine andI g3 (fun _ g3 => ?_) (fun _ g3 => ?_)
            · conv => whnf
              obtain rfl := Option.some.inj g3
              obtain rfl := hy2 _ rfl
              obtain rfl := Option.some.inj h
              exact lfP []
            · conv => whnf
              obtain rfl := Option.some.inj g3
              exact ⟨_, rfl, leX []⟩
    · conv => whnf
      obtain rfl := Option.some.inj g3
      obtain rfl := hy2 _ rfl
      obtain rfl := Option.some.inj h
      exact lfP []

noncomputable def laws_heldNatEntryS_m (a0 : (List NatEntry)) (a1 : Int) : Option (Int) :=
 bd (lp (σ := Int × Int) (β := (Unit ⊕ Int)) (fun s1 =>
(if (decide (s1.2 < ((a0.length : Nat) : Int))) = true then
 gd ((0 : Int) ≤ s1.2 ∧ s1.2 < ((a0.length : Nat) : Int)) <|
(if (((a0.getD s1.2.toNat default).Kind) != s1.1) = true then
 some (.inr (.inl ()))
else
 gd ((0 : Int) ≤ s1.2 ∧ s1.2 < ((a0.length : Nat) : Int)) <|
(if (((a0.getD s1.2.toNat default).Peer) != (IntKind.i64.wrap (s1.1 + 1))) = true then
 some (.inr (.inl ()))
else
 gd ((0 : Int) ≤ s1.2 ∧ s1.2 < ((a0.length : Nat) : Int)) <|
(if (((a0.getD s1.2.toNat default).PeerPort) != (IntKind.i64.wrap ((IntKind.i64.wrap (s1.1 + 1)) + 1))) = true then
 some (.inr (.inl ()))
else
 gd ((0 : Int) ≤ s1.2 ∧ s1.2 < ((a0.length : Nat) : Int)) <|
(if (((a0.getD s1.2.toNat default).Outer) != (IntKind.i64.wrap ((IntKind.i64.wrap ((IntKind.i64.wrap (s1.1 + 1)) + 1)) + 1))) = true then
 some (.inr (.inl ()))
else
 gd ((0 : Int) ≤ s1.2 ∧ s1.2 < ((a0.length : Nat) : Int)) <|
(if (((a0.getD s1.2.toNat default).Inner) != (IntKind.i64.wrap ((IntKind.i64.wrap ((IntKind.i64.wrap ((IntKind.i64.wrap (s1.1 + 1)) + 1)) + 1)) + 1))) = true then
 some (.inr (.inl ()))
else
 gd ((0 : Int) ≤ s1.2 ∧ s1.2 < ((a0.length : Nat) : Int)) <|
(if (((a0.getD s1.2.toNat default).InnerPort) != (IntKind.i64.wrap ((IntKind.i64.wrap ((IntKind.i64.wrap ((IntKind.i64.wrap ((IntKind.i64.wrap (s1.1 + 1)) + 1)) + 1)) + 1)) + 1))) = true then
 some (.inr (.inl ()))
else
 gd ((0 : Int) ≤ s1.2 ∧ s1.2 < ((a0.length : Nat) : Int)) <|
(if (((a0.getD s1.2.toNat default).Last) != (IntKind.i64.wrap ((IntKind.i64.wrap ((IntKind.i64.wrap ((IntKind.i64.wrap ((IntKind.i64.wrap ((IntKind.i64.wrap (s1.1 + 1)) + 1)) + 1)) + 1)) + 1)) + 1))) = true then
 some (.inr (.inl ()))
else
 some (.inl (IntKind.i64.wrap ((IntKind.i64.wrap ((IntKind.i64.wrap ((IntKind.i64.wrap ((IntKind.i64.wrap ((IntKind.i64.wrap ((IntKind.i64.wrap (s1.1 + 1)) + 1)) + 1)) + 1)) + 1)) + 1)) + 1), IntKind.i64.wrap (s1.2 + 1))))))))))
else
 some (.inr (.inr s1.1)))) (a1, 0)) fun x4 =>
(match x4 with
| .inl d12 =>
 some (-1)
| .inr d13 =>
 some d13)

theorem laws_heldNatEntryS_c {a0 : (List NatEntry)} {a1 : Int} {r : Int} (h : laws_heldNatEntryS_m a0 a1 = some r) : PureC Try.prog 68 [.d (slD NatEntry.enc a0), .d (.int .i64 a1)] (.d (.int .i64 r)) [] := by
  refine pureC_x tOk (fn := Try.f68) (c := codeOf Try.f68) rfl rfl ?_
  unfold laws_heldNatEntryS_m at h
  conv => whnf
  refine seq_in tOk ?_
  conv => whnf
  obtain ⟨x4, hx4, h⟩ := bd_some h
  refine loop_m tOk hx4 (fun s1 => ⟨0, 76, [(0, .d (slD NatEntry.enc a0)), (1, .d (.int .i64 s1.1)), (5, .d (.int .i64 s1.2))], [], [], []⟩) ?_ ?_
  · exact leX []
  · clear hx4
    intro s1 y2 g3 hy2
    conv => whnf
    refine seq_in tOk ?_
    conv => whnf
    refine andI g3 (fun _ g3 => ?_) (fun _ g3 => ?_)
    · conv => whnf
      refine seq_in tOk ?_
      conv => whnf
      refine seq_in tOk ?_
      conv => whnf
      refine gdI g3 (fun g3 => ?_)
      conv => whnf
      refine andI g3 (fun _ g3 => ?_) (fun _ g3 => ?_)
      · conv => whnf
        obtain rfl := Option.some.inj g3
        obtain rfl := hy2 _ rfl
        obtain rfl := Option.some.inj h
        exact lfP []
      · conv => whnf
        refine seq_in tOk ?_
        conv => whnf
        refine gdI g3 (fun g3 => ?_)
        conv => whnf
        refine andI g3 (fun _ g3 => ?_) (fun _ g3 => ?_)
        · conv => whnf
          obtain rfl := Option.some.inj g3
          obtain rfl := hy2 _ rfl
          obtain rfl := Option.some.inj h
          exact lfP []
        · conv => whnf
          refine seq_in tOk ?_
          conv => whnf
          refine gdI g3 (fun g3 => ?_)
          conv => whnf
          refine andI g3 (fun _ g3 => ?_) (fun _ g3 => ?_)
          · conv => whnf
            obtain rfl := Option.some.inj g3
            obtain rfl := hy2 _ rfl
            obtain rfl := Option.some.inj h
            exact lfP []
          · conv => whnf
            refine seq_in tOk ?_
            conv => whnf
            refine gdI g3 (fun g3 => ?_)
            conv => whnf
            refine andI g3 (fun _ g3 => ?_) (fun _ g3 => ?_)
            · conv => whnf
              obtain rfl := Option.some.inj g3
              obtain rfl := hy2 _ rfl
              obtain rfl := Option.some.inj h
              exact lfP []
            · conv => whnf
              refine seq_in tOk ?_
              conv => whnf
              refine gdI g3 (fun g3 => ?_)
              conv => whnf
              refine andI g3 (fun _ g3 => ?_) (fun _ g3 => ?_)
              · conv => whnf
                obtain rfl := Option.some.inj g3
                obtain rfl := hy2 _ rfl
                obtain rfl := Option.some.inj h
                exact lfP []
              · conv => whnf
                refine seq_in tOk ?_
                conv => whnf
                refine gdI g3 (fun g3 => ?_)
                conv => whnf
                refine andI g3 (fun _ g3 => ?_) (fun _ g3 => ?_)
                · conv => whnf
                  obtain rfl := Option.some.inj g3
                  obtain rfl := hy2 _ rfl
                  obtain rfl := Option.some.inj h
                  exact lfP []
                · conv => whnf
                  refine seq_in tOk ?_
                  conv => whnf
                  refine gdI g3 (fun g3 => ?_)
                  conv => whnf
                  refine andI g3 (fun _ g3 => ?_) (fun _ g3 => ?_)
                  · conv => whnf
                    obtain rfl := Option.some.inj g3
                    obtain rfl := hy2 _ rfl
                    obtain rfl := Option.some.inj h
                    exact lfP []
                  · conv => whnf
                    obtain rfl := Option.some.inj g3
                    exact ⟨_, rfl, leX []⟩
    · conv => whnf
      obtain rfl := Option.some.inj g3
      obtain rfl := hy2 _ rfl
      obtain rfl := Option.some.inj h
      exact lfP []

noncomputable def laws_heldNatBook_m (a0 : NatBook) (a1 : Int) : Option (Int) :=
 bd (laws_heldNatDoorS_m a0.Doors a1) fun x1 =>
(if (decide (x1 < 0)) = true then
 some (-1)
else
 bd (laws_heldNatEntryS_m a0.Entries x1) fun x2 =>
(if (decide (x2 < 0)) = true then
 some (-1)
else
 some x2))

theorem laws_heldNatBook_c {a0 : NatBook} {a1 : Int} {r : Int} (h : laws_heldNatBook_m a0 a1 = some r) : PureC Try.prog 20 [.agg [.d (.int .i64 a0.Addr), .d (.int .i64 a0.Len), .d (.int .i64 a0.Own), .d (.int .i64 a0.Low), .d (.int .i64 a0.High), .d (slD NatDoor.enc a0.Doors), .d (.int .i64 a0.Now), .d (slD NatEntry.enc a0.Entries)], .d (.int .i64 a1)] (.d (.int .i64 r)) [] := by
  refine pureC_x tOk (fn := Try.f20) (c := codeOf Try.f20) rfl rfl ?_
  unfold laws_heldNatBook_m at h
  conv => whnf
  obtain ⟨x1, hx1, h⟩ := bd_some h
  refine cC 0 (laws_heldNatDoorS_c hx1) ?_
  clear hx1
  conv => whnf
  refine seq_in tOk ?_
  conv => whnf
  refine andI h (fun _ h => ?_) (fun _ h => ?_)
  · conv => whnf
    obtain rfl := Option.some.inj h
    exact lfP []
  · conv => whnf
    obtain ⟨x2, hx2, h⟩ := bd_some h
    refine cC 0 (laws_heldNatEntryS_c hx2) ?_
    clear hx2
    conv => whnf
    refine seq_in tOk ?_
    conv => whnf
    refine andI h (fun _ h => ?_) (fun _ h => ?_)
    · conv => whnf
      obtain rfl := Option.some.inj h
      exact lfP []
    · conv => whnf
      obtain rfl := Option.some.inj h
      exact lfP []

noncomputable def laws_FnExactNatOut_m (a0 : NatBook) (a1 : NatFlow) : Option (Bool) :=
 bd (laws_szNatBook_m a0 1048576) fun x1 =>
(if (decide (x1 < 0)) = true then
 some true
else
 bd (laws_toNatBook_m a0) fun x2 =>
 bd (laws_toNatFlow_m a1) fun x3 =>
 bd (spec_NatOut_m x2 x3) fun x4 =>
 bd (laws_toNatBook_m a0) fun x5 =>
 bd (laws_toNatFlow_m a1) fun x6 =>
 bd (impl_NatOut_pu_o05_07_m x5 x6) fun x7 =>
 bd (laws_eqNatBook_m x7.1 x4.1) fun x8 =>
 bd (gcall ((!x8) = false) (laws_eqNatFlow_m x7.2.1 x4.2.1)) fun x9 =>
(if (((!x8) || (!x9)) || (x7.2.2 != x4.2.2)) = true then
 some false
else
 bd (laws_toNatBook_m a0) fun x10 =>
 bd (laws_eqNatBook_m x5 x10) fun x11 =>
(if (!x11) = true then
 some false
else
 bd (laws_markNatBook_m x5 1) fun x12 =>
 gd (x12.2.Doors.length = x5.Doors.length) <|
 gd (x12.2.Entries.length = x5.Entries.length) <|
 bd (gcall ((decide (x12.1 < 0)) = false) (laws_eqNatBook_m x7.1 x4.1)) fun x13 =>
 bd (gcall (((decide (x12.1 < 0)) || (!x13)) = false) (laws_eqNatFlow_m x7.2.1 x4.2.1)) fun x14 =>
(if ((((decide (x12.1 < 0)) || (!x13)) || (!x14)) || (x7.2.2 != x4.2.2)) = true then
 some false
else
 bd (laws_markNatBook_m x7.1 1) fun x15 =>
 gd (x15.2.Doors.length = x7.1.Doors.length) <|
 gd (x15.2.Entries.length = x7.1.Entries.length) <|
 bd (laws_heldNatBook_m ({ x7.1 with Doors := x15.2.Doors, Entries := x15.2.Entries }) 1) fun x16 =>
(if (decide (x16 < 0)) = true then
 some false
else
(if (x16 != x15.1) = true then
 some false
else
 bd (laws_toNatBook_m a0) fun x17 =>
 bd (laws_toNatFlow_m a1) fun x18 =>
 bd (impl_NatOut_pu_o05_07_m x17 x18) fun x19 =>
 bd (laws_eqNatBook_m x19.1 x4.1) fun x20 =>
 bd (gcall ((!x20) = false) (laws_eqNatFlow_m x19.2.1 x4.2.1)) fun x21 =>
(if (((!x20) || (!x21)) || (x19.2.2 != x4.2.2)) = true then
 some false
else
 bd (laws_heldNatBook_m ({ x7.1 with Doors := x15.2.Doors, Entries := x15.2.Entries }) 1) fun x22 =>
(if (decide (x22 < 0)) = true then
 some false
else
(if (x22 != x15.1) = true then
 some false
else
 some true)))))))))

theorem laws_FnExactNatOut_c {a0 : NatBook} {a1 : NatFlow} {r : Bool} (h : laws_FnExactNatOut_m a0 a1 = some r) : PureC Try.prog 4 [.agg [.d (.int .i64 a0.Addr), .d (.int .i64 a0.Len), .d (.int .i64 a0.Own), .d (.int .i64 a0.Low), .d (.int .i64 a0.High), .d (slD NatDoor.enc a0.Doors), .d (.int .i64 a0.Now), .d (slD NatEntry.enc a0.Entries)], .agg [.d (.int .i64 a1.Kind), .d (.int .i64 a1.From), .d (.int .i64 a1.FromPort), .d (.int .i64 a1.To), .d (.int .i64 a1.ToPort)]] (.d (.bool r)) [] := by
  refine pureC_x tOk (fn := Try.f4) (c := codeOf Try.f4) rfl rfl ?_
  unfold laws_FnExactNatOut_m at h
  conv => whnf
  obtain ⟨x1, hx1, h⟩ := bd_some h
  refine cC 0 (laws_szNatBook_c hx1) ?_
  clear hx1
  conv => whnf
  refine seq_in tOk ?_
  conv => whnf
  refine andI h (fun _ h => ?_) (fun _ h => ?_)
  · conv => whnf
    obtain rfl := Option.some.inj h
    exact lfP []
  · conv => whnf
    obtain ⟨x2, hx2, h⟩ := bd_some h
    obtain ⟨x3, hx3, h⟩ := bd_some h
    obtain ⟨x4, hx4, h⟩ := bd_some h
    refine draw_u tOk [.u 1 1000 (.agg [.d (.int .i64 x2.Addr), .d (.int .i64 x2.Len), .d (.int .i64 x2.Own), .d (.int .i64 x2.Low), .d (.int .i64 x2.High), .osl 5001 0 x2.Doors.length, .d (.int .i64 x2.Now), .osl 5002 0 x2.Entries.length]) [⟨5001, 90, 4, x2.Doors.length, rows NatDoor.enc x2.Doors⟩, ⟨5002, 92, 7, x2.Entries.length, rows NatEntry.enc x2.Entries⟩], .u 3 0 (.agg [.d (.int .i64 x3.Kind), .d (.int .i64 x3.From), .d (.int .i64 x3.FromPort), .d (.int .i64 x3.To), .d (.int .i64 x3.ToPort)]) [], .u 4 2000 (.tup [.agg [.d (.int .i64 x4.1.Addr), .d (.int .i64 x4.1.Len), .d (.int .i64 x4.1.Own), .d (.int .i64 x4.1.Low), .d (.int .i64 x4.1.High), .osl 5001 0 x4.1.Doors.length, .d (.int .i64 x4.1.Now), .osl 5002 0 x4.1.Entries.length], .agg [.d (.int .i64 x4.2.1.Kind), .d (.int .i64 x4.2.1.From), .d (.int .i64 x4.2.1.FromPort), .d (.int .i64 x4.2.1.To), .d (.int .i64 x4.2.1.ToPort)], .d (.int .i64 x4.2.2)]) [⟨5001, 90, 4, x4.1.Doors.length, rows NatDoor.enc x4.1.Doors⟩, ⟨5002, 92, 7, x4.1.Entries.length, rows NatEntry.enc x4.1.Entries⟩]] 11 [7, 8] [0, 1, 0, 7, 15, 31, 63, 63, 63, 0, 0] [1663, 3839, 8191] ?_
    conv => whnf
    refine And.intro (callD_any (laws_toNatBook_c hx2) (by kernel_rfl)) ?_
    conv => whnf
    refine And.intro (callD_any (laws_toNatFlow_c hx3) (by kernel_rfl)) ?_
    conv => whnf
    refine And.intro (callD_any (spec_NatOut_c hx4) (by kernel_rfl)) ?_
    conv => whnf
    refine And.intro (by kernel_rfl) ?_
    conv => whnf
    obtain ⟨x5, hx5, h⟩ := bd_some h
    refine cC 3000 (laws_toNatBook_c hx5) ?_
    clear hx5
    conv => whnf
    obtain ⟨x6, hx6, h⟩ := bd_some h
    obtain ⟨x7, hx7, h⟩ := bd_some h
    refine draw_u tOk [.u 2 0 (.agg [.d (.int .i64 x6.Kind), .d (.int .i64 x6.From), .d (.int .i64 x6.FromPort), .d (.int .i64 x6.To), .d (.int .i64 x6.ToPort)]) [], .u 3 4000 (.tup [.agg [.d (.int .i64 x7.1.Addr), .d (.int .i64 x7.1.Len), .d (.int .i64 x7.1.Own), .d (.int .i64 x7.1.Low), .d (.int .i64 x7.1.High), .osl 5001 0 x7.1.Doors.length, .d (.int .i64 x7.1.Now), .osl 5002 0 x7.1.Entries.length], .agg [.d (.int .i64 x7.2.1.Kind), .d (.int .i64 x7.2.1.From), .d (.int .i64 x7.2.1.FromPort), .d (.int .i64 x7.2.1.To), .d (.int .i64 x7.2.1.ToPort)], .d (.int .i64 x7.2.2)]) [⟨5001, 90, 4, x7.1.Doors.length, rows NatDoor.enc x7.1.Doors⟩, ⟨5002, 92, 7, x7.1.Entries.length, rows NatEntry.enc x7.1.Entries⟩]] 10 [6, 7] [0, 0, 2, 7, 15, 31, 31, 31, 0, 0] [831, 1919, 4095] ?_
    conv => whnf
    refine And.intro (callD_any (laws_toNatFlow_c hx6) (by kernel_rfl)) ?_
    conv => whnf
    refine And.intro (callD_any (impl_NatOut_pu_o05_07_c hx7) (by kernel_rfl)) ?_
    conv => whnf
    refine And.intro (by kernel_rfl) ?_
    conv => whnf
    refine seq_in tOk ?_
    conv => whnf
    obtain ⟨x8, hx8, h⟩ := bd_some h
    refine cC 0 (laws_eqNatBook_c hx8) ?_
    clear hx8
    conv => whnf
    obtain ⟨x9, hx9, h⟩ := bd_some h
    refine cG (fun c0 => laws_eqNatFlow_c (gcall_some hx9 c0)) ?_
    conv => whnf
    refine andI h (fun _ h => ?_) (fun _ h => ?_)
    · conv => whnf
      obtain rfl := Option.some.inj h
      exact lfP []
    · conv => whnf
      refine seq_in tOk ?_
      conv => whnf
      obtain ⟨x10, hx10, h⟩ := bd_some h
      obtain ⟨x11, hx11, h⟩ := bd_some h
      refine draw_u tOk [.u 2 5000 (.agg [.d (.int .i64 x10.Addr), .d (.int .i64 x10.Len), .d (.int .i64 x10.Own), .d (.int .i64 x10.Low), .d (.int .i64 x10.High), .osl 5001 0 x10.Doors.length, .d (.int .i64 x10.Now), .osl 5002 0 x10.Entries.length]) [⟨5001, 90, 4, x10.Doors.length, rows NatDoor.enc x10.Doors⟩, ⟨5002, 92, 7, x10.Entries.length, rows NatEntry.enc x10.Entries⟩], .u 3 0 (.d (.bool x11)) []] 5 [] [0, 0, 2, 7, 15] [] ?_
      conv => whnf
      refine And.intro (callD_any (laws_toNatBook_c hx10) (by kernel_rfl)) ?_
      conv => whnf
      refine And.intro (callD_any (laws_eqNatBook_c hx11) (by kernel_rfl)) ?_
      conv => whnf
      refine And.intro (by kernel_rfl) ?_
      conv => whnf
      refine andI h (fun _ h => ?_) (fun _ h => ?_)
      · conv => whnf
        obtain rfl := Option.some.inj h
        exact lfP []
      · conv => whnf
        obtain ⟨x12, hx12, h⟩ := bd_some h
        obtain ⟨g25, h⟩ := gd_some h
        obtain ⟨g26, h⟩ := gd_some h
        refine cE [(9000, 8001), (9001, 8002)] 0 (laws_markNatBook_c hx12) ?_
        conv => whnf
        refine seq_in tOk ?_
        conv => whnf
        obtain ⟨x13, hx13, h⟩ := bd_some h
        refine cG (fun c0 => laws_eqNatBook_c (gcall_some hx13 c0)) ?_
        conv => whnf
        obtain ⟨x14, hx14, h⟩ := bd_some h
        refine cG (fun c0 => laws_eqNatFlow_c (gcall_some hx14 c0)) ?_
        conv => whnf
        refine andI h (fun _ h => ?_) (fun _ h => ?_)
        · conv => whnf
          obtain rfl := Option.some.inj h
          exact lfP []
        · conv => whnf
          obtain ⟨x15, hx15, h⟩ := bd_some h
          obtain ⟨g23, h⟩ := gd_some h
          obtain ⟨g24, h⟩ := gd_some h
          refine cE [(9000, 9001), (9001, 9002)] 0 (laws_markNatBook_c hx15) ?_
          conv => whnf
          obtain ⟨x16, hx16, h⟩ := bd_some h
          refine callW 0 (laws_heldNatBook_c hx16) rfl argA rfl ?_
          conv => whnf
          refine seq_in tOk ?_
          conv => whnf
          refine andI h (fun _ h => ?_) (fun _ h => ?_)
          · conv => whnf
            obtain rfl := Option.some.inj h
            exact lfP []
          · conv => whnf
            refine seq_in tOk ?_
            conv => whnf
            refine andI h (fun _ h => ?_) (fun _ h => ?_)
            · conv => whnf
              obtain rfl := Option.some.inj h
              exact lfP []
            · conv => whnf
              obtain ⟨x17, hx17, h⟩ := bd_some h
              obtain ⟨x18, hx18, h⟩ := bd_some h
              obtain ⟨x19, hx19, h⟩ := bd_some h
              refine draw_u tOk [.u 1 6000 (.agg [.d (.int .i64 x17.Addr), .d (.int .i64 x17.Len), .d (.int .i64 x17.Own), .d (.int .i64 x17.Low), .d (.int .i64 x17.High), .osl 5001 0 x17.Doors.length, .d (.int .i64 x17.Now), .osl 5002 0 x17.Entries.length]) [⟨5001, 90, 4, x17.Doors.length, rows NatDoor.enc x17.Doors⟩, ⟨5002, 92, 7, x17.Entries.length, rows NatEntry.enc x17.Entries⟩], .u 3 0 (.agg [.d (.int .i64 x18.Kind), .d (.int .i64 x18.From), .d (.int .i64 x18.FromPort), .d (.int .i64 x18.To), .d (.int .i64 x18.ToPort)]) [], .u 4 7000 (.tup [.agg [.d (.int .i64 x19.1.Addr), .d (.int .i64 x19.1.Len), .d (.int .i64 x19.1.Own), .d (.int .i64 x19.1.Low), .d (.int .i64 x19.1.High), .osl 5001 0 x19.1.Doors.length, .d (.int .i64 x19.1.Now), .osl 5002 0 x19.1.Entries.length], .agg [.d (.int .i64 x19.2.1.Kind), .d (.int .i64 x19.2.1.From), .d (.int .i64 x19.2.1.FromPort), .d (.int .i64 x19.2.1.To), .d (.int .i64 x19.2.1.ToPort)], .d (.int .i64 x19.2.2)]) [⟨5001, 90, 4, x19.1.Doors.length, rows NatDoor.enc x19.1.Doors⟩, ⟨5002, 92, 7, x19.1.Entries.length, rows NatEntry.enc x19.1.Entries⟩]] 11 [7, 8] [0, 1, 0, 7, 15, 31, 63, 63, 63, 0, 0] [1663, 3839, 8191] ?_
              conv => whnf
              refine And.intro (callD_any (laws_toNatBook_c hx17) (by kernel_rfl)) ?_
              conv => whnf
              refine And.intro (callD_any (laws_toNatFlow_c hx18) (by kernel_rfl)) ?_
              conv => whnf
              refine And.intro (callD_any (impl_NatOut_pu_o05_07_c hx19) (by kernel_rfl)) ?_
              conv => whnf
              refine And.intro (by kernel_rfl) ?_
              conv => whnf
              refine seq_in tOk ?_
              conv => whnf
              obtain ⟨x20, hx20, h⟩ := bd_some h
              refine cC 0 (laws_eqNatBook_c hx20) ?_
              clear hx20
              conv => whnf
              obtain ⟨x21, hx21, h⟩ := bd_some h
              refine cG (fun c0 => laws_eqNatFlow_c (gcall_some hx21 c0)) ?_
              conv => whnf
              refine andI h (fun _ h => ?_) (fun _ h => ?_)
              · conv => whnf
                obtain rfl := Option.some.inj h
                exact lfP []
              · conv => whnf
                obtain ⟨x22, hx22, h⟩ := bd_some h
                refine callW 0 (laws_heldNatBook_c hx22) rfl argA rfl ?_
                conv => whnf
                refine seq_in tOk ?_
                conv => whnf
                refine andI h (fun _ h => ?_) (fun _ h => ?_)
                · conv => whnf
                  obtain rfl := Option.some.inj h
                  exact lfP []
                · conv => whnf
                  refine seq_in tOk ?_
                  conv => whnf
                  refine andI h (fun _ h => ?_) (fun _ h => ?_)
                  · conv => whnf
                    obtain rfl := Option.some.inj h
                    exact lfP []
                  · conv => whnf
                    obtain rfl := Option.some.inj h
                    exact lfP []

end Go.Proofs.Ytaoeomoepefojaa
