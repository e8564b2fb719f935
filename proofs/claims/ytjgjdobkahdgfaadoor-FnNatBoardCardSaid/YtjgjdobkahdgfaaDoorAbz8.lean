/-
  Library functions by the kit's contracts; rows that tell variables: a part of the frame in which a given row's proof walks the program; no condition.
-/
import Derived.Test.YtjgjdobkahdgfaaDoorAbz6
import Derived.Shelf.Strconv.Itoa3
import Derived.Shelf.Strings.OnBuilder
import Derived.Lib.LaidTab
import Derived.ProofKit
import Derived.OpenShut
import Derived.LaidMore
import Derived.Lay
import Derived.SevenTiedAt
import Derived.Stop.Joined
set_option linter.all false
namespace Go.Ab
open Go.RowKit
variable {P : Program}

noncomputable def itoaB (n : Int) : ByteArray := ⟨(Lib.itoa n).toArray⟩
noncomputable def joinB (xs : List ByteArray) (sep : ByteArray) : ByteArray := ⟨(Lib.join (xs.map (·.data.toList)) sep.data.toList).toArray⟩

theorem tab_is {w : World} (h : w.var? P tabName = some tens) : Lib.TabIs P w tabName .u64 Lib.pow10Tab := h.trans (congrArg some (by kernel_rfl))

theorem pureC_itoa {f : FuncId} {nm : String} (hn : nm = tabName) (can : Callable P f) (hg : (P.globalNamed tabName).isSome = true)
    (hc : ∀ (n : Int), -9223372036854775808 ≤ n → n ≤ 9223372036854775807 → ∀ (w : World), Lib.TabIs P w nm .u64 Lib.pow10Tab → Calls P f #[.int .i64 n] w fun e w' => e = .returned (.string ⟨(Lib.itoa n).toArray⟩) ∧ ∃ k os, w' = Sort.grow (w.drewN k) os)
    {n : Int} (h0 : -9223372036854775808 ≤ n) (h1 : n ≤ 9223372036854775807) : PureC P f [.d (.int .i64 n)] (.d (.str (itoaB n))) [] := by
  subst hn
  obtain ⟨g, hg⟩ := Option.isSome_iff_exists.1 hg
  refine ⟨can, rfl, by simp, .nil, fun id h => by simp [V.mentions] at h, fun w vals ρ0 hv ht => ?_⟩
  obtain ⟨v1, v2⟩ := hv
  have hvals : vals = #[.int .i64 n] := by
    apply Array.ext
    · simpa using v1
    · intro i hi hi'
      have : i = 0 := by simp at hi'; exact hi'
      subst this
      have := (v2 0 _ rfl).int_inv
      simpa [Array.getD_eq_getD_getElem?, hi] using this
  subst hvals
  refine Calls.mono (hc n h0 h1 w (tab_is (ht g hg).2)) ?_
  rintro e w' ⟨rfl, k, os, rfl⟩
  exact ⟨_, ρ0, rfl, ⟨rfl, rfl, rfl, by simp [Sort.grow], fun b hb => by simp [Sort.grow, Array.getElem?_append, hb]⟩, .d .str, by simp, by simp, by simp⟩

theorem dstr {w : World} {ow : Nat → Prop} {x : ByteArray} {v : Value} (h : DR w ow (.str x) v) : v = .string x := by cases h; rfl

theorem pureC_join {f : FuncId} (can : Callable P f)
    (hc : ∀ (bk o c : Nat) (xs : List ByteArray) (sep : ByteArray) (w : World), (∀ (j : Nat) x, xs[j]? = some x → w.cell? ⟨bk, o + j, none⟩ = some (.string x)) → bk < w.heap.size → xs.length ≤ 140737488355328 → xs.length ≤ c →
      (Lib.join (xs.map (·.data.toList)) sep.data.toList).length ≤ 140737488355328 →
      Calls P f #[.slice (some ⟨bk, o, none⟩) xs.length c, .string sep] w fun e w' => e = .returned (.string ⟨(Lib.join (xs.map (·.data.toList)) sep.data.toList).toArray⟩) ∧ Below w.heap.size w w')
    (h0 : ∀ (a : Option Addr) (c : Nat) (sep : ByteArray) (w : World), Calls P f #[.slice a 0 c, .string sep] w fun e w' => e = .returned (.string ⟨#[]⟩) ∧ w' = w)
    {xs : List ByteArray} {sep : ByteArray} (hN : xs.length ≤ 140737488355328) (hlen : (joinB xs sep).size ≤ 140737488355328) : PureC P f [.d (slD encStr xs), .d (.str sep)] (.d (.str (joinB xs sep))) [] := by
  refine ⟨can, rfl, by simp, .nil, fun id h => by simp [V.mentions] at h, fun w vals ρ0 hv ht => ?_⟩
  obtain ⟨v1, v2⟩ := hv
  have hvals : ∃ v, vals = #[v, .string sep] ∧ VR w (fun _ => False) ρ0 (.d (slD encStr xs)) v := by
    refine ⟨vals.getD 0 undef, ?_, v2 0 _ rfl⟩
    apply Array.ext
    · simpa using v1
    · intro i hi hi'
      rcases i with _ | _ | i
      · simp [Array.getD_eq_getD_getElem?, hi]
      · have := (v2 1 _ rfl).str_inv
        simpa [Array.getD_eq_getD_getElem?, hi] using this
      · simp at hi'; omega
  obtain ⟨v, rfl, hv⟩ := hvals
  have hlen' : (Lib.join (xs.map (·.data.toList)) sep.data.toList).length ≤ 140737488355328 := by simpa [joinB, ByteArray.size] using hlen
  have fin : ∀ {w' : World} {e : Ending}, Below w.heap.size w w' → e = Ending.returned (.string (joinB xs sep)) → ∃ v ρ, e = .returned v ∧ Pure w w' ∧ VR w' (fun b => b < w.heap.size) ρ (.d (.str (joinB xs sep))) v ∧
      (∀ b ∈ ([] : List Nb), BR w' (fun b => b < w.heap.size) ρ b.id (.arr b.t b.sz b.n b.row)) ∧ (∀ x ∈ ([] : List Nb), ∀ y ∈ ([] : List Nb), (ρ x.id).ph = false → (ρ y.id).ph = false → (ρ x.id).b = (ρ y.id).b → x.id = y.id) ∧ (∀ x ∈ ([] : List Nb), (ρ x.id).ph = false → w.heap.size ≤ (ρ x.id).b) :=
    fun hB he => ⟨_, ρ0, he, Below.pure hB, .d .str, by simp, by simp, by simp⟩
  have empty : ∀ (a : Option Addr) (c : Nat), xs.length = 0 → Calls P f #[.slice a xs.length c, .string sep] w fun e w' => ∃ v ρ, e = .returned v ∧ Pure w w' ∧ VR w' (fun b => b < w.heap.size) ρ (.d (.str (joinB xs sep))) v ∧
      (∀ b ∈ ([] : List Nb), BR w' (fun b => b < w.heap.size) ρ b.id (.arr b.t b.sz b.n b.row)) ∧ (∀ x ∈ ([] : List Nb), ∀ y ∈ ([] : List Nb), (ρ x.id).ph = false → (ρ y.id).ph = false → (ρ x.id).b = (ρ y.id).b → x.id = y.id) ∧ (∀ x ∈ ([] : List Nb), (ρ x.id).ph = false → w.heap.size ≤ (ρ x.id).b) := fun a c hn => by
    have hx : xs = [] := List.eq_nil_of_length_eq_zero hn
    subst hx
    refine Calls.mono (h0 a c sep w) ?_
    rintro e w' ⟨rfl, rfl⟩
    exact fin (Below.refl _ _) (by simp [joinB, Lib.join_nil])
  cases hv with
  | d hd =>
    cases hd with
    | sl0 hn => have := empty ‹_› ‹_› hn; rw [hn] at this; exact this
    | sl vals ho hb hl hcell hval hcap =>
      rename_i b o c sz
      by_cases hn : xs.length = 0
      · exact empty _ _ hn
      have hsz : sz = 1 := by have := hl 0 (by omega); simpa [rows] using this.symm
      subst hsz
      refine Calls.mono (hc b o c xs sep w (fun j x hj => ?_) hb hN hcap hlen') ?_
      · have hj' : j < xs.length := (List.getElem?_eq_some_iff.1 hj).1
        have hr : (rows encStr xs j)[0]? = some (.str x) := by
          simp only [rows, encStr, List.getD_eq_getElem?_getD, hj]; rfl
        have h1 := hcell j 0 _ hj' hr
        have h2 := hval j 0 _ hj' hr
        rw [show o + j = o + j * 1 + 0 by omega, h1]
        exact congrArg some (dstr h2)
      · rintro e w' ⟨rfl, hB⟩
        exact fin hB rfl
end Go.Ab
namespace Go.Ab
open Go.RowKit
variable {P : Program}
theorem laidVars_mem {w : World} {nm : String} {d : DataW Unit} : ∀ {l : List (String × DataW Unit)} {ps : List MemPlace}, DataW.LaidVars P w l ps → (nm, d) ∈ l →
    ∃ g t cs fuel p, P.globalNamed nm = some g ∧ (P.globals[g]?).map (·.type) = some t ∧ w.var? P nm = some cs ∧ DataW.trod (fun _ => ()) P w 0 (fun _ => true) false fuel t cs.toList = some (d, p)
  | [], _, _, h => by cases h
  | (n, e) :: r, ps, hl, h => by
    obtain ⟨g, t, cs, fuel, p, q, e1, e2, e3, e4, hr, rfl⟩ := hl
    rcases List.mem_cons.1 h with h | h
    · cases h
      exact ⟨g, t, cs, fuel, p, e1, e2, e3, e4⟩
    · exact laidVars_mem hr h
theorem tens_of {W : World} {nm : String} (e : nm = tabName) {g n : Nat} {t el : TypeId} (hg0 : P.globalNamed tabName = some g) (hty0 : (P.globals[g]?).map (·.type) = some t) (ht : P.underlying t = some (.array n el)) (he : P.underlying el = some (.int .u64)) (hce : P.cellsOf el = 1) (hct : P.cellsOf t = n)
    {l : List (String × DataW Unit)} {d : DataW Unit} (hm : (nm, d) ∈ l) (hd : d = Lib.tabData .u64 Lib.pow10Tab) (h : laidMet P l W) : W.var? P tabName = some tens := by
  subst e hd
  obtain ⟨ps, h1, _, _⟩ := h
  obtain ⟨g', t', cs, fuel, p, e1, e2, e3, e4⟩ := laidVars_mem h1 hm
  obtain rfl := Option.some.inj (hg0.symm.trans e1)
  obtain rfl := Option.some.inj (hty0.symm.trans e2)
  have := Lib.cells_of_tab ht he hce hct e4
  rw [e3]
  congr 1
  apply Array.ext'
  rw [this]
  kernel_rfl
end Go.Ab
