/-
  Plain Lean: bridges, links, whole steps: the program's do what the reference's do.
-/
import Derived.Test.YtfgmolljcgnafabGreatKz4
import Derived.Test.YtfgmolljcgnafabGreatTreeIz
set_option linter.all false
namespace Go.Proofs.YtfgmolljcgnafabGreat
open Go Go.Ab
set_option maxHeartbeats 400000
theorem bd_some {α β:Type} {m:Option α} {k:α → Option β} {y:β} (h:bd m k = some y):∃ x,m = some x ∧ k x = some y := by
  cases m with
  | none => exact absurd h (by simp [bd])
  | some x => exact ⟨x,rfl,h⟩
theorem less_p (a b:Int):cmp_Less_int_m a b = some (decide (a < b)) := by
  unfold cmp_Less_int_m cmp_isNaN_int_m;simp [gcall_val]
theorem half_p {a:Int} (h0:0 ≤ a) (h1:a ≤ 4611686018427387904):IntKind.i64.wrap ((IntKind.u64.wrap (IntKind.i64.wrap a):Int).fdiv (2 ^ min (1:Int).toNat IntKind.u64.bits)) = a / 2 := by
  rw [wrap_i64 (n := a) (by omega) (by omega)];have e:IntKind.u64.wrap a = a := by
    show a % 18446744073709551616 = a;omega
  rw [e,show (2:Int) ^ min (1:Int).toNat IntKind.u64.bits = 2 from rfl,Int.fdiv_eq_ediv_of_nonneg _ (by decide),wrap_i64 (by omega) (by omega)]
theorem bsearch_p {xs:List Int} (hp:xs.Pairwise (· < ·)) (hl:xs.length ≤ 1048576) (a:Int):slices_BinarySearch_int_int_m xs a = some (((downL xs a).length:Int),hasI xs a) := by
  have hLR:(downL xs a).length + (downR xs a).length = xs.length := by
    have := congrArg List.length (downLR xs a);rw [List.length_append] at this;exact this
  have lo:∀ k,k < (downL xs a).length → xs.getD k default < a := fun k hk => by
    rw [List.getD_eq_getElem?_getD,downs_left hk,List.getElem?_eq_getElem hk];exact downL_lt _ (List.getElem_mem hk)
  have hi:∀ k,(downL xs a).length ≤ k → k < xs.length → a ≤ xs.getD k default := fun k h1 h2 => by
    have := downs_right xs a (k - (downL xs a).length);rw [show (downL xs a).length + (k - (downL xs a).length) = k by omega] at this;rw [this];exact downR_ge hp _ (getD_mem (by omega))
  have key:Post (slices_BinarySearch_int_int_m xs a) fun x => x = (((downL xs a).length:Int),hasI xs a) := by
    unfold slices_BinarySearch_int_int_m;refine .bd (Q := fun x => x = ((downL xs a).length:Int)) (.lp (fun s => 0 ≤ s.1 ∧ s.1 ≤ ((downL xs a).length:Int) ∧ ((downL xs a).length:Int) ≤ s.2 ∧ s.2 ≤ (xs.length:Int)) (fun s => (s.2 - s.1).toNat) ⟨Int.le_refl _,by dsimp only; omega,by dsimp only; omega,Int.le_refl _⟩ fun s ⟨i1,i2,i3,i4⟩ => ?_) fun x hx => ?_
    · refine .ite (fun c => ?_) fun c => .ret ?_
      · simp only [decide_eq_true_eq] at c;rw [half_p (by omega) (by omega)];refine .gd (by decide) (.gd ⟨by omega,by omega⟩ ?_);rw [less_p,bd_val,wrap_i64 (n := (s.1 + s.2) / 2 + 1) (by omega) (by omega)];refine .ite (fun c2 => ?_) fun c2 => ?_
        · simp only [decide_eq_true_eq] at c2;refine .ret ⟨⟨by dsimp only; omega,?_,by dsimp only; omega,i4⟩,by dsimp only; omega⟩;dsimp only;refine Int.not_lt.1 fun hlt => ?_;have := hi ((s.1 + s.2) / 2).toNat (by omega) (by omega);omega
        · simp only [decide_eq_true_eq] at c2;refine .ret ⟨⟨i1,i2,?_,by dsimp only; omega⟩,by dsimp only; omega⟩;dsimp only;refine Int.not_lt.1 fun hlt => c2 (lo _ (by omega))
      · simp only [decide_eq_true_eq] at c;show s.1 = _;omega
    · subst hx;refine .gd (fun c => ?_) (.gd (fun _ c => ?_) ?_)
      · simp only [decide_eq_true_eq] at c; omega
      · simp only [decide_eq_true_eq] at c; omega
      · unfold slices_isNaN_int_m;rw [gcall_val,bd_val,gcall_val,bd_val];refine .ret ?_;refine Prod.ext rfl ?_;show _ = hasI xs a;rw [Int.toNat_natCast]
        cases hh:hasI xs a
        · have hn:a ∉ xs := fun hm => by rw [mem_hasI.2 hm] at hh; exact absurd hh (by decide)
          rw [Bool.and_eq_false_iff]
          by_cases c:(downL xs a).length < xs.length
          · right
            have:xs.getD (downL xs a).length default ≠ a := fun e => hn (e ▸ getD_mem c);rw [show (xs.getD (downL xs a).length default == a) = false from beq_eq_false_iff_ne.2 this];simp
          · left
            simp; omega
        · have hm := mem_hasI.1 hh;obtain ⟨k,hk,ek⟩ := List.getElem_of_mem hm;have eg:xs.getD k default = a := by rw [List.getD_eq_getElem?_getD,List.getElem?_eq_getElem hk]; exact ek
          have hk1:(downL xs a).length ≤ k := Nat.not_lt.1 fun hlt => by have := lo k hlt; omega
          have hk2:k = (downL xs a).length := by
            refine Classical.byContradiction fun hne => ?_;have h1 := hi (downL xs a).length (Nat.le_refl _) (by omega);have h2 := List.pairwise_iff_getElem.1 hp (downL xs a).length k (by omega) hk (by omega);rw [List.getD_eq_getElem?_getD,List.getElem?_eq_getElem (by omega:(downL xs a).length < xs.length)] at h1;have h1':a ≤ xs[(downL xs a).length] := h1;omega
          subst hk2;rw [eg];simp; omega
  obtain ⟨x,e,hx⟩ := key;rw [e,hx]
theorem downR_cons {xs:List Int} {a:Int} (hp:xs.Pairwise (· < ·)) (h:a ∈ xs):∃ t,downR xs a = a :: t ∧ ∀ x ∈ t,a < x := by
  have hx := hp;rw [← downLR xs a,List.pairwise_append] at hx;have hm:a ∈ downR xs a := by
    rw [← downLR xs a] at h;rcases List.mem_append.1 h with h | h
    · exact absurd (downL_lt a h) (Int.lt_irrefl _)
    · exact h
  rcases hd:downR xs a with _ | ⟨y,t⟩
  · rw [hd] at hm; exact absurd hm (by simp)
  · have p := hx.2.1;rw [hd] at p hm;rw [List.pairwise_cons] at p;have hy:a ≤ y := downR_ge hp y (by rw [hd]; exact List.mem_cons_self ..);rcases List.mem_cons.1 hm with e | hm
    · exact ⟨t,by rw [e],fun x hx => by have := p.1 x hx; omega⟩
    · have := p.1 a hm; omega
theorem filt_id {xs:List Int} {a:Int} (h:a ∉ xs):xs.filter (fun x => x != a) = xs := List.filter_eq_self.2 fun x hx => by simp; exact fun e => h (e ▸ hx)
theorem downs_drop (xs:List Int) (a:Int):xs.drop (downL xs a).length = downR xs a :=
  calc xs.drop (downL xs a).length = (downL xs a ++ downR xs a).drop (downL xs a).length := by rw [downLR]
    _ = downR xs a := List.drop_left
theorem notR {xs:List Int} {a:Int} (h:hasI xs a = false):a ∉ downR xs a := fun hm => by
  have:a ∈ xs := by rw [← downLR xs a]; exact List.mem_append_right _ hm
  rw [mem_hasI.2 this] at h; exact absurd h (by decide)
theorem ins_p {xs:List Int} {a:Int} (h:hasI xs a = false):insL xs (downL xs a).length [a] = downN xs a 8 := by
  unfold insL downN;rw [downs_take,downs_drop,if_pos rfl,filt_id (notR h)]
theorem keep8_p {xs:List Int} {a:Int} (hp:xs.Pairwise (· < ·)) (h:hasI xs a = true):xs = downN xs a 8 := by
  obtain ⟨t,e,ht⟩ := downR_cons hp (mem_hasI.1 h);have hn:a ∉ t := fun hm => absurd (ht a hm) (Int.lt_irrefl _);unfold downN;rw [if_pos rfl,e,List.filter_cons,if_neg (by simp),filt_id hn,List.append_assoc];show xs = downL xs a ++ (a :: t);rw [← e,downLR]
theorem del_p {xs:List Int} {a k:Int} (hp:xs.Pairwise (· < ·)) (h:hasI xs a = true) (hk:k ≠ 8):delL xs (downL xs a).length ((downL xs a).length + 1) = downN xs a k := by
  obtain ⟨t,e,ht⟩ := downR_cons hp (mem_hasI.1 h);have hn:a ∉ t := fun hm => absurd (ht a hm) (Int.lt_irrefl _);unfold delL downN;rw [if_neg hk,e,List.filter_cons,if_neg (by simp),filt_id hn,List.append_nil,downs_take,← List.drop_drop,downs_drop,e]
  rfl
theorem keep9_p {xs:List Int} {a k:Int} (h:hasI xs a = false) (hk:k ≠ 8):xs = downN xs a k := by
  unfold downN;rw [if_neg hk,filt_id (notR h),List.append_nil,downLR]
theorem told_p {w:TreeWorld} (h:Good w) {i:Nat} (hi:i < w.Links.length) {e:Int} (he:e = 0 ∨ e = 1):impl_TreeWorld_told_m w (i:Int) e = some (wordFor w i e).Vector := by
  have hb := brAt_in' h hi (1 - e);unfold impl_TreeWorld_told_m wordFor;rw [wrap_i64 (n := 1 - e) (by omega) (by omega),bridgeAt_p hi,bd_val,gd_pos hb]
theorem forget_sh (w:TreeWorld) (a:Nat) (e:Int):forget w a e = { w with Bridges := (forget w a e).Bridges,AtA := (forget w a e).AtA,AtB := (forget w a e).AtB } := by
  unfold forget;rw [thinks_sh];unfold setSlot;split <;> rfl
end Go.Proofs.YtfgmolljcgnafabGreat
