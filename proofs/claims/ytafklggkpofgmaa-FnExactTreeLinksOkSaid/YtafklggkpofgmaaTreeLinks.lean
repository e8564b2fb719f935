/-
  What the functions on a tree's links compute, each function once: is a list of links ok; the copies and the sameness of lists of links; no condition.
-/
import Derived.Test.YtafklggkpofgmaaTb
import Derived.Test.YtafklggkpofgmaaAb5
namespace Go.Proofs.Ytafklggkpofgmaa
open Go Go.Ab
set_option maxRecDepth 100000

theorem within_c (n lo hi : Int) : PureC Try.prog 36 [i64 n, i64 lo, i64 hi] (bl (decide (lo ≤ n) && decide (n ≤ hi))) [] := by
  refine pureC_of tOk (fn := Try.f36) (c := codeOf Try.f36) rfl rfl (by kernel_rfl) rfl rfl (by simp) (by simp) (by simp [V.mentions]) ?_
  conv => whnf
  exact ⟨rfl, trivial⟩

theorem l81In_c (n lo hi : Int) : PureC Try.prog 34 [i64 n, i64 lo, i64 hi] (bl (decide (lo ≤ n) && decide (n ≤ hi))) [] := by
  refine pureC_of tOk (fn := Try.f34) (c := codeOf Try.f34) rfl rfl (by kernel_rfl) rfl rfl (by simp) (by simp) (by simp [V.mentions]) ?_
  conv => whnf
  exact ⟨rfl, trivial⟩

structure TreeLink where
  A : Int
  B : Int
  Cost : Int
instance : Inhabited TreeLink := ⟨⟨0, 0, 0⟩⟩
@[reducible] def TreeLink.enc (l : TreeLink) : List D := [.int .i64 l.A, .int .i64 l.B, .int .i64 l.Cost]

theorem toTreeLink_c (l : TreeLink) : PureC Try.prog 35 [.agg [i64 l.A, i64 l.B, i64 l.Cost]] (.agg [i64 l.A, i64 l.B, i64 l.Cost]) [] := by
  refine pureC_of tOk (fn := Try.f35) (c := codeOf Try.f35) rfl rfl (by kernel_rfl) rfl rfl (by simp) (by simp) (by simp [V.mentions, mentionsL]) ?_
  conv => whnf
  exact ⟨rfl, trivial⟩

def eqTreeLink (a b : TreeLink) : Bool := decide (a.A = b.A) && decide (a.B = b.B) && decide (a.Cost = b.Cost)
theorem eqTreeLink_c (a b : TreeLink) : PureC Try.prog 37 [.agg [i64 a.A, i64 a.B, i64 a.Cost], .agg [i64 b.A, i64 b.B, i64 b.Cost]] (bl (eqTreeLink a b)) [] := by
  refine pureC_of tOk (fn := Try.f37) (c := codeOf Try.f37) rfl rfl (by kernel_rfl) rfl rfl (by simp) (by simp) (by simp [V.mentions]) ?_
  conv => whnf
  repeat' (refine And.intro ?_ ?_ <;> intro h <;> conv => whnf)
  all_goals (refine ⟨?_, trivial⟩; simp_all [eqTreeLink])

theorem toTreeLinkS_c (xs : List TreeLink) (h : xs.length ≤ 1048576) : PureC Try.prog 11 [.d (slD TreeLink.enc xs)] (.osl 7 0 xs.length) [⟨7, 79, 3, xs.length, rows TreeLink.enc xs⟩] := by
  refine pureC_of tOk (fn := Try.f11) (c := codeOf Try.f11) rfl rfl (by kernel_rfl) rfl rfl (by simp [atomD]) (by simp) (by simp [V.mentions]) ?_
  conv => whnf
  refine ⟨by omega, ?_⟩
  conv => whnf
  refine loop_rule tOk (ι := Nat) (fun i => ⟨0, 23, [(4, i64 i), (3, .osl 7 0 xs.length), (0, .d (slD TreeLink.enc xs))], [], [(7, .arr 79 3 xs.length fun k => if k < i then rows TreeLink.enc xs k else [.int .i64 0, .int .i64 0, .int .i64 0])], []⟩)
    (fun i => i ≤ xs.length) (fun i => xs.length - i) 0 ?_ (Nat.zero_le _) ?_
  · refine le_mk ?_ ?_ ?_
    · repeat' (first | exact trivial | refine And.intro ?_ ?_ | exact VLe.refl _ | refine VLe.of ?_)
      all_goals simp
    · repeat' (first | exact trivial | refine And.intro ?_ ?_ | exact BLe.refl _ | refine BLe.rows ?_ ?_ ?_)
      all_goals simp
    · trivial
  · intro i hi
    conv => whnf
    refine And.intro ?_ ?_ <;> intro h1 <;> simp only [decide_eq_true_eq, decide_eq_false_iff_not] at h1 <;> conv => whnf
    · refine And.intro ⟨by omega, by omega⟩ ?_
      conv => whnf
      refine callC 0 (toTreeLink_c _) rfl rfl ?_
      conv => whnf
      refine And.intro ⟨by omega, by omega⟩ ?_
      conv => whnf
      refine ⟨i + 1, le_mk ?_ ?_ ?_, by omega, by omega⟩
      · repeat' (first | exact trivial | refine And.intro ?_ ?_ | refine VLe.int ?_ | exact VLe.refl _)
        all_goals first | rfl | (rw [wrap_i64 (by omega) (by omega)]; simp)
      · repeat' (first | exact trivial | refine And.intro ?_ ?_ | refine BLe.rows rfl rfl ?_)
        intro k hk
        by_cases e : k = i
        · subst e; simp [setAt]
        · have : (k < i + 1) = (k < i) := by simp; omega
          simp [e, this]
      · trivial
    · refine ⟨rfl, ⟨rfl, rfl, fun k hk => ?_⟩, trivial⟩
      exact if_pos (show k < i by dsimp only at hk; omega)

theorem szTreeLinkS_c (xs : List TreeLink) (h : xs.length ≤ 9223372036854775807) : PureC Try.prog 9 [.d (slD TreeLink.enc xs), i64 1048576] (i64 (if (xs.length : Int) ≤ 1048576 then 1048576 - xs.length else -1)) [] := by
  refine pureC_of tOk (fn := Try.f9) (c := codeOf Try.f9) rfl rfl (by kernel_rfl) rfl rfl (by simp) (by simp) (by simp [V.mentions]) ?_
  conv => whnf
  rw [wrap_i64 (by omega) (by omega)]
  refine And.intro ?_ ?_ <;> intro h1 <;> simp only [decide_eq_true_eq, decide_eq_false_iff_not] at h1 <;> conv => whnf
  · refine ⟨?_, trivial⟩
    rw [if_neg (by omega)]
  · refine ⟨?_, trivial⟩
    rw [if_pos (by omega)]

theorem eqTreeLinkS_c (xs ys : List TreeLink) (h : xs.length ≤ 1048576) (he : ys = xs) : PureC Try.prog 13 [.d (slD TreeLink.enc xs), .d (slD TreeLink.enc ys)] (bl true) [] := by
  subst he
  refine pureC_of tOk (fn := Try.f13) (c := codeOf Try.f13) rfl rfl (by kernel_rfl) rfl rfl (by simp) (by simp) (by simp [V.mentions]) ?_
  conv => whnf
  refine And.intro ?_ ?_ <;> intro h1 <;> conv => whnf
  · simp at h1
  refine loop_rule tOk (ι := Nat) (fun i => ⟨0, 27, [(5, i64 i), (0, .d (slD TreeLink.enc ys)), (1, .d (slD TreeLink.enc ys))], [], [], []⟩)
    (fun i => i ≤ ys.length) (fun i => ys.length - i) 0 ?_ (Nat.zero_le _) ?_
  · refine le_mk ?_ ?_ ?_
    · repeat' (first | exact trivial | refine And.intro ?_ ?_ | refine VLe.int ?_ | exact VLe.refl _)
      all_goals simp
    · trivial
    · trivial
  intro i hi
  conv => whnf
  refine And.intro ?_ ?_ <;> intro h2 <;> simp only [decide_eq_true_eq, decide_eq_false_iff_not] at h2 <;> conv => whnf
  · refine draw_rule tOk (by kernel_rfl) (fun _ => some (0, bl (eqTreeLink (ys.getD i default) (ys.getD i default)), [])) 10 (by decide) ?_
    conv => whnf
    refine And.intro ⟨by omega, by omega⟩ ?_
    conv => whnf
    refine And.intro ⟨by omega, by omega⟩ ?_
    conv => whnf
    refine And.intro (callD_any (eqTreeLink_c _ _) rfl) ?_
    conv => whnf
    have e : (!eqTreeLink (ys.getD i default) (ys.getD i default)) = false := by simp [eqTreeLink]
    refine And.intro (fun h3 => ?_) (fun _ => ?_)
    · rw [e] at h3; cases h3
    conv => whnf
    refine ⟨i + 1, le_mk ?_ ?_ ?_, by omega, by omega⟩
    · repeat' (first | exact trivial | refine And.intro ?_ ?_ | refine VLe.int ?_ | exact VLe.refl _)
      all_goals first | rfl | (rw [wrap_i64 (by omega) (by omega)]; simp)
    · trivial
    · trivial
  · exact ⟨rfl, trivial⟩


def linkOk (n : Int) (l : TreeLink) : Bool := decide (0 ≤ l.A) && decide (l.A < l.B) && decide (l.B < n) && decide (1 ≤ l.Cost) && decide (l.Cost ≤ 50)
def treeLinksOk (n : Int) (xs : List TreeLink) : Bool := decide (1 ≤ n) && decide (n ≤ 8) && decide (xs.length ≤ 12) && xs.all (linkOk n)

theorem specLinksOk_c (n : Int) (xs : List TreeLink) (h : xs.length ≤ 1048576) : PureC Try.prog 10 [i64 n, .d (slD TreeLink.enc xs)] (bl (treeLinksOk n xs)) [] := by
  refine pureC_of tOk (fn := Try.f10) (c := codeOf Try.f10) rfl rfl (by kernel_rfl) rfl rfl (by simp) (by simp) (by simp [V.mentions]) ?_
  conv => whnf
  refine callC 0 (l81In_c _ _ _) rfl rfl ?_
  conv => whnf
  refine And.intro ?_ ?_ <;> intro h1 <;> conv => whnf
  · refine ⟨?_, trivial⟩
    simp at h1
    simp [treeLinksOk]
    omega
  refine loop_rule tOk (ι := Nat) (fun i => ⟨0, 47, [(5, i64 i), (0, i64 n), (1, .d (slD TreeLink.enc xs))], [], [], []⟩)
    (fun i => i ≤ xs.length ∧ (xs.take i).all (linkOk n) = true) (fun i => xs.length - i) 0 ?_ ⟨Nat.zero_le _, by simp⟩ ?_
  · refine le_mk ?_ ?_ ?_
    · repeat' (first | exact trivial | refine And.intro ?_ ?_ | refine VLe.int ?_ | exact VLe.refl _)
      all_goals simp
    · trivial
    · trivial
  rintro i ⟨hi, hall⟩
  conv => whnf
  refine And.intro ?_ ?_ <;> intro h2 <;> simp only [decide_eq_true_eq, decide_eq_false_iff_not] at h2 <;> conv => whnf
  · refine And.intro ⟨by omega, by omega⟩ ?_
    conv => whnf
    refine callG_any (l81In_c _ _ _) rfl ?_
    conv => whnf
    refine And.intro ?_ ?_ <;> intro h3 <;> conv => whnf
    · refine ⟨?_, trivial⟩
      have e : linkOk n (xs.getD i default) = false := by
        simp at h3
        simp [linkOk]
        omega
      simp [treeLinksOk, all_false_of (show i < xs.length by omega) e]
    · have e : linkOk n (xs.getD i default) = true := by
        simp at h3
        simp [linkOk]
        omega
      refine ⟨i + 1, le_mk ?_ ?_ ?_, ⟨by omega, by rw [all_take_succ (by omega), hall, e]; rfl⟩, by omega⟩
      · repeat' (first | exact trivial | refine And.intro ?_ ?_ | refine VLe.int ?_ | exact VLe.refl _)
        all_goals first | rfl | (rw [wrap_i64 (by omega) (by omega)]; simp)
      · trivial
      · trivial
  · refine ⟨?_, trivial⟩
    rw [List.take_of_length_le (by omega)] at hall
    simp at h1
    simp [treeLinksOk, hall]
    omega

theorem implLinksOk_c (n : Int) (xs : List TreeLink) (h : xs.length ≤ 1048576) : PureC Try.prog 12 [i64 n, .d (slD TreeLink.enc xs)] (bl (treeLinksOk n xs)) [] := by
  refine pureC_of tOk (fn := Try.f12) (c := codeOf Try.f12) rfl rfl (by kernel_rfl) rfl rfl (by simp) (by simp) (by simp [V.mentions]) ?_
  conv => whnf
  refine loop_rule tOk (ι := Nat) (fun i => ⟨0, 43, [(9, i64 i), (8, i64 xs.length), (7, .d (slD TreeLink.enc xs)), (0, i64 n), (1, .d (slD TreeLink.enc xs))], [], [], []⟩)
    (fun i => i ≤ xs.length ∧ (xs.take i).all (linkOk n) = true) (fun i => xs.length - i) 0 ?_ ⟨Nat.zero_le _, by simp⟩ ?_
  · refine le_mk ?_ ?_ ?_
    · repeat' (first | exact trivial | refine And.intro ?_ ?_ | refine VLe.int ?_ | exact VLe.refl _)
      all_goals simp
    · trivial
    · trivial
  rintro i ⟨hi, hall⟩
  conv => whnf
  refine And.intro ?_ ?_ <;> intro h2 <;> simp only [decide_eq_true_eq, decide_eq_false_iff_not] at h2 <;> conv => whnf
  · refine And.intro ⟨by omega, by omega⟩ ?_
    conv => whnf
    refine callG_any (within_c _ _ _) rfl ?_
    conv => whnf
    refine And.intro ?_ ?_ <;> intro h3 <;> conv => whnf
    · refine ⟨?_, trivial⟩
      have e : linkOk n (xs.getD i default) = false := by
        simp at h3
        simp [linkOk]
        omega
      simp [treeLinksOk, all_false_of (show i < xs.length by omega) e]
    · have e : linkOk n (xs.getD i default) = true := by
        simp at h3
        simp [linkOk]
        omega
      refine ⟨i + 1, le_mk ?_ ?_ ?_, ⟨by omega, by rw [all_take_succ (by omega), hall, e]; rfl⟩, by omega⟩
      · repeat' (first | exact trivial | refine And.intro ?_ ?_ | refine VLe.int ?_ | exact VLe.refl _)
        all_goals first | rfl | (rw [wrap_i64 (by omega) (by omega)]; simp)
      · trivial
      · trivial
  · refine callC 0 (within_c _ _ _) rfl rfl ?_
    conv => whnf
    refine ⟨?_, trivial⟩
    rw [List.take_of_length_le (by omega)] at hall
    have e : decide ((xs.length : Int) ≤ 12) = decide (xs.length ≤ 12) := decide_eq_decide.2 (by omega)
    simp [treeLinksOk, hall, e]


theorem typed_TreeLink {f : Nat} {ds : List D} (h : Typed tb (f + 2) 81 ds) : ∃ x : TreeLink, True ∧ DsLe ds x.enc := by
  obtain ⟨d1, r1, rfl, h1, k1⟩ := typedFs_cons (typed_struct (by rfl) h)
  obtain ⟨d2, r2, rfl, h2, k2⟩ := typedFs_cons k1
  obtain ⟨d3, r3, rfl, h3, k3⟩ := typedFs_cons k2
  obtain rfl := typedFs_nil k3
  obtain ⟨n1, _, e1⟩ := typed_int (by rfl) h1
  obtain ⟨n2, _, e2⟩ := typed_int (by rfl) h2
  obtain ⟨n3, _, e3⟩ := typed_int (by rfl) h3
  exact ⟨⟨n1, n2, n3⟩, trivial, e1.append (e2.append (e3.append (.refl [])))⟩

end Go.Proofs.Ytafklggkpofgmaa
