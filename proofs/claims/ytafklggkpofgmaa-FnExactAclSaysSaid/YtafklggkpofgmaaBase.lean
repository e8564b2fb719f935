/-
  What the program's smallest functions compute: is a number within bounds; no condition.
-/
import Derived.Test.YtafklggkpofgmaaTb
import Derived.Test.YtafklggkpofgmaaAb5
namespace Go.Proofs.Ytafklggkpofgmaa
open Go Go.Ab
set_option maxRecDepth 100000

theorem within_c (n lo hi : Int) : PureC Try.prog 36 [i64 n, i64 lo, i64 hi] (bl (decide (lo ≤ n) && decide (n ≤ hi))) [] := by
  refine pureC_of tOk (fn := Try.f36) (c := codeOf Try.f36) rfl rfl (by kernel_rfl) rfl rfl (by simp) (by simp) (by simp [V.mentions]) ?_
  conv => whnf
  exact ⟨rfl, trivial⟩

theorem l81In_c (n lo hi : Int) : PureC Try.prog 34 [i64 n, i64 lo, i64 hi] (bl (decide (lo ≤ n) && decide (n ≤ hi))) [] := by
  refine pureC_of tOk (fn := Try.f34) (c := codeOf Try.f34) rfl rfl (by kernel_rfl) rfl rfl (by simp) (by simp) (by simp [V.mentions]) ?_
  conv => whnf
  exact ⟨rfl, trivial⟩

theorem l1In_c (n lo hi : Int) : PureC Try.prog 78 [i64 n, i64 lo, i64 hi] (bl (decide (lo ≤ n) && decide (n ≤ hi))) [] := by
  refine pureC_of tOk (fn := Try.f78) (c := codeOf Try.f78) rfl rfl (by kernel_rfl) rfl rfl (by simp) (by simp) (by simp [V.mentions]) ?_
  conv => whnf
  exact ⟨rfl, trivial⟩

theorem l21In_c (n lo hi : Int) : PureC Try.prog 90 [i64 n, i64 lo, i64 hi] (bl (decide (lo ≤ n) && decide (n ≤ hi))) [] := by
  refine pureC_of tOk (fn := Try.f90) (c := codeOf Try.f90) rfl rfl (by kernel_rfl) rfl rfl (by simp) (by simp) (by simp [V.mentions]) ?_
  conv => whnf
  exact ⟨rfl, trivial⟩

end Go.Proofs.Ytafklggkpofgmaa
