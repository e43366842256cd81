/- Small functions of both programs, told as plain tests. -/
import Derived.Test.YtihpclkpodbndaaP15
import Derived.Test.YtihpclkpodbndaaP16
import Derived.Test.YtihpclkpodbndaaP17
import Derived.Test.YtihpclkpodbndaaP56
import Derived.Test.YtihpclkpodbndaaP57
import Derived.Test.YtihpclkpodbndaaP58
import Derived.Test.YtihpclkpodbndaaP59
import Derived.Test.YtihpclkpodbndaaP60
set_option linter.unusedVariables false
set_option linter.unusedSimpArgs false
namespace Go.Proofs.Ytihpclkpodbndaa.C
open Go.RowKit Go.Proofs.Ytihpclkpodbndaa.P
theorem l1In (a b c : Int) : spec_l1In.f a b c = some (decide (b ≤ a ∧ a ≤ c)) := by
  unfold spec_l1In.f; by_cases h : a ≥ b <;> simp [h] <;> omega
theorem in_ (a b c : Int) : impl_in.f a b c = some (decide (b ≤ a ∧ a ≤ c)) := by
  unfold impl_in.f; by_cases h : b ≤ a <;> simp [h]
theorem l2Time (a : Int) : spec_l2Time.f a = some (decide (0 ≤ a ∧ a ≤ 1000000000000)) := by
  unfold spec_l2Time.f; rw [l1In]; rfl
theorem isTime (a : Int) : impl_isTime.f a = some (decide (0 ≤ a ∧ a ≤ 1000000000000)) := by
  unfold impl_isTime.f; rw [in_]; rfl
theorem isMode (a : Int) : impl_isMode.f a = some (decide (0 ≤ a ∧ a ≤ 3)) := by
  unfold impl_isMode.f; rw [in_]; rfl
def lifeOk (m e s : Int) : Bool := decide (0 ≤ m ∧ m ≤ 3) && (decide (0 ≤ e ∧ e ≤ 100000) && decide (0 ≤ s ∧ s ≤ 1000000000000))
theorem sLifeOk (m e s : Int) : spec_LifeOk.f m e s = some (lifeOk m e s) := by
  unfold spec_LifeOk.f lifeOk; simp only [l1In, l2Time, Option.bind_some]
  by_cases h1 : (0 ≤ m ∧ m ≤ 3) <;> by_cases h2 : (0 ≤ e ∧ e ≤ 100000) <;> simp [h1, h2]
theorem iLifeOk (m e s : Int) : impl_LifeOk.f m e s = some (lifeOk m e s) := by
  unfold impl_LifeOk.f lifeOk; simp only [in_, isMode, isTime, Option.bind_some]
  by_cases h1 : (0 ≤ m ∧ m ≤ 3) <;> by_cases h2 : (0 ≤ e ∧ e ≤ 100000) <;> simp [h1, h2]
theorem toLife (m e s : Int) : laws_toLife.f m e s = some (m, e, s) := rfl
end Go.Proofs.Ytihpclkpodbndaa.C
