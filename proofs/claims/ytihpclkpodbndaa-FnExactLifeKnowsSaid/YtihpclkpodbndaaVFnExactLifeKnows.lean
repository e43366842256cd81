/- The law FnExactLifeKnows over numbers: both LifeKnows are one test. -/
import Derived.Test.YtihpclkpodbndaaCLife2
import Derived.Test.YtihpclkpodbndaaP5
set_option linter.unusedVariables false
set_option linter.unusedSimpArgs false
namespace Go.Proofs.Ytihpclkpodbndaa.V
open Go.RowKit Go.Proofs.Ytihpclkpodbndaa.P Go.Proofs.Ytihpclkpodbndaa.C Go.Proofs.Ytihpclkpodbndaa.G
theorem FnExactLifeKnows : ∀ (a0_0 : Int) (a0_1 : Int) (a0_2 : Int), (Lit.int .i64 a0_0).wf = true → (Lit.int .i64 a0_1).wf = true → (Lit.int .i64 a0_2).wf = true → laws_FnExactLifeKnows.f a0_0 a0_1 a0_2 = some true := by
  intro m e s _ _ _
  unfold laws_FnExactLifeKnows.f spec_LifeKnows.f impl_LifeKnows.f
  simp only [toLife, sLifeOk, iLifeOk, Option.bind_some]
  cases lifeOk m e s <;> by_cases h : m = 2 <;> simp [h]
end Go.Proofs.Ytihpclkpodbndaa.V
