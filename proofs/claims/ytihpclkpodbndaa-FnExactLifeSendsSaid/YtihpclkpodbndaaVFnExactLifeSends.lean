/- The law FnExactLifeSends over numbers: both LifeSends are one test. -/
import Derived.Test.YtihpclkpodbndaaCLife2
import Derived.Test.YtihpclkpodbndaaP4
set_option linter.unusedVariables false
set_option linter.unusedSimpArgs false
namespace Go.Proofs.Ytihpclkpodbndaa.V
open Go.RowKit Go.Proofs.Ytihpclkpodbndaa.P Go.Proofs.Ytihpclkpodbndaa.C Go.Proofs.Ytihpclkpodbndaa.G
theorem FnExactLifeSends : ∀ (a0_0 : Int) (a0_1 : Int) (a0_2 : Int), (Lit.int .i64 a0_0).wf = true → (Lit.int .i64 a0_1).wf = true → (Lit.int .i64 a0_2).wf = true → laws_FnExactLifeSends.f a0_0 a0_1 a0_2 = some true := by
  intro m e s _ _ _
  unfold laws_FnExactLifeSends.f spec_LifeSends.f impl_LifeSends.f
  simp only [toLife, sLifeOk, iLifeOk, Option.bind_some]
  cases lifeOk m e s <;> simp
end Go.Proofs.Ytihpclkpodbndaa.V
