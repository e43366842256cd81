/- The law FnExactLifeOk, as a statement over numbers: both programs' LifeOk are one test. -/
import Derived.Test.YtihpclkpodbndaaCLife
import Derived.Test.YtihpclkpodbndaaP9
namespace Go.Proofs.Ytihpclkpodbndaa.V
open Go.RowKit Go.Proofs.Ytihpclkpodbndaa.P Go.Proofs.Ytihpclkpodbndaa.C
theorem FnExactLifeOk : ∀ (a0_0 : Int) (a0_1 : Int) (a0_2 : Int), (Lit.int .i64 a0_0).wf = true → (Lit.int .i64 a0_1).wf = true → (Lit.int .i64 a0_2).wf = true → laws_FnExactLifeOk.f a0_0 a0_1 a0_2 = some true := by
  intro m e s _ _ _
  unfold laws_FnExactLifeOk.f
  simp [toLife, sLifeOk, iLifeOk]
end Go.Proofs.Ytihpclkpodbndaa.V
