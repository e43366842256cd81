/- The law FnExactLifeMay over numbers: both LifeMay are one test. -/
import Derived.Test.YtihpclkpodbndaaCLife2
import Derived.Test.YtihpclkpodbndaaP8
set_option linter.unusedVariables false
set_option linter.unusedSimpArgs false
namespace Go.Proofs.Ytihpclkpodbndaa.V
open Go.RowKit Go.Proofs.Ytihpclkpodbndaa.P Go.Proofs.Ytihpclkpodbndaa.C Go.Proofs.Ytihpclkpodbndaa.G
theorem FnExactLifeMay : ∀ (a0 : Int) (a1 : Int), (Lit.int .i64 a0).wf = true → (Lit.int .i64 a1).wf = true → ∃ k, laws_FnExactLifeMay.f k a0 a1 = some true := by
  intro m e _ _
  refine ⟨1, ?_⟩
  unfold laws_FnExactLifeMay.f
  rw [sLifeMay 1 m e (by omega), iLifeMay 1 m e (by omega)]
  simp
end Go.Proofs.Ytihpclkpodbndaa.V
