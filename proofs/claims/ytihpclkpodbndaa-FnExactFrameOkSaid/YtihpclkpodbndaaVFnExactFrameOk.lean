/- The law FnExactFrameOk over numbers: both FrameOk are one test. -/
import Derived.Test.YtihpclkpodbndaaCLife2
import Derived.Test.YtihpclkpodbndaaP7
set_option linter.unusedVariables false
set_option linter.unusedSimpArgs false
namespace Go.Proofs.Ytihpclkpodbndaa.V
open Go.RowKit Go.Proofs.Ytihpclkpodbndaa.P Go.Proofs.Ytihpclkpodbndaa.C Go.Proofs.Ytihpclkpodbndaa.G
theorem FnExactFrameOk : ∀ (a0_0 : Int) (a0_1 : Int) (a0_2 : Int) (a0_3 : Int) (a0_4 : Int) (a0_5 : ByteArray), (Lit.int .i64 a0_0).wf = true → (Lit.int .i64 a0_1).wf = true → (Lit.int .i64 a0_2).wf = true → (Lit.int .i64 a0_3).wf = true → (Lit.int .i64 a0_4).wf = true → a0_5.size ≤ 9223372036854775807 → laws_FnExactFrameOk.f a0_0 a0_1 a0_2 a0_3 a0_4 a0_5 = some true := by
  intro a b c d e s _ _ _ _ _ _
  unfold laws_FnExactFrameOk.f laws_szFrame.f laws_toFrame.f
  simp only [sFrameOk, iFrameOk, Option.bind_some]
  by_cases h : wrap64 (1048576 - (s.size : Int)) < 0 <;> simp [h]
end Go.Proofs.Ytihpclkpodbndaa.V
