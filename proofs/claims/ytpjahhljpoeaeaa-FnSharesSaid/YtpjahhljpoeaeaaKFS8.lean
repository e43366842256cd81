/- Texts of the seat's proofs, part 8: functions of the program told as plain functions, with their contracts, and what is shown of them. No condition. -/
import Derived.Test.YtpjahhljpoeaeaaUKFS
import Derived.Test.YtpjahhljpoeaeaaKFS1
import Derived.Test.YtpjahhljpoeaeaaKFS7
import Derived.Test.YtpjahhljpoeaeaaKFS5
set_option linter.unusedVariables false
set_option linter.unusedSimpArgs false
namespace Go.Proofs.Ytpjahhljpoeaeaa.P
open Go.RowKit Go.Proofs.YtpjahhljpoeaeaaW.PrintWords Go.Proofs.YtpjahhljpoeaeaaW.PrintLast Go.Proofs.YtpjahhljpoeaeaaW.PrintMore
attribute [local go_sem] max2_int min2_int max_two min_two max_three min_three max_four min_four
set_option linter.unusedVariables false
set_option linter.unusedSimpArgs false
end Go.Proofs.Ytpjahhljpoeaeaa.P

namespace Go.Proofs.Ytpjahhljpoeaeaa.P
open Go.RowKit Go.Proofs.YtpjahhljpoeaeaaW.PrintWords Go.Proofs.YtpjahhljpoeaeaaW.PrintLast Go.Proofs.YtpjahhljpoeaeaaW.PrintMore
attribute [local go_sem] max2_int min2_int max_two min_two max_three min_three max_four min_four
set_option linter.unusedVariables false
set_option linter.unusedSimpArgs false
end Go.Proofs.Ytpjahhljpoeaeaa.P

namespace Go.Proofs.Ytpjahhljpoeaeaa.P
open Go.RowKit Go.Proofs.YtpjahhljpoeaeaaW.PrintWords Go.Proofs.YtpjahhljpoeaeaaW.PrintLast Go.Proofs.YtpjahhljpoeaeaaW.PrintMore
attribute [local go_sem] max2_int min2_int max_two min_two max_three min_three max_four min_four
set_option linter.unusedVariables false
set_option linter.unusedSimpArgs false
end Go.Proofs.Ytpjahhljpoeaeaa.P

namespace Go.Proofs.Ytpjahhljpoeaeaa.C
open Go.RowKit Go.Proofs.Ytpjahhljpoeaeaa.P Go.Proofs.Ytpjahhljpoeaeaa.G
abbrev H := S81
abbrev HL := S83
def hq (l : List H) (i : Nat) : Bool := match l[i]? with
  | none => true
  | some x => decide (0 ≤ x.f0 ∧ x.f0 ≤ 15) && decide (0 ≤ x.f1 ∧ x.f1 ≤ 1000000000000) && (match l[i - 1]? with | none => true | some y => decide (i = 0) || decide (y.f0 < x.f0))
end Go.Proofs.Ytpjahhljpoeaeaa.C
