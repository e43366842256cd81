/- Texts of the seat's proofs, part 6: functions of the program told as plain functions, with their contracts, and what is shown of them. No condition. -/
import Derived.Test.YtjlmfnpgcmmdnaaUKFL
import Derived.Test.YtjlmfnpgcmmdnaaKFL1
set_option linter.unusedVariables false
set_option linter.unusedSimpArgs false
namespace Go.Proofs.Ytjlmfnpgcmmdnaa.P
open Go.RowKit Go.Proofs.YtjlmfnpgcmmdnaaW.PrintWords Go.Proofs.YtjlmfnpgcmmdnaaW.PrintLast Go.Proofs.YtjlmfnpgcmmdnaaW.PrintMore
attribute [local go_sem] max2_int min2_int max_two min_two max_three min_three max_four min_four
set_option linter.unusedVariables false
set_option linter.unusedSimpArgs false
end Go.Proofs.Ytjlmfnpgcmmdnaa.P

namespace Go.Proofs.Ytjlmfnpgcmmdnaa.P
open Go.RowKit Go.Proofs.YtjlmfnpgcmmdnaaW.PrintWords Go.Proofs.YtjlmfnpgcmmdnaaW.PrintLast Go.Proofs.YtjlmfnpgcmmdnaaW.PrintMore
attribute [local go_sem] max2_int min2_int max_two min_two max_three min_three max_four min_four
set_option linter.unusedVariables false
set_option linter.unusedSimpArgs false
end Go.Proofs.Ytjlmfnpgcmmdnaa.P

