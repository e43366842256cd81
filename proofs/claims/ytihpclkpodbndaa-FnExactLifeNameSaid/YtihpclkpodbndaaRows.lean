/-
  No cell of these rows narrows 'for every input' (looked for: loops, veiled, ifaces, maps, wideKeys, modest, calm, conditions, laid).
  DERIVED. THE GIVEN ROWS OF THIS SEAT. 12 by the template 'for every input the law returns true; each argument reads behind the call as it read before'; 0 by the template 'total and deterministic' (their statements: YtihpclkpodbndaaTotals.lean).
  GIVEN WITH THE SEED: the statements are not yours to turn. If you find one false, say at which input.
  Laid BY PROGRAM, IN A SANDBOX (cutbox-rows.mjs): the forced cells as the released guide's own fill.sh prints them over the translation 20f5df7f2de22d99… (all of the seat's roots in one cut). By AI agents, Wed Nov 11 2026. No macro, syntax, notation, axiom, sorry.
-/
import Derived.Test.YtihpclkpodbndaaChecked
import GoSem.Claim
import GoSem.ClaimJoined
import GoSem.ClaimMapViews
import Derived.JoinedTies
import Derived.KernelRfl
namespace Go.Proofs.Ytihpclkpodbndaa
/- THE CELL 'sum', in the pinned program and in every row, IS THE sha256 OF THE DUMP (.gsa) THAT YtihpclkpodbndaaProg.lean LOADS. Nothing in Lean hashes anything: it is a label: what it is worth is what the hold of that sum in a sandbox is worth. -/
noncomputable def Try.pinned : Pinned := { name := "ytihpclkpodbndaa", sum := "20f5df7f2de22d99ddc414cf24fc4ee6369f3c705ea25a4fb36917267ab81790", checked := Try.checked }
namespace Rows
def none {H : Type} : Left H := { results := [], args := [] }

/-- 'laws.FnExactLifeOk': WHATEVER THE INPUT: true; the input reads as it did. -/
def fnExactLifeOkSpec : ChangeSpec := { name := "fnExactLifeOk", fn := fun _ => fun
  | [d] => { results := [.lit (.bool true)], args := [d] }
  | _ => none }
def fnExactLifeOkRow : OpenClaim := { program := "ytihpclkpodbndaa", sum := "20f5df7f2de22d99ddc414cf24fc4ee6369f3c705ea25a4fb36917267ab81790", func := "loop.example/g00072/laws.FnExactLifeOk", spec := "fnExactLifeOk", apart := false }
def FnExactLifeOkSaid : Prop := fnExactLifeOkRow.holds Try.pinned (OpenSpec.ofChange fnExactLifeOkSpec)

/-- ITS FALSE NEIGHBOUR: 'it returns false'. Refute it at one input. -/
def fnExactLifeOkWrong : ChangeSpec := { name := "fnExactLifeOk", fn := fun _ => fun
  | [d] => { results := [.lit (.bool false)], args := [d] }
  | _ => none }
def FnExactLifeOkWrongFalsely : Prop := fnExactLifeOkRow.holds Try.pinned (OpenSpec.ofChange fnExactLifeOkWrong)

/-- 'laws.FnExactLifeSends': WHATEVER THE INPUT: true; the input reads as it did. -/
def fnExactLifeSendsSpec : ChangeSpec := { name := "fnExactLifeSends", fn := fun _ => fun
  | [d] => { results := [.lit (.bool true)], args := [d] }
  | _ => none }
def fnExactLifeSendsRow : OpenClaim := { program := "ytihpclkpodbndaa", sum := "20f5df7f2de22d99ddc414cf24fc4ee6369f3c705ea25a4fb36917267ab81790", func := "loop.example/g00072/laws.FnExactLifeSends", spec := "fnExactLifeSends", apart := false }
def FnExactLifeSendsSaid : Prop := fnExactLifeSendsRow.holds Try.pinned (OpenSpec.ofChange fnExactLifeSendsSpec)

/-- ITS FALSE NEIGHBOUR: 'it returns false'. Refute it at one input. -/
def fnExactLifeSendsWrong : ChangeSpec := { name := "fnExactLifeSends", fn := fun _ => fun
  | [d] => { results := [.lit (.bool false)], args := [d] }
  | _ => none }
def FnExactLifeSendsWrongFalsely : Prop := fnExactLifeSendsRow.holds Try.pinned (OpenSpec.ofChange fnExactLifeSendsWrong)

/-- 'laws.FnExactLifeKnows': WHATEVER THE INPUT: true; the input reads as it did. -/
def fnExactLifeKnowsSpec : ChangeSpec := { name := "fnExactLifeKnows", fn := fun _ => fun
  | [d] => { results := [.lit (.bool true)], args := [d] }
  | _ => none }
def fnExactLifeKnowsRow : OpenClaim := { program := "ytihpclkpodbndaa", sum := "20f5df7f2de22d99ddc414cf24fc4ee6369f3c705ea25a4fb36917267ab81790", func := "loop.example/g00072/laws.FnExactLifeKnows", spec := "fnExactLifeKnows", apart := false }
def FnExactLifeKnowsSaid : Prop := fnExactLifeKnowsRow.holds Try.pinned (OpenSpec.ofChange fnExactLifeKnowsSpec)

/-- ITS FALSE NEIGHBOUR: 'it returns false'. Refute it at one input. -/
def fnExactLifeKnowsWrong : ChangeSpec := { name := "fnExactLifeKnows", fn := fun _ => fun
  | [d] => { results := [.lit (.bool false)], args := [d] }
  | _ => none }
def FnExactLifeKnowsWrongFalsely : Prop := fnExactLifeKnowsRow.holds Try.pinned (OpenSpec.ofChange fnExactLifeKnowsWrong)

/-- 'laws.FnExactLifeName': WHATEVER THE INPUT: true; the input reads as it did. -/
def fnExactLifeNameSpec : ChangeSpec := { name := "fnExactLifeName", fn := fun _ => fun
  | [d] => { results := [.lit (.bool true)], args := [d] }
  | _ => none }
def fnExactLifeNameRow : OpenClaim := { program := "ytihpclkpodbndaa", sum := "20f5df7f2de22d99ddc414cf24fc4ee6369f3c705ea25a4fb36917267ab81790", func := "loop.example/g00072/laws.FnExactLifeName", spec := "fnExactLifeName", apart := false }
def FnExactLifeNameSaid : Prop := fnExactLifeNameRow.holds Try.pinned (OpenSpec.ofChange fnExactLifeNameSpec)

/-- ITS FALSE NEIGHBOUR: 'it returns false'. Refute it at one input. -/
def fnExactLifeNameWrong : ChangeSpec := { name := "fnExactLifeName", fn := fun _ => fun
  | [d] => { results := [.lit (.bool false)], args := [d] }
  | _ => none }
def FnExactLifeNameWrongFalsely : Prop := fnExactLifeNameRow.holds Try.pinned (OpenSpec.ofChange fnExactLifeNameWrong)

/-- 'laws.FnExactFrameOk': WHATEVER THE INPUT: true; the input reads as it did. -/
def fnExactFrameOkSpec : ChangeSpec := { name := "fnExactFrameOk", fn := fun _ => fun
  | [d] => { results := [.lit (.bool true)], args := [d] }
  | _ => none }
def fnExactFrameOkRow : OpenClaim := { program := "ytihpclkpodbndaa", sum := "20f5df7f2de22d99ddc414cf24fc4ee6369f3c705ea25a4fb36917267ab81790", func := "loop.example/g00072/laws.FnExactFrameOk", spec := "fnExactFrameOk", apart := false }
def FnExactFrameOkSaid : Prop := fnExactFrameOkRow.holds Try.pinned (OpenSpec.ofChange fnExactFrameOkSpec)

/-- ITS FALSE NEIGHBOUR: 'it returns false'. Refute it at one input. -/
def fnExactFrameOkWrong : ChangeSpec := { name := "fnExactFrameOk", fn := fun _ => fun
  | [d] => { results := [.lit (.bool false)], args := [d] }
  | _ => none }
def FnExactFrameOkWrongFalsely : Prop := fnExactFrameOkRow.holds Try.pinned (OpenSpec.ofChange fnExactFrameOkWrong)

/-- 'laws.FnExactLifeMay': WHATEVER THE INPUT: true; the input reads as it did. -/
def fnExactLifeMaySpec : ChangeSpec := { name := "fnExactLifeMay", fn := fun _ => fun
  | [d1, d2] => { results := [.lit (.bool true)], args := [d1, d2] }
  | _ => none }
def fnExactLifeMayRow : OpenClaim := { program := "ytihpclkpodbndaa", sum := "20f5df7f2de22d99ddc414cf24fc4ee6369f3c705ea25a4fb36917267ab81790", func := "loop.example/g00072/laws.FnExactLifeMay", spec := "fnExactLifeMay", apart := false }
def FnExactLifeMaySaid : Prop := fnExactLifeMayRow.holds Try.pinned (OpenSpec.ofChange fnExactLifeMaySpec)

/-- ITS FALSE NEIGHBOUR: 'it returns false'. Refute it at one input. -/
def fnExactLifeMayWrong : ChangeSpec := { name := "fnExactLifeMay", fn := fun _ => fun
  | [d1, d2] => { results := [.lit (.bool false)], args := [d1, d2] }
  | _ => none }
def FnExactLifeMayWrongFalsely : Prop := fnExactLifeMayRow.holds Try.pinned (OpenSpec.ofChange fnExactLifeMayWrong)

/-- 'laws.FnExactHeardOk': WHATEVER THE INPUT: true; the input reads as it did. -/
def fnExactHeardOkSpec : ChangeSpec := { name := "fnExactHeardOk", fn := fun _ => fun
  | [d] => { results := [.lit (.bool true)], args := [d] }
  | _ => none }
def fnExactHeardOkRow : OpenClaim := { program := "ytihpclkpodbndaa", sum := "20f5df7f2de22d99ddc414cf24fc4ee6369f3c705ea25a4fb36917267ab81790", func := "loop.example/g00072/laws.FnExactHeardOk", spec := "fnExactHeardOk", apart := false }
def FnExactHeardOkSaid : Prop := fnExactHeardOkRow.holds Try.pinned (OpenSpec.ofChange fnExactHeardOkSpec)

/-- ITS FALSE NEIGHBOUR: 'it returns false'. Refute it at one input. -/
def fnExactHeardOkWrong : ChangeSpec := { name := "fnExactHeardOk", fn := fun _ => fun
  | [d] => { results := [.lit (.bool false)], args := [d] }
  | _ => none }
def FnExactHeardOkWrongFalsely : Prop := fnExactHeardOkRow.holds Try.pinned (OpenSpec.ofChange fnExactHeardOkWrong)

/-- 'laws.FnExactBusyStill': WHATEVER THE INPUT: true; the input reads as it did. -/
def fnExactBusyStillSpec : ChangeSpec := { name := "fnExactBusyStill", fn := fun _ => fun
  | [d1, d2, d3, d4] => { results := [.lit (.bool true)], args := [d1, d2, d3, d4] }
  | _ => none }
def fnExactBusyStillRow : OpenClaim := { program := "ytihpclkpodbndaa", sum := "20f5df7f2de22d99ddc414cf24fc4ee6369f3c705ea25a4fb36917267ab81790", func := "loop.example/g00072/laws.FnExactBusyStill", spec := "fnExactBusyStill", unfollowed := true, recurses := true, apart := false }
def FnExactBusyStillSaid : Prop := fnExactBusyStillRow.holds Try.pinned (OpenSpec.ofChange fnExactBusyStillSpec)

/-- ITS FALSE NEIGHBOUR: 'it returns false'. Refute it at one input. -/
def fnExactBusyStillWrong : ChangeSpec := { name := "fnExactBusyStill", fn := fun _ => fun
  | [d1, d2, d3, d4] => { results := [.lit (.bool false)], args := [d1, d2, d3, d4] }
  | _ => none }
def FnExactBusyStillWrongFalsely : Prop := fnExactBusyStillRow.holds Try.pinned (OpenSpec.ofChange fnExactBusyStillWrong)

/-- 'laws.FnExactBusOk': WHATEVER THE INPUT: true; the input reads as it did. -/
def fnExactBusOkSpec : ChangeSpec := { name := "fnExactBusOk", fn := fun _ => fun
  | [d] => { results := [.lit (.bool true)], args := [d] }
  | _ => none }
def fnExactBusOkRow : OpenClaim := { program := "ytihpclkpodbndaa", sum := "20f5df7f2de22d99ddc414cf24fc4ee6369f3c705ea25a4fb36917267ab81790", func := "loop.example/g00072/laws.FnExactBusOk", spec := "fnExactBusOk", apart := false }
def FnExactBusOkSaid : Prop := fnExactBusOkRow.holds Try.pinned (OpenSpec.ofChange fnExactBusOkSpec)

/-- ITS FALSE NEIGHBOUR: 'it returns false'. Refute it at one input. -/
def fnExactBusOkWrong : ChangeSpec := { name := "fnExactBusOk", fn := fun _ => fun
  | [d] => { results := [.lit (.bool false)], args := [d] }
  | _ => none }
def FnExactBusOkWrongFalsely : Prop := fnExactBusOkRow.holds Try.pinned (OpenSpec.ofChange fnExactBusOkWrong)

/-- 'laws.FnExactPlanOk': WHATEVER THE INPUT: true; the input reads as it did. -/
def fnExactPlanOkSpec : ChangeSpec := { name := "fnExactPlanOk", fn := fun _ => fun
  | [d] => { results := [.lit (.bool true)], args := [d] }
  | _ => none }
def fnExactPlanOkRow : OpenClaim := { program := "ytihpclkpodbndaa", sum := "20f5df7f2de22d99ddc414cf24fc4ee6369f3c705ea25a4fb36917267ab81790", func := "loop.example/g00072/laws.FnExactPlanOk", spec := "fnExactPlanOk", unfollowed := true, recurses := true, apart := false }
def FnExactPlanOkSaid : Prop := fnExactPlanOkRow.holds Try.pinned (OpenSpec.ofChange fnExactPlanOkSpec)

/-- ITS FALSE NEIGHBOUR: 'it returns false'. Refute it at one input. -/
def fnExactPlanOkWrong : ChangeSpec := { name := "fnExactPlanOk", fn := fun _ => fun
  | [d] => { results := [.lit (.bool false)], args := [d] }
  | _ => none }
def FnExactPlanOkWrongFalsely : Prop := fnExactPlanOkRow.holds Try.pinned (OpenSpec.ofChange fnExactPlanOkWrong)

/-- 'laws.FnExactGateSpan': WHATEVER THE INPUT: true; the input reads as it did. -/
def fnExactGateSpanSpec : ChangeSpec := { name := "fnExactGateSpan", fn := fun _ => fun
  | [d1, d2, d3] => { results := [.lit (.bool true)], args := [d1, d2, d3] }
  | _ => none }
def fnExactGateSpanRow : OpenClaim := { program := "ytihpclkpodbndaa", sum := "20f5df7f2de22d99ddc414cf24fc4ee6369f3c705ea25a4fb36917267ab81790", func := "loop.example/g00072/laws.FnExactGateSpan", spec := "fnExactGateSpan", unfollowed := true, recurses := true, apart := false }
def FnExactGateSpanSaid : Prop := fnExactGateSpanRow.holds Try.pinned (OpenSpec.ofChange fnExactGateSpanSpec)

/-- ITS FALSE NEIGHBOUR: 'it returns false'. Refute it at one input. -/
def fnExactGateSpanWrong : ChangeSpec := { name := "fnExactGateSpan", fn := fun _ => fun
  | [d1, d2, d3] => { results := [.lit (.bool false)], args := [d1, d2, d3] }
  | _ => none }
def FnExactGateSpanWrongFalsely : Prop := fnExactGateSpanRow.holds Try.pinned (OpenSpec.ofChange fnExactGateSpanWrong)

/-- 'laws.FnExactLifeStep': WHATEVER THE INPUT: true; the input reads as it did. -/
def fnExactLifeStepSpec : ChangeSpec := { name := "fnExactLifeStep", fn := fun _ => fun
  | [d1, d2] => { results := [.lit (.bool true)], args := [d1, d2] }
  | _ => none }
def fnExactLifeStepRow : OpenClaim := { program := "ytihpclkpodbndaa", sum := "20f5df7f2de22d99ddc414cf24fc4ee6369f3c705ea25a4fb36917267ab81790", func := "loop.example/g00072/laws.FnExactLifeStep", spec := "fnExactLifeStep", apart := false }
def FnExactLifeStepSaid : Prop := fnExactLifeStepRow.holds Try.pinned (OpenSpec.ofChange fnExactLifeStepSpec)

/-- ITS FALSE NEIGHBOUR: 'it returns false'. Refute it at one input. -/
def fnExactLifeStepWrong : ChangeSpec := { name := "fnExactLifeStep", fn := fun _ => fun
  | [d1, d2] => { results := [.lit (.bool false)], args := [d1, d2] }
  | _ => none }
def FnExactLifeStepWrongFalsely : Prop := fnExactLifeStepRow.holds Try.pinned (OpenSpec.ofChange fnExactLifeStepWrong)

/- THE SECOND FORM. 'bulk': how many values and letters a reading holds, each counted each time it is reached (what is shared counts as often as it is met; a slice's spare places count too). A statement '..UptoSaid' is the law's where the arguments, and the package variables that the reading takes, are together of bulk at most 1048576: NARROWER than '..Said'. Prove '..Said' where nothing that the law and all that it calls make is longer than what came in: it says more and counts as full. Else prove '..UptoSaid'. A law counts once. -/
mutual
def uptoBulk {H : Type} : DataW H → Nat
  | .lit (.string bytes) => bytes.length + 1
  | .lit _ => 1
  | .nil => 1
  | .ptr d => uptoBulk d + 1
  | .slice elems spare => uptoBulkAll elems + uptoBulkAll spare + 1
  | .agg parts => uptoBulkAll parts + 1
  | .iface _ d => uptoBulk d + 1
  | .map entries => uptoBulkEntries entries + 1
  | .held _ => 1
def uptoBulkAll {H : Type} : List (DataW H) → Nat
  | [] => 0
  | d :: r => uptoBulk d + uptoBulkAll r
def uptoBulkEntries {H : Type} : List (Lit × DataW H) → Nat
  | [] => 0
  | x :: r => uptoBulkEntry x + uptoBulkEntries r
def uptoBulkEntry {H : Type} : Lit × DataW H → Nat
  | (.string bytes, d) => bytes.length + uptoBulk d + 1
  | (_, d) => uptoBulk d + 1
 end
def uptoSmall : (H : Type) → List (DataW H) → Bool := fun _ ds => decide (uptoBulkAll ds ≤ 1048576)
def OpenSpec.upto (s : _root_.Go.ChangeSpec) : _root_.Go.OpenSpec := { _root_.Go.OpenSpec.ofChange s with cond := some uptoSmall }

/-- 'laws.FnExactLifeOk', WHERE WHAT IT READS IS OF BULK AT MOST 1048576: true; the input reads as it did. -/
def fnExactLifeOkUptoRow : OpenClaim := { program := "ytihpclkpodbndaa", sum := "20f5df7f2de22d99ddc414cf24fc4ee6369f3c705ea25a4fb36917267ab81790", func := "loop.example/g00072/laws.FnExactLifeOk", spec := "fnExactLifeOk", apart := false, narrowed := true }
def FnExactLifeOkUptoSaid : Prop := fnExactLifeOkUptoRow.holds Try.pinned (OpenSpec.upto fnExactLifeOkSpec)

/-- 'laws.FnExactLifeSends', WHERE WHAT IT READS IS OF BULK AT MOST 1048576: true; the input reads as it did. -/
def fnExactLifeSendsUptoRow : OpenClaim := { program := "ytihpclkpodbndaa", sum := "20f5df7f2de22d99ddc414cf24fc4ee6369f3c705ea25a4fb36917267ab81790", func := "loop.example/g00072/laws.FnExactLifeSends", spec := "fnExactLifeSends", apart := false, narrowed := true }
def FnExactLifeSendsUptoSaid : Prop := fnExactLifeSendsUptoRow.holds Try.pinned (OpenSpec.upto fnExactLifeSendsSpec)

/-- 'laws.FnExactLifeKnows', WHERE WHAT IT READS IS OF BULK AT MOST 1048576: true; the input reads as it did. -/
def fnExactLifeKnowsUptoRow : OpenClaim := { program := "ytihpclkpodbndaa", sum := "20f5df7f2de22d99ddc414cf24fc4ee6369f3c705ea25a4fb36917267ab81790", func := "loop.example/g00072/laws.FnExactLifeKnows", spec := "fnExactLifeKnows", apart := false, narrowed := true }
def FnExactLifeKnowsUptoSaid : Prop := fnExactLifeKnowsUptoRow.holds Try.pinned (OpenSpec.upto fnExactLifeKnowsSpec)

/-- 'laws.FnExactLifeName', WHERE WHAT IT READS IS OF BULK AT MOST 1048576: true; the input reads as it did. -/
def fnExactLifeNameUptoRow : OpenClaim := { program := "ytihpclkpodbndaa", sum := "20f5df7f2de22d99ddc414cf24fc4ee6369f3c705ea25a4fb36917267ab81790", func := "loop.example/g00072/laws.FnExactLifeName", spec := "fnExactLifeName", apart := false, narrowed := true }
def FnExactLifeNameUptoSaid : Prop := fnExactLifeNameUptoRow.holds Try.pinned (OpenSpec.upto fnExactLifeNameSpec)

/-- 'laws.FnExactFrameOk', WHERE WHAT IT READS IS OF BULK AT MOST 1048576: true; the input reads as it did. -/
def fnExactFrameOkUptoRow : OpenClaim := { program := "ytihpclkpodbndaa", sum := "20f5df7f2de22d99ddc414cf24fc4ee6369f3c705ea25a4fb36917267ab81790", func := "loop.example/g00072/laws.FnExactFrameOk", spec := "fnExactFrameOk", apart := false, narrowed := true }
def FnExactFrameOkUptoSaid : Prop := fnExactFrameOkUptoRow.holds Try.pinned (OpenSpec.upto fnExactFrameOkSpec)

/-- 'laws.FnExactLifeMay', WHERE WHAT IT READS IS OF BULK AT MOST 1048576: true; the input reads as it did. -/
def fnExactLifeMayUptoRow : OpenClaim := { program := "ytihpclkpodbndaa", sum := "20f5df7f2de22d99ddc414cf24fc4ee6369f3c705ea25a4fb36917267ab81790", func := "loop.example/g00072/laws.FnExactLifeMay", spec := "fnExactLifeMay", apart := false, narrowed := true }
def FnExactLifeMayUptoSaid : Prop := fnExactLifeMayUptoRow.holds Try.pinned (OpenSpec.upto fnExactLifeMaySpec)

/-- 'laws.FnExactHeardOk', WHERE WHAT IT READS IS OF BULK AT MOST 1048576: true; the input reads as it did. -/
def fnExactHeardOkUptoRow : OpenClaim := { program := "ytihpclkpodbndaa", sum := "20f5df7f2de22d99ddc414cf24fc4ee6369f3c705ea25a4fb36917267ab81790", func := "loop.example/g00072/laws.FnExactHeardOk", spec := "fnExactHeardOk", apart := false, narrowed := true }
def FnExactHeardOkUptoSaid : Prop := fnExactHeardOkUptoRow.holds Try.pinned (OpenSpec.upto fnExactHeardOkSpec)

/-- 'laws.FnExactBusyStill', WHERE WHAT IT READS IS OF BULK AT MOST 1048576: true; the input reads as it did. -/
def fnExactBusyStillUptoRow : OpenClaim := { program := "ytihpclkpodbndaa", sum := "20f5df7f2de22d99ddc414cf24fc4ee6369f3c705ea25a4fb36917267ab81790", func := "loop.example/g00072/laws.FnExactBusyStill", spec := "fnExactBusyStill", unfollowed := true, recurses := true, apart := false, narrowed := true }
def FnExactBusyStillUptoSaid : Prop := fnExactBusyStillUptoRow.holds Try.pinned (OpenSpec.upto fnExactBusyStillSpec)

/-- 'laws.FnExactBusOk', WHERE WHAT IT READS IS OF BULK AT MOST 1048576: true; the input reads as it did. -/
def fnExactBusOkUptoRow : OpenClaim := { program := "ytihpclkpodbndaa", sum := "20f5df7f2de22d99ddc414cf24fc4ee6369f3c705ea25a4fb36917267ab81790", func := "loop.example/g00072/laws.FnExactBusOk", spec := "fnExactBusOk", apart := false, narrowed := true }
def FnExactBusOkUptoSaid : Prop := fnExactBusOkUptoRow.holds Try.pinned (OpenSpec.upto fnExactBusOkSpec)

/-- 'laws.FnExactPlanOk', WHERE WHAT IT READS IS OF BULK AT MOST 1048576: true; the input reads as it did. -/
def fnExactPlanOkUptoRow : OpenClaim := { program := "ytihpclkpodbndaa", sum := "20f5df7f2de22d99ddc414cf24fc4ee6369f3c705ea25a4fb36917267ab81790", func := "loop.example/g00072/laws.FnExactPlanOk", spec := "fnExactPlanOk", unfollowed := true, recurses := true, apart := false, narrowed := true }
def FnExactPlanOkUptoSaid : Prop := fnExactPlanOkUptoRow.holds Try.pinned (OpenSpec.upto fnExactPlanOkSpec)

/-- 'laws.FnExactGateSpan', WHERE WHAT IT READS IS OF BULK AT MOST 1048576: true; the input reads as it did. -/
def fnExactGateSpanUptoRow : OpenClaim := { program := "ytihpclkpodbndaa", sum := "20f5df7f2de22d99ddc414cf24fc4ee6369f3c705ea25a4fb36917267ab81790", func := "loop.example/g00072/laws.FnExactGateSpan", spec := "fnExactGateSpan", unfollowed := true, recurses := true, apart := false, narrowed := true }
def FnExactGateSpanUptoSaid : Prop := fnExactGateSpanUptoRow.holds Try.pinned (OpenSpec.upto fnExactGateSpanSpec)

/-- 'laws.FnExactLifeStep', WHERE WHAT IT READS IS OF BULK AT MOST 1048576: true; the input reads as it did. -/
def fnExactLifeStepUptoRow : OpenClaim := { program := "ytihpclkpodbndaa", sum := "20f5df7f2de22d99ddc414cf24fc4ee6369f3c705ea25a4fb36917267ab81790", func := "loop.example/g00072/laws.FnExactLifeStep", spec := "fnExactLifeStep", apart := false, narrowed := true }
def FnExactLifeStepUptoSaid : Prop := fnExactLifeStepUptoRow.holds Try.pinned (OpenSpec.upto fnExactLifeStepSpec)

end Rows
end Go.Proofs.Ytihpclkpodbndaa
