/-
  No cell of these rows narrows 'for every input' (looked for: loops, veiled, ifaces, maps, wideKeys, modest, calm, conditions, laid).
  DERIVED. THE GIVEN ROWS OF THIS SEAT. 6 by the template 'for every input the law returns true; each argument reads behind the call as it read before'; 0 by the template 'total and deterministic' (their statements: YtejohmompmjhnaaTotals.lean).
  GIVEN WITH THE SEED: the statements are not yours to turn. If you find one false, say at which input.
  Laid BY PROGRAM, IN A SANDBOX (cutbox-rows.mjs): the forced cells as the released guide's own fill.sh prints them over the translation 2a3d8794d7763b97… (all of the seat's roots in one cut). By AI agents, Wed Nov 11 2026. No macro, syntax, notation, axiom, sorry.
-/
import Derived.Test.YtejohmompmjhnaaChecked
import GoSem.Claim
import GoSem.ClaimJoined
import GoSem.ClaimMapViews
import Derived.JoinedTies
import Derived.KernelRfl
namespace Go.Proofs.Ytejohmompmjhnaa
/- THE CELL 'sum', in the pinned program and in every row, IS THE sha256 OF THE DUMP (.gsa) THAT YtejohmompmjhnaaProg.lean LOADS. Nothing in Lean hashes anything: it is a label: what it is worth is what the hold of that sum in a sandbox is worth. -/
noncomputable def Try.pinned : Pinned := { name := "ytejohmompmjhnaa", sum := "2a3d8794d7763b97d45115e78e8623a04ce9d1b0f270f0328a18f81b4b4897e1", checked := Try.checked }
namespace Rows
def none {H : Type} : Left H := { results := [], args := [] }

/-- 'laws.FnExactGateAsk': WHATEVER THE INPUT: true; the input reads as it did. -/
def fnExactGateAskSpec : ChangeSpec := { name := "fnExactGateAsk", fn := fun _ => fun
  | [d1, d2, d3, d4, d5, d6] => { results := [.lit (.bool true)], args := [d1, d2, d3, d4, d5, d6] }
  | _ => none }
def fnExactGateAskRow : OpenClaim := { program := "ytejohmompmjhnaa", sum := "2a3d8794d7763b97d45115e78e8623a04ce9d1b0f270f0328a18f81b4b4897e1", func := "loop.example/g00072/laws.FnExactGateAsk", spec := "fnExactGateAsk", unfollowed := true, recurses := true, apart := false }
def FnExactGateAskSaid : Prop := fnExactGateAskRow.holds Try.pinned (OpenSpec.ofChange fnExactGateAskSpec)

/-- ITS FALSE NEIGHBOUR: 'it returns false'. Refute it at one input. -/
def fnExactGateAskWrong : ChangeSpec := { name := "fnExactGateAsk", fn := fun _ => fun
  | [d1, d2, d3, d4, d5, d6] => { results := [.lit (.bool false)], args := [d1, d2, d3, d4, d5, d6] }
  | _ => none }
def FnExactGateAskWrongFalsely : Prop := fnExactGateAskRow.holds Try.pinned (OpenSpec.ofChange fnExactGateAskWrong)

/-- 'laws.FnExactGateBudget': WHATEVER THE INPUT: true; the input reads as it did. -/
def fnExactGateBudgetSpec : ChangeSpec := { name := "fnExactGateBudget", fn := fun _ => fun
  | [d1, d2, d3, d4] => { results := [.lit (.bool true)], args := [d1, d2, d3, d4] }
  | _ => none }
def fnExactGateBudgetRow : OpenClaim := { program := "ytejohmompmjhnaa", sum := "2a3d8794d7763b97d45115e78e8623a04ce9d1b0f270f0328a18f81b4b4897e1", func := "loop.example/g00072/laws.FnExactGateBudget", spec := "fnExactGateBudget", unfollowed := true, recurses := true, apart := false }
def FnExactGateBudgetSaid : Prop := fnExactGateBudgetRow.holds Try.pinned (OpenSpec.ofChange fnExactGateBudgetSpec)

/-- ITS FALSE NEIGHBOUR: 'it returns false'. Refute it at one input. -/
def fnExactGateBudgetWrong : ChangeSpec := { name := "fnExactGateBudget", fn := fun _ => fun
  | [d1, d2, d3, d4] => { results := [.lit (.bool false)], args := [d1, d2, d3, d4] }
  | _ => none }
def FnExactGateBudgetWrongFalsely : Prop := fnExactGateBudgetRow.holds Try.pinned (OpenSpec.ofChange fnExactGateBudgetWrong)

/-- 'laws.FnGateTruth': WHATEVER THE INPUT: true; the input reads as it did. -/
def fnGateTruthSpec : ChangeSpec := { name := "fnGateTruth", fn := fun _ => fun
  | [d] => { results := [.lit (.bool true)], args := [d] }
  | _ => none }
def fnGateTruthRow : OpenClaim := { program := "ytejohmompmjhnaa", sum := "2a3d8794d7763b97d45115e78e8623a04ce9d1b0f270f0328a18f81b4b4897e1", func := "loop.example/g00072/laws.FnGateTruth", spec := "fnGateTruth", unfollowed := true, recurses := true, apart := false }
def FnGateTruthSaid : Prop := fnGateTruthRow.holds Try.pinned (OpenSpec.ofChange fnGateTruthSpec)

/-- ITS FALSE NEIGHBOUR: 'it returns false'. Refute it at one input. -/
def fnGateTruthWrong : ChangeSpec := { name := "fnGateTruth", fn := fun _ => fun
  | [d] => { results := [.lit (.bool false)], args := [d] }
  | _ => none }
def FnGateTruthWrongFalsely : Prop := fnGateTruthRow.holds Try.pinned (OpenSpec.ofChange fnGateTruthWrong)

/-- 'laws.FnGateExact': WHATEVER THE INPUT: true; the input reads as it did. -/
def fnGateExactSpec : ChangeSpec := { name := "fnGateExact", fn := fun _ => fun
  | [d] => { results := [.lit (.bool true)], args := [d] }
  | _ => none }
def fnGateExactRow : OpenClaim := { program := "ytejohmompmjhnaa", sum := "2a3d8794d7763b97d45115e78e8623a04ce9d1b0f270f0328a18f81b4b4897e1", func := "loop.example/g00072/laws.FnGateExact", spec := "fnGateExact", unfollowed := true, recurses := true, apart := false }
def FnGateExactSaid : Prop := fnGateExactRow.holds Try.pinned (OpenSpec.ofChange fnGateExactSpec)

/-- ITS FALSE NEIGHBOUR: 'it returns false'. Refute it at one input. -/
def fnGateExactWrong : ChangeSpec := { name := "fnGateExact", fn := fun _ => fun
  | [d] => { results := [.lit (.bool false)], args := [d] }
  | _ => none }
def FnGateExactWrongFalsely : Prop := fnGateExactRow.holds Try.pinned (OpenSpec.ofChange fnGateExactWrong)

/-- 'laws.FnExactGateWait': WHATEVER THE INPUT: true; the input reads as it did. -/
def fnExactGateWaitSpec : ChangeSpec := { name := "fnExactGateWait", fn := fun _ => fun
  | [d1, d2, d3, d4, d5, d6, d7] => { results := [.lit (.bool true)], args := [d1, d2, d3, d4, d5, d6, d7] }
  | _ => none }
def fnExactGateWaitRow : OpenClaim := { program := "ytejohmompmjhnaa", sum := "2a3d8794d7763b97d45115e78e8623a04ce9d1b0f270f0328a18f81b4b4897e1", func := "loop.example/g00072/laws.FnExactGateWait", spec := "fnExactGateWait", unfollowed := true, recurses := true, apart := false }
def FnExactGateWaitSaid : Prop := fnExactGateWaitRow.holds Try.pinned (OpenSpec.ofChange fnExactGateWaitSpec)

/-- ITS FALSE NEIGHBOUR: 'it returns false'. Refute it at one input. -/
def fnExactGateWaitWrong : ChangeSpec := { name := "fnExactGateWait", fn := fun _ => fun
  | [d1, d2, d3, d4, d5, d6, d7] => { results := [.lit (.bool false)], args := [d1, d2, d3, d4, d5, d6, d7] }
  | _ => none }
def FnExactGateWaitWrongFalsely : Prop := fnExactGateWaitRow.holds Try.pinned (OpenSpec.ofChange fnExactGateWaitWrong)

/-- 'laws.FnBudget': WHATEVER THE INPUT: true; the input reads as it did. -/
def fnBudgetSpec : ChangeSpec := { name := "fnBudget", fn := fun _ => fun
  | [d] => { results := [.lit (.bool true)], args := [d] }
  | _ => none }
def fnBudgetRow : OpenClaim := { program := "ytejohmompmjhnaa", sum := "2a3d8794d7763b97d45115e78e8623a04ce9d1b0f270f0328a18f81b4b4897e1", func := "loop.example/g00072/laws.FnBudget", spec := "fnBudget", unfollowed := true, recurses := true, apart := false }
def FnBudgetSaid : Prop := fnBudgetRow.holds Try.pinned (OpenSpec.ofChange fnBudgetSpec)

/-- ITS FALSE NEIGHBOUR: 'it returns false'. Refute it at one input. -/
def fnBudgetWrong : ChangeSpec := { name := "fnBudget", fn := fun _ => fun
  | [d] => { results := [.lit (.bool false)], args := [d] }
  | _ => none }
def FnBudgetWrongFalsely : Prop := fnBudgetRow.holds Try.pinned (OpenSpec.ofChange fnBudgetWrong)

/- THE SECOND FORM. 'bulk': how many values and letters a reading holds, each counted each time it is reached (what is shared counts as often as it is met; a slice's spare places count too). A statement '..UptoSaid' is the law's where the arguments, and the package variables that the reading takes, are together of bulk at most 1048576: NARROWER than '..Said'. Prove '..Said' where nothing that the law and all that it calls make is longer than what came in: it says more and counts as full. Else prove '..UptoSaid'. A law counts once. -/
mutual
def uptoBulk {H : Type} : DataW H → Nat
  | .lit (.string bytes) => bytes.length + 1
  | .lit _ => 1
  | .nil => 1
  | .ptr d => uptoBulk d + 1
  | .slice elems spare => uptoBulkAll elems + uptoBulkAll spare + 1
  | .agg parts => uptoBulkAll parts + 1
  | .iface _ d => uptoBulk d + 1
  | .map entries => uptoBulkEntries entries + 1
  | .held _ => 1
def uptoBulkAll {H : Type} : List (DataW H) → Nat
  | [] => 0
  | d :: r => uptoBulk d + uptoBulkAll r
def uptoBulkEntries {H : Type} : List (Lit × DataW H) → Nat
  | [] => 0
  | x :: r => uptoBulkEntry x + uptoBulkEntries r
def uptoBulkEntry {H : Type} : Lit × DataW H → Nat
  | (.string bytes, d) => bytes.length + uptoBulk d + 1
  | (_, d) => uptoBulk d + 1
 end
def uptoSmall : (H : Type) → List (DataW H) → Bool := fun _ ds => decide (uptoBulkAll ds ≤ 1048576)
def OpenSpec.upto (s : _root_.Go.ChangeSpec) : _root_.Go.OpenSpec := { _root_.Go.OpenSpec.ofChange s with cond := some uptoSmall }

/-- 'laws.FnExactGateAsk', WHERE WHAT IT READS IS OF BULK AT MOST 1048576: true; the input reads as it did. -/
def fnExactGateAskUptoRow : OpenClaim := { program := "ytejohmompmjhnaa", sum := "2a3d8794d7763b97d45115e78e8623a04ce9d1b0f270f0328a18f81b4b4897e1", func := "loop.example/g00072/laws.FnExactGateAsk", spec := "fnExactGateAsk", unfollowed := true, recurses := true, apart := false, narrowed := true }
def FnExactGateAskUptoSaid : Prop := fnExactGateAskUptoRow.holds Try.pinned (OpenSpec.upto fnExactGateAskSpec)

/-- 'laws.FnExactGateBudget', WHERE WHAT IT READS IS OF BULK AT MOST 1048576: true; the input reads as it did. -/
def fnExactGateBudgetUptoRow : OpenClaim := { program := "ytejohmompmjhnaa", sum := "2a3d8794d7763b97d45115e78e8623a04ce9d1b0f270f0328a18f81b4b4897e1", func := "loop.example/g00072/laws.FnExactGateBudget", spec := "fnExactGateBudget", unfollowed := true, recurses := true, apart := false, narrowed := true }
def FnExactGateBudgetUptoSaid : Prop := fnExactGateBudgetUptoRow.holds Try.pinned (OpenSpec.upto fnExactGateBudgetSpec)

/-- 'laws.FnGateTruth', WHERE WHAT IT READS IS OF BULK AT MOST 1048576: true; the input reads as it did. -/
def fnGateTruthUptoRow : OpenClaim := { program := "ytejohmompmjhnaa", sum := "2a3d8794d7763b97d45115e78e8623a04ce9d1b0f270f0328a18f81b4b4897e1", func := "loop.example/g00072/laws.FnGateTruth", spec := "fnGateTruth", unfollowed := true, recurses := true, apart := false, narrowed := true }
def FnGateTruthUptoSaid : Prop := fnGateTruthUptoRow.holds Try.pinned (OpenSpec.upto fnGateTruthSpec)

/-- 'laws.FnGateExact', WHERE WHAT IT READS IS OF BULK AT MOST 1048576: true; the input reads as it did. -/
def fnGateExactUptoRow : OpenClaim := { program := "ytejohmompmjhnaa", sum := "2a3d8794d7763b97d45115e78e8623a04ce9d1b0f270f0328a18f81b4b4897e1", func := "loop.example/g00072/laws.FnGateExact", spec := "fnGateExact", unfollowed := true, recurses := true, apart := false, narrowed := true }
def FnGateExactUptoSaid : Prop := fnGateExactUptoRow.holds Try.pinned (OpenSpec.upto fnGateExactSpec)

/-- 'laws.FnExactGateWait', WHERE WHAT IT READS IS OF BULK AT MOST 1048576: true; the input reads as it did. -/
def fnExactGateWaitUptoRow : OpenClaim := { program := "ytejohmompmjhnaa", sum := "2a3d8794d7763b97d45115e78e8623a04ce9d1b0f270f0328a18f81b4b4897e1", func := "loop.example/g00072/laws.FnExactGateWait", spec := "fnExactGateWait", unfollowed := true, recurses := true, apart := false, narrowed := true }
def FnExactGateWaitUptoSaid : Prop := fnExactGateWaitUptoRow.holds Try.pinned (OpenSpec.upto fnExactGateWaitSpec)

/-- 'laws.FnBudget', WHERE WHAT IT READS IS OF BULK AT MOST 1048576: true; the input reads as it did. -/
def fnBudgetUptoRow : OpenClaim := { program := "ytejohmompmjhnaa", sum := "2a3d8794d7763b97d45115e78e8623a04ce9d1b0f270f0328a18f81b4b4897e1", func := "loop.example/g00072/laws.FnBudget", spec := "fnBudget", unfollowed := true, recurses := true, apart := false, narrowed := true }
def FnBudgetUptoSaid : Prop := fnBudgetUptoRow.holds Try.pinned (OpenSpec.upto fnBudgetSpec)

end Rows
end Go.Proofs.Ytejohmompmjhnaa
