/-
  No cell of these rows narrows 'for every input' (looked for: loops, veiled, ifaces, maps, wideKeys, modest, calm, conditions, laid).
  DERIVED. THE GIVEN ROWS OF THIS SEAT. 5 by the template 'for every input the law returns true; each argument reads behind the call as it read before'; 0 by the template 'total and deterministic' (their statements: YtllpmpfchidhoaaTotals.lean).
  GIVEN WITH THE SEED: the statements are not yours to turn. If you find one false, say at which input.
  Laid BY PROGRAM, IN A SANDBOX (cutbox-rows.mjs): the forced cells as the released guide's own fill.sh prints them over the translation 9500aed380c6849d… (all of the seat's roots in one cut). By AI agents, Wed Nov 11 2026. No macro, syntax, notation, axiom, sorry.
-/
import Derived.Test.YtllpmpfchidhoaaChecked
import GoSem.Claim
import GoSem.ClaimJoined
import GoSem.ClaimMapViews
import Derived.JoinedTies
import Derived.KernelRfl
namespace Go.Proofs.Ytllpmpfchidhoaa
/- THE CELL 'sum', in the pinned program and in every row, IS THE sha256 OF THE DUMP (.gsa) THAT YtllpmpfchidhoaaProg.lean LOADS. Nothing in Lean hashes anything: it is a label: what it is worth is what the hold of that sum in a sandbox is worth. -/
noncomputable def Try.pinned : Pinned := { name := "ytllpmpfchidhoaa", sum := "9500aed380c6849dc5494c0c43d48abb205be0c2f9b0d08e66c79896ef451cf7", checked := Try.checked }
namespace Rows
def none {H : Type} : Left H := { results := [], args := [] }

/-- 'laws.FnGateTruth': WHATEVER THE INPUT: true; the input reads as it did. -/
def fnGateTruthSpec : ChangeSpec := { name := "fnGateTruth", fn := fun _ => fun
  | [d] => { results := [.lit (.bool true)], args := [d] }
  | _ => none }
def fnGateTruthRow : OpenClaim := { program := "ytllpmpfchidhoaa", sum := "9500aed380c6849dc5494c0c43d48abb205be0c2f9b0d08e66c79896ef451cf7", func := "loop.example/g00072/laws.FnGateTruth", spec := "fnGateTruth", unfollowed := true, recurses := true, apart := false }
def FnGateTruthSaid : Prop := fnGateTruthRow.holds Try.pinned (OpenSpec.ofChange fnGateTruthSpec)

/-- ITS FALSE NEIGHBOUR: 'it returns false'. Refute it at one input. -/
def fnGateTruthWrong : ChangeSpec := { name := "fnGateTruth", fn := fun _ => fun
  | [d] => { results := [.lit (.bool false)], args := [d] }
  | _ => none }
def FnGateTruthWrongFalsely : Prop := fnGateTruthRow.holds Try.pinned (OpenSpec.ofChange fnGateTruthWrong)

/-- 'laws.FnBudget': WHATEVER THE INPUT: true; the input reads as it did. -/
def fnBudgetSpec : ChangeSpec := { name := "fnBudget", fn := fun _ => fun
  | [d] => { results := [.lit (.bool true)], args := [d] }
  | _ => none }
def fnBudgetRow : OpenClaim := { program := "ytllpmpfchidhoaa", sum := "9500aed380c6849dc5494c0c43d48abb205be0c2f9b0d08e66c79896ef451cf7", func := "loop.example/g00072/laws.FnBudget", spec := "fnBudget", unfollowed := true, recurses := true, apart := false }
def FnBudgetSaid : Prop := fnBudgetRow.holds Try.pinned (OpenSpec.ofChange fnBudgetSpec)

/-- ITS FALSE NEIGHBOUR: 'it returns false'. Refute it at one input. -/
def fnBudgetWrong : ChangeSpec := { name := "fnBudget", fn := fun _ => fun
  | [d] => { results := [.lit (.bool false)], args := [d] }
  | _ => none }
def FnBudgetWrongFalsely : Prop := fnBudgetRow.holds Try.pinned (OpenSpec.ofChange fnBudgetWrong)

/-- 'laws.FnGateExact': WHATEVER THE INPUT: true; the input reads as it did. -/
def fnGateExactSpec : ChangeSpec := { name := "fnGateExact", fn := fun _ => fun
  | [d] => { results := [.lit (.bool true)], args := [d] }
  | _ => none }
def fnGateExactRow : OpenClaim := { program := "ytllpmpfchidhoaa", sum := "9500aed380c6849dc5494c0c43d48abb205be0c2f9b0d08e66c79896ef451cf7", func := "loop.example/g00072/laws.FnGateExact", spec := "fnGateExact", unfollowed := true, recurses := true, apart := false }
def FnGateExactSaid : Prop := fnGateExactRow.holds Try.pinned (OpenSpec.ofChange fnGateExactSpec)

/-- ITS FALSE NEIGHBOUR: 'it returns false'. Refute it at one input. -/
def fnGateExactWrong : ChangeSpec := { name := "fnGateExact", fn := fun _ => fun
  | [d] => { results := [.lit (.bool false)], args := [d] }
  | _ => none }
def FnGateExactWrongFalsely : Prop := fnGateExactRow.holds Try.pinned (OpenSpec.ofChange fnGateExactWrong)

/-- 'laws.FnApart': WHATEVER THE INPUT: true; the input reads as it did. -/
def fnApartSpec : ChangeSpec := { name := "fnApart", fn := fun _ => fun
  | [d] => { results := [.lit (.bool true)], args := [d] }
  | _ => none }
def fnApartRow : OpenClaim := { program := "ytllpmpfchidhoaa", sum := "9500aed380c6849dc5494c0c43d48abb205be0c2f9b0d08e66c79896ef451cf7", func := "loop.example/g00072/laws.FnApart", spec := "fnApart", unfollowed := true, recurses := true, apart := false }
def FnApartSaid : Prop := fnApartRow.holds Try.pinned (OpenSpec.ofChange fnApartSpec)

/-- ITS FALSE NEIGHBOUR: 'it returns false'. Refute it at one input. -/
def fnApartWrong : ChangeSpec := { name := "fnApart", fn := fun _ => fun
  | [d] => { results := [.lit (.bool false)], args := [d] }
  | _ => none }
def FnApartWrongFalsely : Prop := fnApartRow.holds Try.pinned (OpenSpec.ofChange fnApartWrong)

/-- 'laws.FnNextOwn': WHATEVER THE INPUT: true; the input reads as it did. -/
def fnNextOwnSpec : ChangeSpec := { name := "fnNextOwn", fn := fun _ => fun
  | [d] => { results := [.lit (.bool true)], args := [d] }
  | _ => none }
def fnNextOwnRow : OpenClaim := { program := "ytllpmpfchidhoaa", sum := "9500aed380c6849dc5494c0c43d48abb205be0c2f9b0d08e66c79896ef451cf7", func := "loop.example/g00072/laws.FnNextOwn", spec := "fnNextOwn", unfollowed := true, recurses := true, apart := false }
def FnNextOwnSaid : Prop := fnNextOwnRow.holds Try.pinned (OpenSpec.ofChange fnNextOwnSpec)

/-- ITS FALSE NEIGHBOUR: 'it returns false'. Refute it at one input. -/
def fnNextOwnWrong : ChangeSpec := { name := "fnNextOwn", fn := fun _ => fun
  | [d] => { results := [.lit (.bool false)], args := [d] }
  | _ => none }
def FnNextOwnWrongFalsely : Prop := fnNextOwnRow.holds Try.pinned (OpenSpec.ofChange fnNextOwnWrong)

/- THE SECOND FORM. 'bulk': how many values and letters a reading holds, each counted each time it is reached (what is shared counts as often as it is met; a slice's spare places count too). A statement '..UptoSaid' is the law's where the arguments, and the package variables that the reading takes, are together of bulk at most 1048576: NARROWER than '..Said'. Prove '..Said' where nothing that the law and all that it calls make is longer than what came in: it says more and counts as full. Else prove '..UptoSaid'. A law counts once. -/
mutual
def uptoBulk {H : Type} : DataW H → Nat
  | .lit (.string bytes) => bytes.length + 1
  | .lit _ => 1
  | .nil => 1
  | .ptr d => uptoBulk d + 1
  | .slice elems spare => uptoBulkAll elems + uptoBulkAll spare + 1
  | .agg parts => uptoBulkAll parts + 1
  | .iface _ d => uptoBulk d + 1
  | .map entries => uptoBulkEntries entries + 1
  | .held _ => 1
def uptoBulkAll {H : Type} : List (DataW H) → Nat
  | [] => 0
  | d :: r => uptoBulk d + uptoBulkAll r
def uptoBulkEntries {H : Type} : List (Lit × DataW H) → Nat
  | [] => 0
  | x :: r => uptoBulkEntry x + uptoBulkEntries r
def uptoBulkEntry {H : Type} : Lit × DataW H → Nat
  | (.string bytes, d) => bytes.length + uptoBulk d + 1
  | (_, d) => uptoBulk d + 1
 end
def uptoSmall : (H : Type) → List (DataW H) → Bool := fun _ ds => decide (uptoBulkAll ds ≤ 1048576)
def OpenSpec.upto (s : _root_.Go.ChangeSpec) : _root_.Go.OpenSpec := { _root_.Go.OpenSpec.ofChange s with cond := some uptoSmall }

/-- 'laws.FnGateTruth', WHERE WHAT IT READS IS OF BULK AT MOST 1048576: true; the input reads as it did. -/
def fnGateTruthUptoRow : OpenClaim := { program := "ytllpmpfchidhoaa", sum := "9500aed380c6849dc5494c0c43d48abb205be0c2f9b0d08e66c79896ef451cf7", func := "loop.example/g00072/laws.FnGateTruth", spec := "fnGateTruth", unfollowed := true, recurses := true, apart := false, narrowed := true }
def FnGateTruthUptoSaid : Prop := fnGateTruthUptoRow.holds Try.pinned (OpenSpec.upto fnGateTruthSpec)

/-- 'laws.FnBudget', WHERE WHAT IT READS IS OF BULK AT MOST 1048576: true; the input reads as it did. -/
def fnBudgetUptoRow : OpenClaim := { program := "ytllpmpfchidhoaa", sum := "9500aed380c6849dc5494c0c43d48abb205be0c2f9b0d08e66c79896ef451cf7", func := "loop.example/g00072/laws.FnBudget", spec := "fnBudget", unfollowed := true, recurses := true, apart := false, narrowed := true }
def FnBudgetUptoSaid : Prop := fnBudgetUptoRow.holds Try.pinned (OpenSpec.upto fnBudgetSpec)

/-- 'laws.FnGateExact', WHERE WHAT IT READS IS OF BULK AT MOST 1048576: true; the input reads as it did. -/
def fnGateExactUptoRow : OpenClaim := { program := "ytllpmpfchidhoaa", sum := "9500aed380c6849dc5494c0c43d48abb205be0c2f9b0d08e66c79896ef451cf7", func := "loop.example/g00072/laws.FnGateExact", spec := "fnGateExact", unfollowed := true, recurses := true, apart := false, narrowed := true }
def FnGateExactUptoSaid : Prop := fnGateExactUptoRow.holds Try.pinned (OpenSpec.upto fnGateExactSpec)

/-- 'laws.FnApart', WHERE WHAT IT READS IS OF BULK AT MOST 1048576: true; the input reads as it did. -/
def fnApartUptoRow : OpenClaim := { program := "ytllpmpfchidhoaa", sum := "9500aed380c6849dc5494c0c43d48abb205be0c2f9b0d08e66c79896ef451cf7", func := "loop.example/g00072/laws.FnApart", spec := "fnApart", unfollowed := true, recurses := true, apart := false, narrowed := true }
def FnApartUptoSaid : Prop := fnApartUptoRow.holds Try.pinned (OpenSpec.upto fnApartSpec)

/-- 'laws.FnNextOwn', WHERE WHAT IT READS IS OF BULK AT MOST 1048576: true; the input reads as it did. -/
def fnNextOwnUptoRow : OpenClaim := { program := "ytllpmpfchidhoaa", sum := "9500aed380c6849dc5494c0c43d48abb205be0c2f9b0d08e66c79896ef451cf7", func := "loop.example/g00072/laws.FnNextOwn", spec := "fnNextOwn", unfollowed := true, recurses := true, apart := false, narrowed := true }
def FnNextOwnUptoSaid : Prop := fnNextOwnUptoRow.holds Try.pinned (OpenSpec.upto fnNextOwnSpec)

end Rows
end Go.Proofs.Ytllpmpfchidhoaa
