/-
  No cell of these rows narrows 'for every input' (looked for: loops, veiled, ifaces, maps, wideKeys, modest, calm, conditions, laid).
  DERIVED. THE GIVEN ROWS OF THIS SEAT. 10 by the template 'for every input the law returns true; each argument reads behind the call as it read before'; 0 by the template 'total and deterministic' (their statements: YtakcaiigkdglhaaTotals.lean).
  GIVEN WITH THE SEED: the statements are not yours to turn. If you find one false, say at which input.
  Laid BY PROGRAM, IN A SANDBOX (cutbox-rows.mjs): the forced cells as the released guide's own fill.sh prints them over the translation 82dcec6437287d40… (all of the seat's roots in one cut). By AI agents, Wed Nov 11 2026. No macro, syntax, notation, axiom, sorry.
-/
import Derived.Test.YtakcaiigkdglhaaChecked
import GoSem.Claim
import GoSem.ClaimJoined
import GoSem.ClaimMapViews
import Derived.JoinedTies
import Derived.KernelRfl
namespace Go.Proofs.Ytakcaiigkdglhaa
/- THE CELL 'sum', in the pinned program and in every row, IS THE sha256 OF THE DUMP (.gsa) THAT YtakcaiigkdglhaaProg.lean LOADS. Nothing in Lean hashes anything: it is a label: what it is worth is what the hold of that sum in a sandbox is worth. -/
noncomputable def Try.pinned : Pinned := { name := "ytakcaiigkdglhaa", sum := "82dcec6437287d407aa5397a59e6f195e8e0ebb97aff8fbd881b34322a61c95e", checked := Try.checked }
namespace Rows
def none {H : Type} : Left H := { results := [], args := [] }

/-- 'laws.FnExactRoundOf': WHATEVER THE INPUT: true; the input reads as it did. -/
def fnExactRoundOfSpec : ChangeSpec := { name := "fnExactRoundOf", fn := fun _ => fun
  | [d] => { results := [.lit (.bool true)], args := [d] }
  | _ => none }
def fnExactRoundOfRow : OpenClaim := { program := "ytakcaiigkdglhaa", sum := "82dcec6437287d407aa5397a59e6f195e8e0ebb97aff8fbd881b34322a61c95e", func := "loop.example/g00072/laws.FnExactRoundOf", spec := "fnExactRoundOf", unfollowed := true, recurses := true, apart := false }
def FnExactRoundOfSaid : Prop := fnExactRoundOfRow.holds Try.pinned (OpenSpec.ofChange fnExactRoundOfSpec)

/-- ITS FALSE NEIGHBOUR: 'it returns false'. Refute it at one input. -/
def fnExactRoundOfWrong : ChangeSpec := { name := "fnExactRoundOf", fn := fun _ => fun
  | [d] => { results := [.lit (.bool false)], args := [d] }
  | _ => none }
def FnExactRoundOfWrongFalsely : Prop := fnExactRoundOfRow.holds Try.pinned (OpenSpec.ofChange fnExactRoundOfWrong)

/-- 'laws.FnExactSlotFrom': WHATEVER THE INPUT: true; the input reads as it did. -/
def fnExactSlotFromSpec : ChangeSpec := { name := "fnExactSlotFrom", fn := fun _ => fun
  | [d1, d2] => { results := [.lit (.bool true)], args := [d1, d2] }
  | _ => none }
def fnExactSlotFromRow : OpenClaim := { program := "ytakcaiigkdglhaa", sum := "82dcec6437287d407aa5397a59e6f195e8e0ebb97aff8fbd881b34322a61c95e", func := "loop.example/g00072/laws.FnExactSlotFrom", spec := "fnExactSlotFrom", unfollowed := true, recurses := true, apart := false }
def FnExactSlotFromSaid : Prop := fnExactSlotFromRow.holds Try.pinned (OpenSpec.ofChange fnExactSlotFromSpec)

/-- ITS FALSE NEIGHBOUR: 'it returns false'. Refute it at one input. -/
def fnExactSlotFromWrong : ChangeSpec := { name := "fnExactSlotFrom", fn := fun _ => fun
  | [d1, d2] => { results := [.lit (.bool false)], args := [d1, d2] }
  | _ => none }
def FnExactSlotFromWrongFalsely : Prop := fnExactSlotFromRow.holds Try.pinned (OpenSpec.ofChange fnExactSlotFromWrong)

/-- 'laws.FnExactPlanMoved': WHATEVER THE INPUT: true; the input reads as it did. -/
def fnExactPlanMovedSpec : ChangeSpec := { name := "fnExactPlanMoved", fn := fun _ => fun
  | [d1, d2] => { results := [.lit (.bool true)], args := [d1, d2] }
  | _ => none }
def fnExactPlanMovedRow : OpenClaim := { program := "ytakcaiigkdglhaa", sum := "82dcec6437287d407aa5397a59e6f195e8e0ebb97aff8fbd881b34322a61c95e", func := "loop.example/g00072/laws.FnExactPlanMoved", spec := "fnExactPlanMoved", unfollowed := true, recurses := true, apart := false }
def FnExactPlanMovedSaid : Prop := fnExactPlanMovedRow.holds Try.pinned (OpenSpec.ofChange fnExactPlanMovedSpec)

/-- ITS FALSE NEIGHBOUR: 'it returns false'. Refute it at one input. -/
def fnExactPlanMovedWrong : ChangeSpec := { name := "fnExactPlanMoved", fn := fun _ => fun
  | [d1, d2] => { results := [.lit (.bool false)], args := [d1, d2] }
  | _ => none }
def FnExactPlanMovedWrongFalsely : Prop := fnExactPlanMovedRow.holds Try.pinned (OpenSpec.ofChange fnExactPlanMovedWrong)

/-- 'laws.FnExactOccurrence': WHATEVER THE INPUT: true; the input reads as it did. -/
def fnExactOccurrenceSpec : ChangeSpec := { name := "fnExactOccurrence", fn := fun _ => fun
  | [d1, d2, d3] => { results := [.lit (.bool true)], args := [d1, d2, d3] }
  | _ => none }
def fnExactOccurrenceRow : OpenClaim := { program := "ytakcaiigkdglhaa", sum := "82dcec6437287d407aa5397a59e6f195e8e0ebb97aff8fbd881b34322a61c95e", func := "loop.example/g00072/laws.FnExactOccurrence", spec := "fnExactOccurrence", unfollowed := true, recurses := true, apart := false }
def FnExactOccurrenceSaid : Prop := fnExactOccurrenceRow.holds Try.pinned (OpenSpec.ofChange fnExactOccurrenceSpec)

/-- ITS FALSE NEIGHBOUR: 'it returns false'. Refute it at one input. -/
def fnExactOccurrenceWrong : ChangeSpec := { name := "fnExactOccurrence", fn := fun _ => fun
  | [d1, d2, d3] => { results := [.lit (.bool false)], args := [d1, d2, d3] }
  | _ => none }
def FnExactOccurrenceWrongFalsely : Prop := fnExactOccurrenceRow.holds Try.pinned (OpenSpec.ofChange fnExactOccurrenceWrong)

/-- 'laws.FnExactSlotAt': WHATEVER THE INPUT: true; the input reads as it did. -/
def fnExactSlotAtSpec : ChangeSpec := { name := "fnExactSlotAt", fn := fun _ => fun
  | [d1, d2] => { results := [.lit (.bool true)], args := [d1, d2] }
  | _ => none }
def fnExactSlotAtRow : OpenClaim := { program := "ytakcaiigkdglhaa", sum := "82dcec6437287d407aa5397a59e6f195e8e0ebb97aff8fbd881b34322a61c95e", func := "loop.example/g00072/laws.FnExactSlotAt", spec := "fnExactSlotAt", unfollowed := true, recurses := true, apart := false }
def FnExactSlotAtSaid : Prop := fnExactSlotAtRow.holds Try.pinned (OpenSpec.ofChange fnExactSlotAtSpec)

/-- ITS FALSE NEIGHBOUR: 'it returns false'. Refute it at one input. -/
def fnExactSlotAtWrong : ChangeSpec := { name := "fnExactSlotAt", fn := fun _ => fun
  | [d1, d2] => { results := [.lit (.bool false)], args := [d1, d2] }
  | _ => none }
def FnExactSlotAtWrongFalsely : Prop := fnExactSlotAtRow.holds Try.pinned (OpenSpec.ofChange fnExactSlotAtWrong)

/-- 'laws.FnExactInSlot': WHATEVER THE INPUT: true; the input reads as it did. -/
def fnExactInSlotSpec : ChangeSpec := { name := "fnExactInSlot", fn := fun _ => fun
  | [d1, d2, d3, d4] => { results := [.lit (.bool true)], args := [d1, d2, d3, d4] }
  | _ => none }
def fnExactInSlotRow : OpenClaim := { program := "ytakcaiigkdglhaa", sum := "82dcec6437287d407aa5397a59e6f195e8e0ebb97aff8fbd881b34322a61c95e", func := "loop.example/g00072/laws.FnExactInSlot", spec := "fnExactInSlot", unfollowed := true, recurses := true, apart := false }
def FnExactInSlotSaid : Prop := fnExactInSlotRow.holds Try.pinned (OpenSpec.ofChange fnExactInSlotSpec)

/-- ITS FALSE NEIGHBOUR: 'it returns false'. Refute it at one input. -/
def fnExactInSlotWrong : ChangeSpec := { name := "fnExactInSlot", fn := fun _ => fun
  | [d1, d2, d3, d4] => { results := [.lit (.bool false)], args := [d1, d2, d3, d4] }
  | _ => none }
def FnExactInSlotWrongFalsely : Prop := fnExactInSlotRow.holds Try.pinned (OpenSpec.ofChange fnExactInSlotWrong)

/-- 'laws.FnExactNextOwn': WHATEVER THE INPUT: true; the input reads as it did. -/
def fnExactNextOwnSpec : ChangeSpec := { name := "fnExactNextOwn", fn := fun _ => fun
  | [d1, d2, d3] => { results := [.lit (.bool true)], args := [d1, d2, d3] }
  | _ => none }
def fnExactNextOwnRow : OpenClaim := { program := "ytakcaiigkdglhaa", sum := "82dcec6437287d407aa5397a59e6f195e8e0ebb97aff8fbd881b34322a61c95e", func := "loop.example/g00072/laws.FnExactNextOwn", spec := "fnExactNextOwn", unfollowed := true, recurses := true, apart := false }
def FnExactNextOwnSaid : Prop := fnExactNextOwnRow.holds Try.pinned (OpenSpec.ofChange fnExactNextOwnSpec)

/-- ITS FALSE NEIGHBOUR: 'it returns false'. Refute it at one input. -/
def fnExactNextOwnWrong : ChangeSpec := { name := "fnExactNextOwn", fn := fun _ => fun
  | [d1, d2, d3] => { results := [.lit (.bool false)], args := [d1, d2, d3] }
  | _ => none }
def FnExactNextOwnWrongFalsely : Prop := fnExactNextOwnRow.holds Try.pinned (OpenSpec.ofChange fnExactNextOwnWrong)

/-- 'laws.FnExactShareOf': WHATEVER THE INPUT: true; the input reads as it did. -/
def fnExactShareOfSpec : ChangeSpec := { name := "fnExactShareOf", fn := fun _ => fun
  | [d1, d2] => { results := [.lit (.bool true)], args := [d1, d2] }
  | _ => none }
def fnExactShareOfRow : OpenClaim := { program := "ytakcaiigkdglhaa", sum := "82dcec6437287d407aa5397a59e6f195e8e0ebb97aff8fbd881b34322a61c95e", func := "loop.example/g00072/laws.FnExactShareOf", spec := "fnExactShareOf", unfollowed := true, recurses := true, apart := false }
def FnExactShareOfSaid : Prop := fnExactShareOfRow.holds Try.pinned (OpenSpec.ofChange fnExactShareOfSpec)

/-- ITS FALSE NEIGHBOUR: 'it returns false'. Refute it at one input. -/
def fnExactShareOfWrong : ChangeSpec := { name := "fnExactShareOf", fn := fun _ => fun
  | [d1, d2] => { results := [.lit (.bool false)], args := [d1, d2] }
  | _ => none }
def FnExactShareOfWrongFalsely : Prop := fnExactShareOfRow.holds Try.pinned (OpenSpec.ofChange fnExactShareOfWrong)

/-- 'laws.FnApart': WHATEVER THE INPUT: true; the input reads as it did. -/
def fnApartSpec : ChangeSpec := { name := "fnApart", fn := fun _ => fun
  | [d] => { results := [.lit (.bool true)], args := [d] }
  | _ => none }
def fnApartRow : OpenClaim := { program := "ytakcaiigkdglhaa", sum := "82dcec6437287d407aa5397a59e6f195e8e0ebb97aff8fbd881b34322a61c95e", func := "loop.example/g00072/laws.FnApart", spec := "fnApart", unfollowed := true, recurses := true, apart := false }
def FnApartSaid : Prop := fnApartRow.holds Try.pinned (OpenSpec.ofChange fnApartSpec)

/-- ITS FALSE NEIGHBOUR: 'it returns false'. Refute it at one input. -/
def fnApartWrong : ChangeSpec := { name := "fnApart", fn := fun _ => fun
  | [d] => { results := [.lit (.bool false)], args := [d] }
  | _ => none }
def FnApartWrongFalsely : Prop := fnApartRow.holds Try.pinned (OpenSpec.ofChange fnApartWrong)

/-- 'laws.FnNextOwn': WHATEVER THE INPUT: true; the input reads as it did. -/
def fnNextOwnSpec : ChangeSpec := { name := "fnNextOwn", fn := fun _ => fun
  | [d] => { results := [.lit (.bool true)], args := [d] }
  | _ => none }
def fnNextOwnRow : OpenClaim := { program := "ytakcaiigkdglhaa", sum := "82dcec6437287d407aa5397a59e6f195e8e0ebb97aff8fbd881b34322a61c95e", func := "loop.example/g00072/laws.FnNextOwn", spec := "fnNextOwn", unfollowed := true, recurses := true, apart := false }
def FnNextOwnSaid : Prop := fnNextOwnRow.holds Try.pinned (OpenSpec.ofChange fnNextOwnSpec)

/-- ITS FALSE NEIGHBOUR: 'it returns false'. Refute it at one input. -/
def fnNextOwnWrong : ChangeSpec := { name := "fnNextOwn", fn := fun _ => fun
  | [d] => { results := [.lit (.bool false)], args := [d] }
  | _ => none }
def FnNextOwnWrongFalsely : Prop := fnNextOwnRow.holds Try.pinned (OpenSpec.ofChange fnNextOwnWrong)

/- THE SECOND FORM. 'bulk': how many values and letters a reading holds, each counted each time it is reached (what is shared counts as often as it is met; a slice's spare places count too). A statement '..UptoSaid' is the law's where the arguments, and the package variables that the reading takes, are together of bulk at most 1048576: NARROWER than '..Said'. Prove '..Said' where nothing that the law and all that it calls make is longer than what came in: it says more and counts as full. Else prove '..UptoSaid'. A law counts once. -/
mutual
def uptoBulk {H : Type} : DataW H → Nat
  | .lit (.string bytes) => bytes.length + 1
  | .lit _ => 1
  | .nil => 1
  | .ptr d => uptoBulk d + 1
  | .slice elems spare => uptoBulkAll elems + uptoBulkAll spare + 1
  | .agg parts => uptoBulkAll parts + 1
  | .iface _ d => uptoBulk d + 1
  | .map entries => uptoBulkEntries entries + 1
  | .held _ => 1
def uptoBulkAll {H : Type} : List (DataW H) → Nat
  | [] => 0
  | d :: r => uptoBulk d + uptoBulkAll r
def uptoBulkEntries {H : Type} : List (Lit × DataW H) → Nat
  | [] => 0
  | x :: r => uptoBulkEntry x + uptoBulkEntries r
def uptoBulkEntry {H : Type} : Lit × DataW H → Nat
  | (.string bytes, d) => bytes.length + uptoBulk d + 1
  | (_, d) => uptoBulk d + 1
 end
def uptoSmall : (H : Type) → List (DataW H) → Bool := fun _ ds => decide (uptoBulkAll ds ≤ 1048576)
def OpenSpec.upto (s : _root_.Go.ChangeSpec) : _root_.Go.OpenSpec := { _root_.Go.OpenSpec.ofChange s with cond := some uptoSmall }

/-- 'laws.FnExactRoundOf', WHERE WHAT IT READS IS OF BULK AT MOST 1048576: true; the input reads as it did. -/
def fnExactRoundOfUptoRow : OpenClaim := { program := "ytakcaiigkdglhaa", sum := "82dcec6437287d407aa5397a59e6f195e8e0ebb97aff8fbd881b34322a61c95e", func := "loop.example/g00072/laws.FnExactRoundOf", spec := "fnExactRoundOf", unfollowed := true, recurses := true, apart := false, narrowed := true }
def FnExactRoundOfUptoSaid : Prop := fnExactRoundOfUptoRow.holds Try.pinned (OpenSpec.upto fnExactRoundOfSpec)

/-- 'laws.FnExactSlotFrom', WHERE WHAT IT READS IS OF BULK AT MOST 1048576: true; the input reads as it did. -/
def fnExactSlotFromUptoRow : OpenClaim := { program := "ytakcaiigkdglhaa", sum := "82dcec6437287d407aa5397a59e6f195e8e0ebb97aff8fbd881b34322a61c95e", func := "loop.example/g00072/laws.FnExactSlotFrom", spec := "fnExactSlotFrom", unfollowed := true, recurses := true, apart := false, narrowed := true }
def FnExactSlotFromUptoSaid : Prop := fnExactSlotFromUptoRow.holds Try.pinned (OpenSpec.upto fnExactSlotFromSpec)

/-- 'laws.FnExactPlanMoved', WHERE WHAT IT READS IS OF BULK AT MOST 1048576: true; the input reads as it did. -/
def fnExactPlanMovedUptoRow : OpenClaim := { program := "ytakcaiigkdglhaa", sum := "82dcec6437287d407aa5397a59e6f195e8e0ebb97aff8fbd881b34322a61c95e", func := "loop.example/g00072/laws.FnExactPlanMoved", spec := "fnExactPlanMoved", unfollowed := true, recurses := true, apart := false, narrowed := true }
def FnExactPlanMovedUptoSaid : Prop := fnExactPlanMovedUptoRow.holds Try.pinned (OpenSpec.upto fnExactPlanMovedSpec)

/-- 'laws.FnExactOccurrence', WHERE WHAT IT READS IS OF BULK AT MOST 1048576: true; the input reads as it did. -/
def fnExactOccurrenceUptoRow : OpenClaim := { program := "ytakcaiigkdglhaa", sum := "82dcec6437287d407aa5397a59e6f195e8e0ebb97aff8fbd881b34322a61c95e", func := "loop.example/g00072/laws.FnExactOccurrence", spec := "fnExactOccurrence", unfollowed := true, recurses := true, apart := false, narrowed := true }
def FnExactOccurrenceUptoSaid : Prop := fnExactOccurrenceUptoRow.holds Try.pinned (OpenSpec.upto fnExactOccurrenceSpec)

/-- 'laws.FnExactSlotAt', WHERE WHAT IT READS IS OF BULK AT MOST 1048576: true; the input reads as it did. -/
def fnExactSlotAtUptoRow : OpenClaim := { program := "ytakcaiigkdglhaa", sum := "82dcec6437287d407aa5397a59e6f195e8e0ebb97aff8fbd881b34322a61c95e", func := "loop.example/g00072/laws.FnExactSlotAt", spec := "fnExactSlotAt", unfollowed := true, recurses := true, apart := false, narrowed := true }
def FnExactSlotAtUptoSaid : Prop := fnExactSlotAtUptoRow.holds Try.pinned (OpenSpec.upto fnExactSlotAtSpec)

/-- 'laws.FnExactInSlot', WHERE WHAT IT READS IS OF BULK AT MOST 1048576: true; the input reads as it did. -/
def fnExactInSlotUptoRow : OpenClaim := { program := "ytakcaiigkdglhaa", sum := "82dcec6437287d407aa5397a59e6f195e8e0ebb97aff8fbd881b34322a61c95e", func := "loop.example/g00072/laws.FnExactInSlot", spec := "fnExactInSlot", unfollowed := true, recurses := true, apart := false, narrowed := true }
def FnExactInSlotUptoSaid : Prop := fnExactInSlotUptoRow.holds Try.pinned (OpenSpec.upto fnExactInSlotSpec)

/-- 'laws.FnExactNextOwn', WHERE WHAT IT READS IS OF BULK AT MOST 1048576: true; the input reads as it did. -/
def fnExactNextOwnUptoRow : OpenClaim := { program := "ytakcaiigkdglhaa", sum := "82dcec6437287d407aa5397a59e6f195e8e0ebb97aff8fbd881b34322a61c95e", func := "loop.example/g00072/laws.FnExactNextOwn", spec := "fnExactNextOwn", unfollowed := true, recurses := true, apart := false, narrowed := true }
def FnExactNextOwnUptoSaid : Prop := fnExactNextOwnUptoRow.holds Try.pinned (OpenSpec.upto fnExactNextOwnSpec)

/-- 'laws.FnExactShareOf', WHERE WHAT IT READS IS OF BULK AT MOST 1048576: true; the input reads as it did. -/
def fnExactShareOfUptoRow : OpenClaim := { program := "ytakcaiigkdglhaa", sum := "82dcec6437287d407aa5397a59e6f195e8e0ebb97aff8fbd881b34322a61c95e", func := "loop.example/g00072/laws.FnExactShareOf", spec := "fnExactShareOf", unfollowed := true, recurses := true, apart := false, narrowed := true }
def FnExactShareOfUptoSaid : Prop := fnExactShareOfUptoRow.holds Try.pinned (OpenSpec.upto fnExactShareOfSpec)

/-- 'laws.FnApart', WHERE WHAT IT READS IS OF BULK AT MOST 1048576: true; the input reads as it did. -/
def fnApartUptoRow : OpenClaim := { program := "ytakcaiigkdglhaa", sum := "82dcec6437287d407aa5397a59e6f195e8e0ebb97aff8fbd881b34322a61c95e", func := "loop.example/g00072/laws.FnApart", spec := "fnApart", unfollowed := true, recurses := true, apart := false, narrowed := true }
def FnApartUptoSaid : Prop := fnApartUptoRow.holds Try.pinned (OpenSpec.upto fnApartSpec)

/-- 'laws.FnNextOwn', WHERE WHAT IT READS IS OF BULK AT MOST 1048576: true; the input reads as it did. -/
def fnNextOwnUptoRow : OpenClaim := { program := "ytakcaiigkdglhaa", sum := "82dcec6437287d407aa5397a59e6f195e8e0ebb97aff8fbd881b34322a61c95e", func := "loop.example/g00072/laws.FnNextOwn", spec := "fnNextOwn", unfollowed := true, recurses := true, apart := false, narrowed := true }
def FnNextOwnUptoSaid : Prop := fnNextOwnUptoRow.holds Try.pinned (OpenSpec.upto fnNextOwnSpec)

end Rows
end Go.Proofs.Ytakcaiigkdglhaa
