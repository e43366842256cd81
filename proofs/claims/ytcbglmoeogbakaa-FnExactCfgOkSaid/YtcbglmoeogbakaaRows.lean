/-
  No cell of these rows narrows 'for every input' (looked for: loops, veiled, ifaces, maps, wideKeys, modest, calm, conditions, laid).
  DERIVED. THE GIVEN ROWS OF THIS SEAT. 5 by the template 'for every input the law returns true; each argument reads behind the call as it read before'; 0 by the template 'total and deterministic' (their statements: YtcbglmoeogbakaaTotals.lean).
  GIVEN WITH THE SEED: the statements are not yours to turn. If you find one false, say at which input.
  Laid BY PROGRAM, IN A SANDBOX (cutbox-rows.mjs): the forced cells as the released guide's own fill.sh prints them over the translation 269ae2f2cc0668fe… (all of the seat's roots in one cut). By AI agents, Wed Nov 11 2026. No macro, syntax, notation, axiom, sorry.
-/
import Derived.Test.YtcbglmoeogbakaaChecked
import GoSem.Claim
import GoSem.ClaimJoined
import GoSem.ClaimMapViews
import Derived.JoinedTies
import Derived.KernelRfl
namespace Go.Proofs.Ytcbglmoeogbakaa
/- THE CELL 'sum', in the pinned program and in every row, IS THE sha256 OF THE DUMP (.gsa) THAT YtcbglmoeogbakaaProg.lean LOADS. Nothing in Lean hashes anything: it is a label: what it is worth is what the hold of that sum in a sandbox is worth. -/
noncomputable def Try.pinned : Pinned := { name := "ytcbglmoeogbakaa", sum := "269ae2f2cc0668feb73b05fa3283ff0979ecbb3f31e8edeb277ccda22b84d909", checked := Try.checked }
namespace Rows
def none {H : Type} : Left H := { results := [], args := [] }

/-- 'laws.FnExactOwnersOf': WHATEVER THE INPUT: true; the input reads as it did. -/
def fnExactOwnersOfSpec : ChangeSpec := { name := "fnExactOwnersOf", fn := fun _ => fun
  | [d] => { results := [.lit (.bool true)], args := [d] }
  | _ => none }
def fnExactOwnersOfRow : OpenClaim := { program := "ytcbglmoeogbakaa", sum := "269ae2f2cc0668feb73b05fa3283ff0979ecbb3f31e8edeb277ccda22b84d909", func := "loop.example/g00072/laws.FnExactOwnersOf", spec := "fnExactOwnersOf", unfollowed := true, recurses := true, apart := false }
def FnExactOwnersOfSaid : Prop := fnExactOwnersOfRow.holds Try.pinned (OpenSpec.ofChange fnExactOwnersOfSpec)

/-- ITS FALSE NEIGHBOUR: 'it returns false'. Refute it at one input. -/
def fnExactOwnersOfWrong : ChangeSpec := { name := "fnExactOwnersOf", fn := fun _ => fun
  | [d] => { results := [.lit (.bool false)], args := [d] }
  | _ => none }
def FnExactOwnersOfWrongFalsely : Prop := fnExactOwnersOfRow.holds Try.pinned (OpenSpec.ofChange fnExactOwnersOfWrong)

/-- 'laws.FnShares': WHATEVER THE INPUT: true; the input reads as it did. -/
def fnSharesSpec : ChangeSpec := { name := "fnShares", fn := fun _ => fun
  | [d] => { results := [.lit (.bool true)], args := [d] }
  | _ => none }
def fnSharesRow : OpenClaim := { program := "ytcbglmoeogbakaa", sum := "269ae2f2cc0668feb73b05fa3283ff0979ecbb3f31e8edeb277ccda22b84d909", func := "loop.example/g00072/laws.FnShares", spec := "fnShares", unfollowed := true, recurses := true, apart := false }
def FnSharesSaid : Prop := fnSharesRow.holds Try.pinned (OpenSpec.ofChange fnSharesSpec)

/-- ITS FALSE NEIGHBOUR: 'it returns false'. Refute it at one input. -/
def fnSharesWrong : ChangeSpec := { name := "fnShares", fn := fun _ => fun
  | [d] => { results := [.lit (.bool false)], args := [d] }
  | _ => none }
def FnSharesWrongFalsely : Prop := fnSharesRow.holds Try.pinned (OpenSpec.ofChange fnSharesWrong)

/-- 'laws.FnExactBusStray': WHATEVER THE INPUT: true; the input reads as it did. -/
def fnExactBusStraySpec : ChangeSpec := { name := "fnExactBusStray", fn := fun _ => fun
  | [d1, d2] => { results := [.lit (.bool true)], args := [d1, d2] }
  | _ => none }
def fnExactBusStrayRow : OpenClaim := { program := "ytcbglmoeogbakaa", sum := "269ae2f2cc0668feb73b05fa3283ff0979ecbb3f31e8edeb277ccda22b84d909", func := "loop.example/g00072/laws.FnExactBusStray", spec := "fnExactBusStray", unfollowed := true, recurses := true, apart := false }
def FnExactBusStraySaid : Prop := fnExactBusStrayRow.holds Try.pinned (OpenSpec.ofChange fnExactBusStraySpec)

/-- ITS FALSE NEIGHBOUR: 'it returns false'. Refute it at one input. -/
def fnExactBusStrayWrong : ChangeSpec := { name := "fnExactBusStray", fn := fun _ => fun
  | [d1, d2] => { results := [.lit (.bool false)], args := [d1, d2] }
  | _ => none }
def FnExactBusStrayWrongFalsely : Prop := fnExactBusStrayRow.holds Try.pinned (OpenSpec.ofChange fnExactBusStrayWrong)

/-- 'laws.FnOwnSlots': WHATEVER THE INPUT: true; the input reads as it did. -/
def fnOwnSlotsSpec : ChangeSpec := { name := "fnOwnSlots", fn := fun _ => fun
  | [d] => { results := [.lit (.bool true)], args := [d] }
  | _ => none }
def fnOwnSlotsRow : OpenClaim := { program := "ytcbglmoeogbakaa", sum := "269ae2f2cc0668feb73b05fa3283ff0979ecbb3f31e8edeb277ccda22b84d909", func := "loop.example/g00072/laws.FnOwnSlots", spec := "fnOwnSlots", unfollowed := true, recurses := true, apart := false }
def FnOwnSlotsSaid : Prop := fnOwnSlotsRow.holds Try.pinned (OpenSpec.ofChange fnOwnSlotsSpec)

/-- ITS FALSE NEIGHBOUR: 'it returns false'. Refute it at one input. -/
def fnOwnSlotsWrong : ChangeSpec := { name := "fnOwnSlots", fn := fun _ => fun
  | [d] => { results := [.lit (.bool false)], args := [d] }
  | _ => none }
def FnOwnSlotsWrongFalsely : Prop := fnOwnSlotsRow.holds Try.pinned (OpenSpec.ofChange fnOwnSlotsWrong)

/-- 'laws.FnExactCfgOk': WHATEVER THE INPUT: true; the input reads as it did. -/
def fnExactCfgOkSpec : ChangeSpec := { name := "fnExactCfgOk", fn := fun _ => fun
  | [d] => { results := [.lit (.bool true)], args := [d] }
  | _ => none }
def fnExactCfgOkRow : OpenClaim := { program := "ytcbglmoeogbakaa", sum := "269ae2f2cc0668feb73b05fa3283ff0979ecbb3f31e8edeb277ccda22b84d909", func := "loop.example/g00072/laws.FnExactCfgOk", spec := "fnExactCfgOk", unfollowed := true, recurses := true, apart := false }
def FnExactCfgOkSaid : Prop := fnExactCfgOkRow.holds Try.pinned (OpenSpec.ofChange fnExactCfgOkSpec)

/-- ITS FALSE NEIGHBOUR: 'it returns false'. Refute it at one input. -/
def fnExactCfgOkWrong : ChangeSpec := { name := "fnExactCfgOk", fn := fun _ => fun
  | [d] => { results := [.lit (.bool false)], args := [d] }
  | _ => none }
def FnExactCfgOkWrongFalsely : Prop := fnExactCfgOkRow.holds Try.pinned (OpenSpec.ofChange fnExactCfgOkWrong)

/- THE SECOND FORM. 'bulk': how many values and letters a reading holds, each counted each time it is reached (what is shared counts as often as it is met; a slice's spare places count too). A statement '..UptoSaid' is the law's where the arguments, and the package variables that the reading takes, are together of bulk at most 1048576: NARROWER than '..Said'. Prove '..Said' where nothing that the law and all that it calls make is longer than what came in: it says more and counts as full. Else prove '..UptoSaid'. A law counts once. -/
mutual
def uptoBulk {H : Type} : DataW H → Nat
  | .lit (.string bytes) => bytes.length + 1
  | .lit _ => 1
  | .nil => 1
  | .ptr d => uptoBulk d + 1
  | .slice elems spare => uptoBulkAll elems + uptoBulkAll spare + 1
  | .agg parts => uptoBulkAll parts + 1
  | .iface _ d => uptoBulk d + 1
  | .map entries => uptoBulkEntries entries + 1
  | .held _ => 1
def uptoBulkAll {H : Type} : List (DataW H) → Nat
  | [] => 0
  | d :: r => uptoBulk d + uptoBulkAll r
def uptoBulkEntries {H : Type} : List (Lit × DataW H) → Nat
  | [] => 0
  | x :: r => uptoBulkEntry x + uptoBulkEntries r
def uptoBulkEntry {H : Type} : Lit × DataW H → Nat
  | (.string bytes, d) => bytes.length + uptoBulk d + 1
  | (_, d) => uptoBulk d + 1
 end
def uptoSmall : (H : Type) → List (DataW H) → Bool := fun _ ds => decide (uptoBulkAll ds ≤ 1048576)
def OpenSpec.upto (s : _root_.Go.ChangeSpec) : _root_.Go.OpenSpec := { _root_.Go.OpenSpec.ofChange s with cond := some uptoSmall }

/-- 'laws.FnExactOwnersOf', WHERE WHAT IT READS IS OF BULK AT MOST 1048576: true; the input reads as it did. -/
def fnExactOwnersOfUptoRow : OpenClaim := { program := "ytcbglmoeogbakaa", sum := "269ae2f2cc0668feb73b05fa3283ff0979ecbb3f31e8edeb277ccda22b84d909", func := "loop.example/g00072/laws.FnExactOwnersOf", spec := "fnExactOwnersOf", unfollowed := true, recurses := true, apart := false, narrowed := true }
def FnExactOwnersOfUptoSaid : Prop := fnExactOwnersOfUptoRow.holds Try.pinned (OpenSpec.upto fnExactOwnersOfSpec)

/-- 'laws.FnShares', WHERE WHAT IT READS IS OF BULK AT MOST 1048576: true; the input reads as it did. -/
def fnSharesUptoRow : OpenClaim := { program := "ytcbglmoeogbakaa", sum := "269ae2f2cc0668feb73b05fa3283ff0979ecbb3f31e8edeb277ccda22b84d909", func := "loop.example/g00072/laws.FnShares", spec := "fnShares", unfollowed := true, recurses := true, apart := false, narrowed := true }
def FnSharesUptoSaid : Prop := fnSharesUptoRow.holds Try.pinned (OpenSpec.upto fnSharesSpec)

/-- 'laws.FnExactBusStray', WHERE WHAT IT READS IS OF BULK AT MOST 1048576: true; the input reads as it did. -/
def fnExactBusStrayUptoRow : OpenClaim := { program := "ytcbglmoeogbakaa", sum := "269ae2f2cc0668feb73b05fa3283ff0979ecbb3f31e8edeb277ccda22b84d909", func := "loop.example/g00072/laws.FnExactBusStray", spec := "fnExactBusStray", unfollowed := true, recurses := true, apart := false, narrowed := true }
def FnExactBusStrayUptoSaid : Prop := fnExactBusStrayUptoRow.holds Try.pinned (OpenSpec.upto fnExactBusStraySpec)

/-- 'laws.FnOwnSlots', WHERE WHAT IT READS IS OF BULK AT MOST 1048576: true; the input reads as it did. -/
def fnOwnSlotsUptoRow : OpenClaim := { program := "ytcbglmoeogbakaa", sum := "269ae2f2cc0668feb73b05fa3283ff0979ecbb3f31e8edeb277ccda22b84d909", func := "loop.example/g00072/laws.FnOwnSlots", spec := "fnOwnSlots", unfollowed := true, recurses := true, apart := false, narrowed := true }
def FnOwnSlotsUptoSaid : Prop := fnOwnSlotsUptoRow.holds Try.pinned (OpenSpec.upto fnOwnSlotsSpec)

/-- 'laws.FnExactCfgOk', WHERE WHAT IT READS IS OF BULK AT MOST 1048576: true; the input reads as it did. -/
def fnExactCfgOkUptoRow : OpenClaim := { program := "ytcbglmoeogbakaa", sum := "269ae2f2cc0668feb73b05fa3283ff0979ecbb3f31e8edeb277ccda22b84d909", func := "loop.example/g00072/laws.FnExactCfgOk", spec := "fnExactCfgOk", unfollowed := true, recurses := true, apart := false, narrowed := true }
def FnExactCfgOkUptoSaid : Prop := fnExactCfgOkUptoRow.holds Try.pinned (OpenSpec.upto fnExactCfgOkSpec)

end Rows
end Go.Proofs.Ytcbglmoeogbakaa
