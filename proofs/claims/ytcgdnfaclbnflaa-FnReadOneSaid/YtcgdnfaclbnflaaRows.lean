/-
  No cell of these rows narrows 'for every input' (looked for: loops, veiled, ifaces, maps, wideKeys, modest, calm, conditions, laid).
  DERIVED. THE GIVEN ROWS OF THIS SEAT. 8 by the template 'for every input the law returns true; each argument reads behind the call as it read before'; 0 by the template 'total and deterministic' (their statements: YtcgdnfaclbnflaaTotals.lean).
  GIVEN WITH THE SEED: the statements are not yours to turn. If you find one false, say at which input.
  Laid BY PROGRAM, IN A SANDBOX (cutbox-rows.mjs): the forced cells as the released guide's own fill.sh prints them over the translation 40c62caf18237331… (all of the seat's roots in one cut). By AI agents, Wed Nov 11 2026. No macro, syntax, notation, axiom, sorry.
-/
import Derived.Test.YtcgdnfaclbnflaaChecked
import GoSem.Claim
import GoSem.ClaimJoined
import GoSem.ClaimMapViews
import Derived.JoinedTies
import Derived.KernelRfl
namespace Go.Proofs.Ytcgdnfaclbnflaa
/- THE CELL 'sum', in the pinned program and in every row, IS THE sha256 OF THE DUMP (.gsa) THAT YtcgdnfaclbnflaaProg.lean LOADS. Nothing in Lean hashes anything: it is a label: what it is worth is what the hold of that sum in a sandbox is worth. -/
noncomputable def Try.pinned : Pinned := { name := "ytcgdnfaclbnflaa", sum := "40c62caf1823733189c4b54461a7159f9a5a0cbf32a7d67c0bfd225c8eed6dd7", checked := Try.checked }
namespace Rows
def none {H : Type} : Left H := { results := [], args := [] }

/-- 'laws.FnExactLifeStep': WHATEVER THE INPUT: true; the input reads as it did. -/
def fnExactLifeStepSpec : ChangeSpec := { name := "fnExactLifeStep", fn := fun _ => fun
  | [d1, d2] => { results := [.lit (.bool true)], args := [d1, d2] }
  | _ => none }
def fnExactLifeStepRow : OpenClaim := { program := "ytcgdnfaclbnflaa", sum := "40c62caf1823733189c4b54461a7159f9a5a0cbf32a7d67c0bfd225c8eed6dd7", func := "loop.example/g00072/laws.FnExactLifeStep", spec := "fnExactLifeStep", apart := false }
def FnExactLifeStepSaid : Prop := fnExactLifeStepRow.holds Try.pinned (OpenSpec.ofChange fnExactLifeStepSpec)

/-- ITS FALSE NEIGHBOUR: 'it returns false'. Refute it at one input. -/
def fnExactLifeStepWrong : ChangeSpec := { name := "fnExactLifeStep", fn := fun _ => fun
  | [d1, d2] => { results := [.lit (.bool false)], args := [d1, d2] }
  | _ => none }
def FnExactLifeStepWrongFalsely : Prop := fnExactLifeStepRow.holds Try.pinned (OpenSpec.ofChange fnExactLifeStepWrong)

/-- 'laws.FnExactLifeRun': WHATEVER THE INPUT: true; the input reads as it did. -/
def fnExactLifeRunSpec : ChangeSpec := { name := "fnExactLifeRun", fn := fun _ => fun
  | [d1, d2] => { results := [.lit (.bool true)], args := [d1, d2] }
  | _ => none }
def fnExactLifeRunRow : OpenClaim := { program := "ytcgdnfaclbnflaa", sum := "40c62caf1823733189c4b54461a7159f9a5a0cbf32a7d67c0bfd225c8eed6dd7", func := "loop.example/g00072/laws.FnExactLifeRun", spec := "fnExactLifeRun", apart := false }
def FnExactLifeRunSaid : Prop := fnExactLifeRunRow.holds Try.pinned (OpenSpec.ofChange fnExactLifeRunSpec)

/-- ITS FALSE NEIGHBOUR: 'it returns false'. Refute it at one input. -/
def fnExactLifeRunWrong : ChangeSpec := { name := "fnExactLifeRun", fn := fun _ => fun
  | [d1, d2] => { results := [.lit (.bool false)], args := [d1, d2] }
  | _ => none }
def FnExactLifeRunWrongFalsely : Prop := fnExactLifeRunRow.holds Try.pinned (OpenSpec.ofChange fnExactLifeRunWrong)

/-- 'laws.FnEpochs': WHATEVER THE INPUT: true; the input reads as it did. -/
def fnEpochsSpec : ChangeSpec := { name := "fnEpochs", fn := fun _ => fun
  | [d] => { results := [.lit (.bool true)], args := [d] }
  | _ => none }
def fnEpochsRow : OpenClaim := { program := "ytcgdnfaclbnflaa", sum := "40c62caf1823733189c4b54461a7159f9a5a0cbf32a7d67c0bfd225c8eed6dd7", func := "loop.example/g00072/laws.FnEpochs", spec := "fnEpochs", apart := false }
def FnEpochsSaid : Prop := fnEpochsRow.holds Try.pinned (OpenSpec.ofChange fnEpochsSpec)

/-- ITS FALSE NEIGHBOUR: 'it returns false'. Refute it at one input. -/
def fnEpochsWrong : ChangeSpec := { name := "fnEpochs", fn := fun _ => fun
  | [d] => { results := [.lit (.bool false)], args := [d] }
  | _ => none }
def FnEpochsWrongFalsely : Prop := fnEpochsRow.holds Try.pinned (OpenSpec.ofChange fnEpochsWrong)

/-- 'laws.FnExactOpOk': WHATEVER THE INPUT: true; the input reads as it did. -/
def fnExactOpOkSpec : ChangeSpec := { name := "fnExactOpOk", fn := fun _ => fun
  | [d] => { results := [.lit (.bool true)], args := [d] }
  | _ => none }
def fnExactOpOkRow : OpenClaim := { program := "ytcgdnfaclbnflaa", sum := "40c62caf1823733189c4b54461a7159f9a5a0cbf32a7d67c0bfd225c8eed6dd7", func := "loop.example/g00072/laws.FnExactOpOk", spec := "fnExactOpOk", unfollowed := true, recurses := true, apart := false }
def FnExactOpOkSaid : Prop := fnExactOpOkRow.holds Try.pinned (OpenSpec.ofChange fnExactOpOkSpec)

/-- ITS FALSE NEIGHBOUR: 'it returns false'. Refute it at one input. -/
def fnExactOpOkWrong : ChangeSpec := { name := "fnExactOpOk", fn := fun _ => fun
  | [d] => { results := [.lit (.bool false)], args := [d] }
  | _ => none }
def FnExactOpOkWrongFalsely : Prop := fnExactOpOkRow.holds Try.pinned (OpenSpec.ofChange fnExactOpOkWrong)

/-- 'laws.FnExactAppRun': WHATEVER THE INPUT: true; the input reads as it did. -/
def fnExactAppRunSpec : ChangeSpec := { name := "fnExactAppRun", fn := fun _ => fun
  | [d1, d2] => { results := [.lit (.bool true)], args := [d1, d2] }
  | _ => none }
def fnExactAppRunRow : OpenClaim := { program := "ytcgdnfaclbnflaa", sum := "40c62caf1823733189c4b54461a7159f9a5a0cbf32a7d67c0bfd225c8eed6dd7", func := "loop.example/g00072/laws.FnExactAppRun", spec := "fnExactAppRun", apart := false }
def FnExactAppRunSaid : Prop := fnExactAppRunRow.holds Try.pinned (OpenSpec.ofChange fnExactAppRunSpec)

/-- ITS FALSE NEIGHBOUR: 'it returns false'. Refute it at one input. -/
def fnExactAppRunWrong : ChangeSpec := { name := "fnExactAppRun", fn := fun _ => fun
  | [d1, d2] => { results := [.lit (.bool false)], args := [d1, d2] }
  | _ => none }
def FnExactAppRunWrongFalsely : Prop := fnExactAppRunRow.holds Try.pinned (OpenSpec.ofChange fnExactAppRunWrong)

/-- 'laws.FnReadings': WHATEVER THE INPUT: true; the input reads as it did. -/
def fnReadingsSpec : ChangeSpec := { name := "fnReadings", fn := fun _ => fun
  | [d] => { results := [.lit (.bool true)], args := [d] }
  | _ => none }
def fnReadingsRow : OpenClaim := { program := "ytcgdnfaclbnflaa", sum := "40c62caf1823733189c4b54461a7159f9a5a0cbf32a7d67c0bfd225c8eed6dd7", func := "loop.example/g00072/laws.FnReadings", spec := "fnReadings", apart := false }
def FnReadingsSaid : Prop := fnReadingsRow.holds Try.pinned (OpenSpec.ofChange fnReadingsSpec)

/-- ITS FALSE NEIGHBOUR: 'it returns false'. Refute it at one input. -/
def fnReadingsWrong : ChangeSpec := { name := "fnReadings", fn := fun _ => fun
  | [d] => { results := [.lit (.bool false)], args := [d] }
  | _ => none }
def FnReadingsWrongFalsely : Prop := fnReadingsRow.holds Try.pinned (OpenSpec.ofChange fnReadingsWrong)

/-- 'laws.FnReadOne': WHATEVER THE INPUT: true; the input reads as it did. -/
def fnReadOneSpec : ChangeSpec := { name := "fnReadOne", fn := fun _ => fun
  | [d] => { results := [.lit (.bool true)], args := [d] }
  | _ => none }
def fnReadOneRow : OpenClaim := { program := "ytcgdnfaclbnflaa", sum := "40c62caf1823733189c4b54461a7159f9a5a0cbf32a7d67c0bfd225c8eed6dd7", func := "loop.example/g00072/laws.FnReadOne", spec := "fnReadOne", apart := false }
def FnReadOneSaid : Prop := fnReadOneRow.holds Try.pinned (OpenSpec.ofChange fnReadOneSpec)

/-- ITS FALSE NEIGHBOUR: 'it returns false'. Refute it at one input. -/
def fnReadOneWrong : ChangeSpec := { name := "fnReadOne", fn := fun _ => fun
  | [d] => { results := [.lit (.bool false)], args := [d] }
  | _ => none }
def FnReadOneWrongFalsely : Prop := fnReadOneRow.holds Try.pinned (OpenSpec.ofChange fnReadOneWrong)

/-- 'laws.FnExactNetSend': WHATEVER THE INPUT: true; the input reads as it did. -/
def fnExactNetSendSpec : ChangeSpec := { name := "fnExactNetSend", fn := fun _ => fun
  | [d1, d2, d3, d4, d5] => { results := [.lit (.bool true)], args := [d1, d2, d3, d4, d5] }
  | _ => none }
def fnExactNetSendRow : OpenClaim := { program := "ytcgdnfaclbnflaa", sum := "40c62caf1823733189c4b54461a7159f9a5a0cbf32a7d67c0bfd225c8eed6dd7", func := "loop.example/g00072/laws.FnExactNetSend", spec := "fnExactNetSend", apart := false }
def FnExactNetSendSaid : Prop := fnExactNetSendRow.holds Try.pinned (OpenSpec.ofChange fnExactNetSendSpec)

/-- ITS FALSE NEIGHBOUR: 'it returns false'. Refute it at one input. -/
def fnExactNetSendWrong : ChangeSpec := { name := "fnExactNetSend", fn := fun _ => fun
  | [d1, d2, d3, d4, d5] => { results := [.lit (.bool false)], args := [d1, d2, d3, d4, d5] }
  | _ => none }
def FnExactNetSendWrongFalsely : Prop := fnExactNetSendRow.holds Try.pinned (OpenSpec.ofChange fnExactNetSendWrong)

/- THE SECOND FORM. 'bulk': how many values and letters a reading holds, each counted each time it is reached (what is shared counts as often as it is met; a slice's spare places count too). A statement '..UptoSaid' is the law's where the arguments, and the package variables that the reading takes, are together of bulk at most 1048576: NARROWER than '..Said'. Prove '..Said' where nothing that the law and all that it calls make is longer than what came in: it says more and counts as full. Else prove '..UptoSaid'. A law counts once. -/
mutual
def uptoBulk {H : Type} : DataW H → Nat
  | .lit (.string bytes) => bytes.length + 1
  | .lit _ => 1
  | .nil => 1
  | .ptr d => uptoBulk d + 1
  | .slice elems spare => uptoBulkAll elems + uptoBulkAll spare + 1
  | .agg parts => uptoBulkAll parts + 1
  | .iface _ d => uptoBulk d + 1
  | .map entries => uptoBulkEntries entries + 1
  | .held _ => 1
def uptoBulkAll {H : Type} : List (DataW H) → Nat
  | [] => 0
  | d :: r => uptoBulk d + uptoBulkAll r
def uptoBulkEntries {H : Type} : List (Lit × DataW H) → Nat
  | [] => 0
  | x :: r => uptoBulkEntry x + uptoBulkEntries r
def uptoBulkEntry {H : Type} : Lit × DataW H → Nat
  | (.string bytes, d) => bytes.length + uptoBulk d + 1
  | (_, d) => uptoBulk d + 1
 end
def uptoSmall : (H : Type) → List (DataW H) → Bool := fun _ ds => decide (uptoBulkAll ds ≤ 1048576)
def OpenSpec.upto (s : _root_.Go.ChangeSpec) : _root_.Go.OpenSpec := { _root_.Go.OpenSpec.ofChange s with cond := some uptoSmall }

/-- 'laws.FnExactLifeStep', WHERE WHAT IT READS IS OF BULK AT MOST 1048576: true; the input reads as it did. -/
def fnExactLifeStepUptoRow : OpenClaim := { program := "ytcgdnfaclbnflaa", sum := "40c62caf1823733189c4b54461a7159f9a5a0cbf32a7d67c0bfd225c8eed6dd7", func := "loop.example/g00072/laws.FnExactLifeStep", spec := "fnExactLifeStep", apart := false, narrowed := true }
def FnExactLifeStepUptoSaid : Prop := fnExactLifeStepUptoRow.holds Try.pinned (OpenSpec.upto fnExactLifeStepSpec)

/-- 'laws.FnExactLifeRun', WHERE WHAT IT READS IS OF BULK AT MOST 1048576: true; the input reads as it did. -/
def fnExactLifeRunUptoRow : OpenClaim := { program := "ytcgdnfaclbnflaa", sum := "40c62caf1823733189c4b54461a7159f9a5a0cbf32a7d67c0bfd225c8eed6dd7", func := "loop.example/g00072/laws.FnExactLifeRun", spec := "fnExactLifeRun", apart := false, narrowed := true }
def FnExactLifeRunUptoSaid : Prop := fnExactLifeRunUptoRow.holds Try.pinned (OpenSpec.upto fnExactLifeRunSpec)

/-- 'laws.FnEpochs', WHERE WHAT IT READS IS OF BULK AT MOST 1048576: true; the input reads as it did. -/
def fnEpochsUptoRow : OpenClaim := { program := "ytcgdnfaclbnflaa", sum := "40c62caf1823733189c4b54461a7159f9a5a0cbf32a7d67c0bfd225c8eed6dd7", func := "loop.example/g00072/laws.FnEpochs", spec := "fnEpochs", apart := false, narrowed := true }
def FnEpochsUptoSaid : Prop := fnEpochsUptoRow.holds Try.pinned (OpenSpec.upto fnEpochsSpec)

/-- 'laws.FnExactOpOk', WHERE WHAT IT READS IS OF BULK AT MOST 1048576: true; the input reads as it did. -/
def fnExactOpOkUptoRow : OpenClaim := { program := "ytcgdnfaclbnflaa", sum := "40c62caf1823733189c4b54461a7159f9a5a0cbf32a7d67c0bfd225c8eed6dd7", func := "loop.example/g00072/laws.FnExactOpOk", spec := "fnExactOpOk", unfollowed := true, recurses := true, apart := false, narrowed := true }
def FnExactOpOkUptoSaid : Prop := fnExactOpOkUptoRow.holds Try.pinned (OpenSpec.upto fnExactOpOkSpec)

/-- 'laws.FnExactAppRun', WHERE WHAT IT READS IS OF BULK AT MOST 1048576: true; the input reads as it did. -/
def fnExactAppRunUptoRow : OpenClaim := { program := "ytcgdnfaclbnflaa", sum := "40c62caf1823733189c4b54461a7159f9a5a0cbf32a7d67c0bfd225c8eed6dd7", func := "loop.example/g00072/laws.FnExactAppRun", spec := "fnExactAppRun", apart := false, narrowed := true }
def FnExactAppRunUptoSaid : Prop := fnExactAppRunUptoRow.holds Try.pinned (OpenSpec.upto fnExactAppRunSpec)

/-- 'laws.FnReadings', WHERE WHAT IT READS IS OF BULK AT MOST 1048576: true; the input reads as it did. -/
def fnReadingsUptoRow : OpenClaim := { program := "ytcgdnfaclbnflaa", sum := "40c62caf1823733189c4b54461a7159f9a5a0cbf32a7d67c0bfd225c8eed6dd7", func := "loop.example/g00072/laws.FnReadings", spec := "fnReadings", apart := false, narrowed := true }
def FnReadingsUptoSaid : Prop := fnReadingsUptoRow.holds Try.pinned (OpenSpec.upto fnReadingsSpec)

/-- 'laws.FnReadOne', WHERE WHAT IT READS IS OF BULK AT MOST 1048576: true; the input reads as it did. -/
def fnReadOneUptoRow : OpenClaim := { program := "ytcgdnfaclbnflaa", sum := "40c62caf1823733189c4b54461a7159f9a5a0cbf32a7d67c0bfd225c8eed6dd7", func := "loop.example/g00072/laws.FnReadOne", spec := "fnReadOne", apart := false, narrowed := true }
def FnReadOneUptoSaid : Prop := fnReadOneUptoRow.holds Try.pinned (OpenSpec.upto fnReadOneSpec)

/-- 'laws.FnExactNetSend', WHERE WHAT IT READS IS OF BULK AT MOST 1048576: true; the input reads as it did. -/
def fnExactNetSendUptoRow : OpenClaim := { program := "ytcgdnfaclbnflaa", sum := "40c62caf1823733189c4b54461a7159f9a5a0cbf32a7d67c0bfd225c8eed6dd7", func := "loop.example/g00072/laws.FnExactNetSend", spec := "fnExactNetSend", apart := false, narrowed := true }
def FnExactNetSendUptoSaid : Prop := fnExactNetSendUptoRow.holds Try.pinned (OpenSpec.upto fnExactNetSendSpec)

end Rows
end Go.Proofs.Ytcgdnfaclbnflaa
