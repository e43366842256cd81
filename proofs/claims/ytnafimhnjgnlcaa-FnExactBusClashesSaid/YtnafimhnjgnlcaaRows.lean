/-
  No cell of these rows narrows 'for every input' (looked for: loops, veiled, ifaces, maps, wideKeys, modest, calm, conditions, laid).
  DERIVED. THE GIVEN ROWS OF THIS SEAT. 8 by the template 'for every input the law returns true; each argument reads behind the call as it read before'; 0 by the template 'total and deterministic' (their statements: YtnafimhnjgnlcaaTotals.lean).
  GIVEN WITH THE SEED: the statements are not yours to turn. If you find one false, say at which input.
  Laid BY PROGRAM, IN A SANDBOX (cutbox-rows.mjs): the forced cells as the released guide's own fill.sh prints them over the translation 7ff4f92075f47e1d… (all of the seat's roots in one cut). By AI agents, Wed Nov 11 2026. No macro, syntax, notation, axiom, sorry.
-/
import Derived.Test.YtnafimhnjgnlcaaChecked
import GoSem.Claim
import GoSem.ClaimJoined
import GoSem.ClaimMapViews
import Derived.JoinedTies
import Derived.KernelRfl
namespace Go.Proofs.Ytnafimhnjgnlcaa
/- THE CELL 'sum', in the pinned program and in every row, IS THE sha256 OF THE DUMP (.gsa) THAT YtnafimhnjgnlcaaProg.lean LOADS. Nothing in Lean hashes anything: it is a label: what it is worth is what the hold of that sum in a sandbox is worth. -/
noncomputable def Try.pinned : Pinned := { name := "ytnafimhnjgnlcaa", sum := "7ff4f92075f47e1d15ab360b03cbe228d9de949cd744154ffdb6fbafe322ead1", checked := Try.checked }
namespace Rows
def none {H : Type} : Left H := { results := [], args := [] }

/-- 'laws.FnExactBusLoad': WHATEVER THE INPUT: true; the input reads as it did. -/
def fnExactBusLoadSpec : ChangeSpec := { name := "fnExactBusLoad", fn := fun _ => fun
  | [d1, d2, d3] => { results := [.lit (.bool true)], args := [d1, d2, d3] }
  | _ => none }
def fnExactBusLoadRow : OpenClaim := { program := "ytnafimhnjgnlcaa", sum := "7ff4f92075f47e1d15ab360b03cbe228d9de949cd744154ffdb6fbafe322ead1", func := "loop.example/g00072/laws.FnExactBusLoad", spec := "fnExactBusLoad", apart := false }
def FnExactBusLoadSaid : Prop := fnExactBusLoadRow.holds Try.pinned (OpenSpec.ofChange fnExactBusLoadSpec)

/-- ITS FALSE NEIGHBOUR: 'it returns false'. Refute it at one input. -/
def fnExactBusLoadWrong : ChangeSpec := { name := "fnExactBusLoad", fn := fun _ => fun
  | [d1, d2, d3] => { results := [.lit (.bool false)], args := [d1, d2, d3] }
  | _ => none }
def FnExactBusLoadWrongFalsely : Prop := fnExactBusLoadRow.holds Try.pinned (OpenSpec.ofChange fnExactBusLoadWrong)

/-- 'laws.FnExactBusOf': WHATEVER THE INPUT: true; the input reads as it did. -/
def fnExactBusOfSpec : ChangeSpec := { name := "fnExactBusOf", fn := fun _ => fun
  | [d1, d2] => { results := [.lit (.bool true)], args := [d1, d2] }
  | _ => none }
def fnExactBusOfRow : OpenClaim := { program := "ytnafimhnjgnlcaa", sum := "7ff4f92075f47e1d15ab360b03cbe228d9de949cd744154ffdb6fbafe322ead1", func := "loop.example/g00072/laws.FnExactBusOf", spec := "fnExactBusOf", unfollowed := true, recurses := true, apart := false }
def FnExactBusOfSaid : Prop := fnExactBusOfRow.holds Try.pinned (OpenSpec.ofChange fnExactBusOfSpec)

/-- ITS FALSE NEIGHBOUR: 'it returns false'. Refute it at one input. -/
def fnExactBusOfWrong : ChangeSpec := { name := "fnExactBusOf", fn := fun _ => fun
  | [d1, d2] => { results := [.lit (.bool false)], args := [d1, d2] }
  | _ => none }
def FnExactBusOfWrongFalsely : Prop := fnExactBusOfRow.holds Try.pinned (OpenSpec.ofChange fnExactBusOfWrong)

/-- 'laws.FnExactBusPut': WHATEVER THE INPUT: true; the input reads as it did. -/
def fnExactBusPutSpec : ChangeSpec := { name := "fnExactBusPut", fn := fun _ => fun
  | [d1, d2] => { results := [.lit (.bool true)], args := [d1, d2] }
  | _ => none }
def fnExactBusPutRow : OpenClaim := { program := "ytnafimhnjgnlcaa", sum := "7ff4f92075f47e1d15ab360b03cbe228d9de949cd744154ffdb6fbafe322ead1", func := "loop.example/g00072/laws.FnExactBusPut", spec := "fnExactBusPut", apart := false }
def FnExactBusPutSaid : Prop := fnExactBusPutRow.holds Try.pinned (OpenSpec.ofChange fnExactBusPutSpec)

/-- ITS FALSE NEIGHBOUR: 'it returns false'. Refute it at one input. -/
def fnExactBusPutWrong : ChangeSpec := { name := "fnExactBusPut", fn := fun _ => fun
  | [d1, d2] => { results := [.lit (.bool false)], args := [d1, d2] }
  | _ => none }
def FnExactBusPutWrongFalsely : Prop := fnExactBusPutRow.holds Try.pinned (OpenSpec.ofChange fnExactBusPutWrong)

/-- 'laws.FnExactBusHeard': WHATEVER THE INPUT: true; the input reads as it did. -/
def fnExactBusHeardSpec : ChangeSpec := { name := "fnExactBusHeard", fn := fun _ => fun
  | [d1, d2] => { results := [.lit (.bool true)], args := [d1, d2] }
  | _ => none }
def fnExactBusHeardRow : OpenClaim := { program := "ytnafimhnjgnlcaa", sum := "7ff4f92075f47e1d15ab360b03cbe228d9de949cd744154ffdb6fbafe322ead1", func := "loop.example/g00072/laws.FnExactBusHeard", spec := "fnExactBusHeard", unfollowed := true, recurses := true, apart := false }
def FnExactBusHeardSaid : Prop := fnExactBusHeardRow.holds Try.pinned (OpenSpec.ofChange fnExactBusHeardSpec)

/-- ITS FALSE NEIGHBOUR: 'it returns false'. Refute it at one input. -/
def fnExactBusHeardWrong : ChangeSpec := { name := "fnExactBusHeard", fn := fun _ => fun
  | [d1, d2] => { results := [.lit (.bool false)], args := [d1, d2] }
  | _ => none }
def FnExactBusHeardWrongFalsely : Prop := fnExactBusHeardRow.holds Try.pinned (OpenSpec.ofChange fnExactBusHeardWrong)

/-- 'laws.FnExactBusClashes': WHATEVER THE INPUT: true; the input reads as it did. -/
def fnExactBusClashesSpec : ChangeSpec := { name := "fnExactBusClashes", fn := fun _ => fun
  | [d] => { results := [.lit (.bool true)], args := [d] }
  | _ => none }
def fnExactBusClashesRow : OpenClaim := { program := "ytnafimhnjgnlcaa", sum := "7ff4f92075f47e1d15ab360b03cbe228d9de949cd744154ffdb6fbafe322ead1", func := "loop.example/g00072/laws.FnExactBusClashes", spec := "fnExactBusClashes", apart := false }
def FnExactBusClashesSaid : Prop := fnExactBusClashesRow.holds Try.pinned (OpenSpec.ofChange fnExactBusClashesSpec)

/-- ITS FALSE NEIGHBOUR: 'it returns false'. Refute it at one input. -/
def fnExactBusClashesWrong : ChangeSpec := { name := "fnExactBusClashes", fn := fun _ => fun
  | [d] => { results := [.lit (.bool false)], args := [d] }
  | _ => none }
def FnExactBusClashesWrongFalsely : Prop := fnExactBusClashesRow.holds Try.pinned (OpenSpec.ofChange fnExactBusClashesWrong)

/-- 'laws.FnExactBusQuiet': WHATEVER THE INPUT: true; the input reads as it did. -/
def fnExactBusQuietSpec : ChangeSpec := { name := "fnExactBusQuiet", fn := fun _ => fun
  | [d1, d2, d3] => { results := [.lit (.bool true)], args := [d1, d2, d3] }
  | _ => none }
def fnExactBusQuietRow : OpenClaim := { program := "ytnafimhnjgnlcaa", sum := "7ff4f92075f47e1d15ab360b03cbe228d9de949cd744154ffdb6fbafe322ead1", func := "loop.example/g00072/laws.FnExactBusQuiet", spec := "fnExactBusQuiet", apart := false }
def FnExactBusQuietSaid : Prop := fnExactBusQuietRow.holds Try.pinned (OpenSpec.ofChange fnExactBusQuietSpec)

/-- ITS FALSE NEIGHBOUR: 'it returns false'. Refute it at one input. -/
def fnExactBusQuietWrong : ChangeSpec := { name := "fnExactBusQuiet", fn := fun _ => fun
  | [d1, d2, d3] => { results := [.lit (.bool false)], args := [d1, d2, d3] }
  | _ => none }
def FnExactBusQuietWrongFalsely : Prop := fnExactBusQuietRow.holds Try.pinned (OpenSpec.ofChange fnExactBusQuietWrong)

/-- 'laws.FnAlone': WHATEVER THE INPUT: true; the input reads as it did. -/
def fnAloneSpec : ChangeSpec := { name := "fnAlone", fn := fun _ => fun
  | [d] => { results := [.lit (.bool true)], args := [d] }
  | _ => none }
def fnAloneRow : OpenClaim := { program := "ytnafimhnjgnlcaa", sum := "7ff4f92075f47e1d15ab360b03cbe228d9de949cd744154ffdb6fbafe322ead1", func := "loop.example/g00072/laws.FnAlone", spec := "fnAlone", unfollowed := true, recurses := true, apart := false }
def FnAloneSaid : Prop := fnAloneRow.holds Try.pinned (OpenSpec.ofChange fnAloneSpec)

/-- ITS FALSE NEIGHBOUR: 'it returns false'. Refute it at one input. -/
def fnAloneWrong : ChangeSpec := { name := "fnAlone", fn := fun _ => fun
  | [d] => { results := [.lit (.bool false)], args := [d] }
  | _ => none }
def FnAloneWrongFalsely : Prop := fnAloneRow.holds Try.pinned (OpenSpec.ofChange fnAloneWrong)

/-- 'laws.FnLoad': WHATEVER THE INPUT: true; the input reads as it did. -/
def fnLoadSpec : ChangeSpec := { name := "fnLoad", fn := fun _ => fun
  | [d] => { results := [.lit (.bool true)], args := [d] }
  | _ => none }
def fnLoadRow : OpenClaim := { program := "ytnafimhnjgnlcaa", sum := "7ff4f92075f47e1d15ab360b03cbe228d9de949cd744154ffdb6fbafe322ead1", func := "loop.example/g00072/laws.FnLoad", spec := "fnLoad", apart := false }
def FnLoadSaid : Prop := fnLoadRow.holds Try.pinned (OpenSpec.ofChange fnLoadSpec)

/-- ITS FALSE NEIGHBOUR: 'it returns false'. Refute it at one input. -/
def fnLoadWrong : ChangeSpec := { name := "fnLoad", fn := fun _ => fun
  | [d] => { results := [.lit (.bool false)], args := [d] }
  | _ => none }
def FnLoadWrongFalsely : Prop := fnLoadRow.holds Try.pinned (OpenSpec.ofChange fnLoadWrong)

/- THE SECOND FORM. 'bulk': how many values and letters a reading holds, each counted each time it is reached (what is shared counts as often as it is met; a slice's spare places count too). A statement '..UptoSaid' is the law's where the arguments, and the package variables that the reading takes, are together of bulk at most 1048576: NARROWER than '..Said'. Prove '..Said' where nothing that the law and all that it calls make is longer than what came in: it says more and counts as full. Else prove '..UptoSaid'. A law counts once. -/
mutual
def uptoBulk {H : Type} : DataW H → Nat
  | .lit (.string bytes) => bytes.length + 1
  | .lit _ => 1
  | .nil => 1
  | .ptr d => uptoBulk d + 1
  | .slice elems spare => uptoBulkAll elems + uptoBulkAll spare + 1
  | .agg parts => uptoBulkAll parts + 1
  | .iface _ d => uptoBulk d + 1
  | .map entries => uptoBulkEntries entries + 1
  | .held _ => 1
def uptoBulkAll {H : Type} : List (DataW H) → Nat
  | [] => 0
  | d :: r => uptoBulk d + uptoBulkAll r
def uptoBulkEntries {H : Type} : List (Lit × DataW H) → Nat
  | [] => 0
  | x :: r => uptoBulkEntry x + uptoBulkEntries r
def uptoBulkEntry {H : Type} : Lit × DataW H → Nat
  | (.string bytes, d) => bytes.length + uptoBulk d + 1
  | (_, d) => uptoBulk d + 1
 end
def uptoSmall : (H : Type) → List (DataW H) → Bool := fun _ ds => decide (uptoBulkAll ds ≤ 1048576)
def OpenSpec.upto (s : _root_.Go.ChangeSpec) : _root_.Go.OpenSpec := { _root_.Go.OpenSpec.ofChange s with cond := some uptoSmall }

/-- 'laws.FnExactBusLoad', WHERE WHAT IT READS IS OF BULK AT MOST 1048576: true; the input reads as it did. -/
def fnExactBusLoadUptoRow : OpenClaim := { program := "ytnafimhnjgnlcaa", sum := "7ff4f92075f47e1d15ab360b03cbe228d9de949cd744154ffdb6fbafe322ead1", func := "loop.example/g00072/laws.FnExactBusLoad", spec := "fnExactBusLoad", apart := false, narrowed := true }
def FnExactBusLoadUptoSaid : Prop := fnExactBusLoadUptoRow.holds Try.pinned (OpenSpec.upto fnExactBusLoadSpec)

/-- 'laws.FnExactBusOf', WHERE WHAT IT READS IS OF BULK AT MOST 1048576: true; the input reads as it did. -/
def fnExactBusOfUptoRow : OpenClaim := { program := "ytnafimhnjgnlcaa", sum := "7ff4f92075f47e1d15ab360b03cbe228d9de949cd744154ffdb6fbafe322ead1", func := "loop.example/g00072/laws.FnExactBusOf", spec := "fnExactBusOf", unfollowed := true, recurses := true, apart := false, narrowed := true }
def FnExactBusOfUptoSaid : Prop := fnExactBusOfUptoRow.holds Try.pinned (OpenSpec.upto fnExactBusOfSpec)

/-- 'laws.FnExactBusPut', WHERE WHAT IT READS IS OF BULK AT MOST 1048576: true; the input reads as it did. -/
def fnExactBusPutUptoRow : OpenClaim := { program := "ytnafimhnjgnlcaa", sum := "7ff4f92075f47e1d15ab360b03cbe228d9de949cd744154ffdb6fbafe322ead1", func := "loop.example/g00072/laws.FnExactBusPut", spec := "fnExactBusPut", apart := false, narrowed := true }
def FnExactBusPutUptoSaid : Prop := fnExactBusPutUptoRow.holds Try.pinned (OpenSpec.upto fnExactBusPutSpec)

/-- 'laws.FnExactBusHeard', WHERE WHAT IT READS IS OF BULK AT MOST 1048576: true; the input reads as it did. -/
def fnExactBusHeardUptoRow : OpenClaim := { program := "ytnafimhnjgnlcaa", sum := "7ff4f92075f47e1d15ab360b03cbe228d9de949cd744154ffdb6fbafe322ead1", func := "loop.example/g00072/laws.FnExactBusHeard", spec := "fnExactBusHeard", unfollowed := true, recurses := true, apart := false, narrowed := true }
def FnExactBusHeardUptoSaid : Prop := fnExactBusHeardUptoRow.holds Try.pinned (OpenSpec.upto fnExactBusHeardSpec)

/-- 'laws.FnExactBusClashes', WHERE WHAT IT READS IS OF BULK AT MOST 1048576: true; the input reads as it did. -/
def fnExactBusClashesUptoRow : OpenClaim := { program := "ytnafimhnjgnlcaa", sum := "7ff4f92075f47e1d15ab360b03cbe228d9de949cd744154ffdb6fbafe322ead1", func := "loop.example/g00072/laws.FnExactBusClashes", spec := "fnExactBusClashes", apart := false, narrowed := true }
def FnExactBusClashesUptoSaid : Prop := fnExactBusClashesUptoRow.holds Try.pinned (OpenSpec.upto fnExactBusClashesSpec)

/-- 'laws.FnExactBusQuiet', WHERE WHAT IT READS IS OF BULK AT MOST 1048576: true; the input reads as it did. -/
def fnExactBusQuietUptoRow : OpenClaim := { program := "ytnafimhnjgnlcaa", sum := "7ff4f92075f47e1d15ab360b03cbe228d9de949cd744154ffdb6fbafe322ead1", func := "loop.example/g00072/laws.FnExactBusQuiet", spec := "fnExactBusQuiet", apart := false, narrowed := true }
def FnExactBusQuietUptoSaid : Prop := fnExactBusQuietUptoRow.holds Try.pinned (OpenSpec.upto fnExactBusQuietSpec)

/-- 'laws.FnAlone', WHERE WHAT IT READS IS OF BULK AT MOST 1048576: true; the input reads as it did. -/
def fnAloneUptoRow : OpenClaim := { program := "ytnafimhnjgnlcaa", sum := "7ff4f92075f47e1d15ab360b03cbe228d9de949cd744154ffdb6fbafe322ead1", func := "loop.example/g00072/laws.FnAlone", spec := "fnAlone", unfollowed := true, recurses := true, apart := false, narrowed := true }
def FnAloneUptoSaid : Prop := fnAloneUptoRow.holds Try.pinned (OpenSpec.upto fnAloneSpec)

/-- 'laws.FnLoad', WHERE WHAT IT READS IS OF BULK AT MOST 1048576: true; the input reads as it did. -/
def fnLoadUptoRow : OpenClaim := { program := "ytnafimhnjgnlcaa", sum := "7ff4f92075f47e1d15ab360b03cbe228d9de949cd744154ffdb6fbafe322ead1", func := "loop.example/g00072/laws.FnLoad", spec := "fnLoad", apart := false, narrowed := true }
def FnLoadUptoSaid : Prop := fnLoadUptoRow.holds Try.pinned (OpenSpec.upto fnLoadSpec)

end Rows
end Go.Proofs.Ytnafimhnjgnlcaa
