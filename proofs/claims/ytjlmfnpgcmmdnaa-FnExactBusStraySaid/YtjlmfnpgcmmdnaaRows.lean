/-
  No cell of these rows narrows 'for every input' (looked for: loops, veiled, ifaces, maps, wideKeys, modest, calm, conditions, laid).
  DERIVED. THE GIVEN ROWS OF THIS SEAT. 7 by the template 'for every input the law returns true; each argument reads behind the call as it read before'; 0 by the template 'total and deterministic' (their statements: YtjlmfnpgcmmdnaaTotals.lean).
  GIVEN WITH THE SEED: the statements are not yours to turn. If you find one false, say at which input.
  Laid BY PROGRAM, IN A SANDBOX (cutbox-rows.mjs): the forced cells as the released guide's own fill.sh prints them over the translation 077284a39c0737bd… (all of the seat's roots in one cut). By AI agents, Wed Nov 11 2026. No macro, syntax, notation, axiom, sorry.
-/
import Derived.Test.YtjlmfnpgcmmdnaaChecked
import GoSem.Claim
import GoSem.ClaimJoined
import GoSem.ClaimMapViews
import Derived.JoinedTies
import Derived.KernelRfl
namespace Go.Proofs.Ytjlmfnpgcmmdnaa
/- THE CELL 'sum', in the pinned program and in every row, IS THE sha256 OF THE DUMP (.gsa) THAT YtjlmfnpgcmmdnaaProg.lean LOADS. Nothing in Lean hashes anything: it is a label: what it is worth is what the hold of that sum in a sandbox is worth. -/
noncomputable def Try.pinned : Pinned := { name := "ytjlmfnpgcmmdnaa", sum := "077284a39c0737bd9acb36c34763d6925cfb9fabbe5ecff3f7ec85d8dd1216a8", checked := Try.checked }
namespace Rows
def none {H : Type} : Left H := { results := [], args := [] }

/-- 'laws.FnAlone': WHATEVER THE INPUT: true; the input reads as it did. -/
def fnAloneSpec : ChangeSpec := { name := "fnAlone", fn := fun _ => fun
  | [d] => { results := [.lit (.bool true)], args := [d] }
  | _ => none }
def fnAloneRow : OpenClaim := { program := "ytjlmfnpgcmmdnaa", sum := "077284a39c0737bd9acb36c34763d6925cfb9fabbe5ecff3f7ec85d8dd1216a8", func := "loop.example/g00072/laws.FnAlone", spec := "fnAlone", unfollowed := true, recurses := true, apart := false }
def FnAloneSaid : Prop := fnAloneRow.holds Try.pinned (OpenSpec.ofChange fnAloneSpec)

/-- ITS FALSE NEIGHBOUR: 'it returns false'. Refute it at one input. -/
def fnAloneWrong : ChangeSpec := { name := "fnAlone", fn := fun _ => fun
  | [d] => { results := [.lit (.bool false)], args := [d] }
  | _ => none }
def FnAloneWrongFalsely : Prop := fnAloneRow.holds Try.pinned (OpenSpec.ofChange fnAloneWrong)

/-- 'laws.FnLoad': WHATEVER THE INPUT: true; the input reads as it did. -/
def fnLoadSpec : ChangeSpec := { name := "fnLoad", fn := fun _ => fun
  | [d] => { results := [.lit (.bool true)], args := [d] }
  | _ => none }
def fnLoadRow : OpenClaim := { program := "ytjlmfnpgcmmdnaa", sum := "077284a39c0737bd9acb36c34763d6925cfb9fabbe5ecff3f7ec85d8dd1216a8", func := "loop.example/g00072/laws.FnLoad", spec := "fnLoad", apart := false }
def FnLoadSaid : Prop := fnLoadRow.holds Try.pinned (OpenSpec.ofChange fnLoadSpec)

/-- ITS FALSE NEIGHBOUR: 'it returns false'. Refute it at one input. -/
def fnLoadWrong : ChangeSpec := { name := "fnLoad", fn := fun _ => fun
  | [d] => { results := [.lit (.bool false)], args := [d] }
  | _ => none }
def FnLoadWrongFalsely : Prop := fnLoadRow.holds Try.pinned (OpenSpec.ofChange fnLoadWrong)

/-- 'laws.FnExactBusOf': WHATEVER THE INPUT: true; the input reads as it did. -/
def fnExactBusOfSpec : ChangeSpec := { name := "fnExactBusOf", fn := fun _ => fun
  | [d1, d2] => { results := [.lit (.bool true)], args := [d1, d2] }
  | _ => none }
def fnExactBusOfRow : OpenClaim := { program := "ytjlmfnpgcmmdnaa", sum := "077284a39c0737bd9acb36c34763d6925cfb9fabbe5ecff3f7ec85d8dd1216a8", func := "loop.example/g00072/laws.FnExactBusOf", spec := "fnExactBusOf", unfollowed := true, recurses := true, apart := false }
def FnExactBusOfSaid : Prop := fnExactBusOfRow.holds Try.pinned (OpenSpec.ofChange fnExactBusOfSpec)

/-- ITS FALSE NEIGHBOUR: 'it returns false'. Refute it at one input. -/
def fnExactBusOfWrong : ChangeSpec := { name := "fnExactBusOf", fn := fun _ => fun
  | [d1, d2] => { results := [.lit (.bool false)], args := [d1, d2] }
  | _ => none }
def FnExactBusOfWrongFalsely : Prop := fnExactBusOfRow.holds Try.pinned (OpenSpec.ofChange fnExactBusOfWrong)

/-- 'laws.FnExactBusPut': WHATEVER THE INPUT: true; the input reads as it did. -/
def fnExactBusPutSpec : ChangeSpec := { name := "fnExactBusPut", fn := fun _ => fun
  | [d1, d2] => { results := [.lit (.bool true)], args := [d1, d2] }
  | _ => none }
def fnExactBusPutRow : OpenClaim := { program := "ytjlmfnpgcmmdnaa", sum := "077284a39c0737bd9acb36c34763d6925cfb9fabbe5ecff3f7ec85d8dd1216a8", func := "loop.example/g00072/laws.FnExactBusPut", spec := "fnExactBusPut", apart := false }
def FnExactBusPutSaid : Prop := fnExactBusPutRow.holds Try.pinned (OpenSpec.ofChange fnExactBusPutSpec)

/-- ITS FALSE NEIGHBOUR: 'it returns false'. Refute it at one input. -/
def fnExactBusPutWrong : ChangeSpec := { name := "fnExactBusPut", fn := fun _ => fun
  | [d1, d2] => { results := [.lit (.bool false)], args := [d1, d2] }
  | _ => none }
def FnExactBusPutWrongFalsely : Prop := fnExactBusPutRow.holds Try.pinned (OpenSpec.ofChange fnExactBusPutWrong)

/-- 'laws.FnExactBusHeard': WHATEVER THE INPUT: true; the input reads as it did. -/
def fnExactBusHeardSpec : ChangeSpec := { name := "fnExactBusHeard", fn := fun _ => fun
  | [d1, d2] => { results := [.lit (.bool true)], args := [d1, d2] }
  | _ => none }
def fnExactBusHeardRow : OpenClaim := { program := "ytjlmfnpgcmmdnaa", sum := "077284a39c0737bd9acb36c34763d6925cfb9fabbe5ecff3f7ec85d8dd1216a8", func := "loop.example/g00072/laws.FnExactBusHeard", spec := "fnExactBusHeard", unfollowed := true, recurses := true, apart := false }
def FnExactBusHeardSaid : Prop := fnExactBusHeardRow.holds Try.pinned (OpenSpec.ofChange fnExactBusHeardSpec)

/-- ITS FALSE NEIGHBOUR: 'it returns false'. Refute it at one input. -/
def fnExactBusHeardWrong : ChangeSpec := { name := "fnExactBusHeard", fn := fun _ => fun
  | [d1, d2] => { results := [.lit (.bool false)], args := [d1, d2] }
  | _ => none }
def FnExactBusHeardWrongFalsely : Prop := fnExactBusHeardRow.holds Try.pinned (OpenSpec.ofChange fnExactBusHeardWrong)

/-- 'laws.FnOwnSlots': WHATEVER THE INPUT: true; the input reads as it did. -/
def fnOwnSlotsSpec : ChangeSpec := { name := "fnOwnSlots", fn := fun _ => fun
  | [d] => { results := [.lit (.bool true)], args := [d] }
  | _ => none }
def fnOwnSlotsRow : OpenClaim := { program := "ytjlmfnpgcmmdnaa", sum := "077284a39c0737bd9acb36c34763d6925cfb9fabbe5ecff3f7ec85d8dd1216a8", func := "loop.example/g00072/laws.FnOwnSlots", spec := "fnOwnSlots", unfollowed := true, recurses := true, apart := false }
def FnOwnSlotsSaid : Prop := fnOwnSlotsRow.holds Try.pinned (OpenSpec.ofChange fnOwnSlotsSpec)

/-- ITS FALSE NEIGHBOUR: 'it returns false'. Refute it at one input. -/
def fnOwnSlotsWrong : ChangeSpec := { name := "fnOwnSlots", fn := fun _ => fun
  | [d] => { results := [.lit (.bool false)], args := [d] }
  | _ => none }
def FnOwnSlotsWrongFalsely : Prop := fnOwnSlotsRow.holds Try.pinned (OpenSpec.ofChange fnOwnSlotsWrong)

/-- 'laws.FnExactBusStray': WHATEVER THE INPUT: true; the input reads as it did. -/
def fnExactBusStraySpec : ChangeSpec := { name := "fnExactBusStray", fn := fun _ => fun
  | [d1, d2] => { results := [.lit (.bool true)], args := [d1, d2] }
  | _ => none }
def fnExactBusStrayRow : OpenClaim := { program := "ytjlmfnpgcmmdnaa", sum := "077284a39c0737bd9acb36c34763d6925cfb9fabbe5ecff3f7ec85d8dd1216a8", func := "loop.example/g00072/laws.FnExactBusStray", spec := "fnExactBusStray", unfollowed := true, recurses := true, apart := false }
def FnExactBusStraySaid : Prop := fnExactBusStrayRow.holds Try.pinned (OpenSpec.ofChange fnExactBusStraySpec)

/-- ITS FALSE NEIGHBOUR: 'it returns false'. Refute it at one input. -/
def fnExactBusStrayWrong : ChangeSpec := { name := "fnExactBusStray", fn := fun _ => fun
  | [d1, d2] => { results := [.lit (.bool false)], args := [d1, d2] }
  | _ => none }
def FnExactBusStrayWrongFalsely : Prop := fnExactBusStrayRow.holds Try.pinned (OpenSpec.ofChange fnExactBusStrayWrong)

/- THE SECOND FORM. 'bulk': how many values and letters a reading holds, each counted each time it is reached (what is shared counts as often as it is met; a slice's spare places count too). A statement '..UptoSaid' is the law's where the arguments, and the package variables that the reading takes, are together of bulk at most 1048576: NARROWER than '..Said'. Prove '..Said' where nothing that the law and all that it calls make is longer than what came in: it says more and counts as full. Else prove '..UptoSaid'. A law counts once. -/
mutual
def uptoBulk {H : Type} : DataW H → Nat
  | .lit (.string bytes) => bytes.length + 1
  | .lit _ => 1
  | .nil => 1
  | .ptr d => uptoBulk d + 1
  | .slice elems spare => uptoBulkAll elems + uptoBulkAll spare + 1
  | .agg parts => uptoBulkAll parts + 1
  | .iface _ d => uptoBulk d + 1
  | .map entries => uptoBulkEntries entries + 1
  | .held _ => 1
def uptoBulkAll {H : Type} : List (DataW H) → Nat
  | [] => 0
  | d :: r => uptoBulk d + uptoBulkAll r
def uptoBulkEntries {H : Type} : List (Lit × DataW H) → Nat
  | [] => 0
  | x :: r => uptoBulkEntry x + uptoBulkEntries r
def uptoBulkEntry {H : Type} : Lit × DataW H → Nat
  | (.string bytes, d) => bytes.length + uptoBulk d + 1
  | (_, d) => uptoBulk d + 1
 end
def uptoSmall : (H : Type) → List (DataW H) → Bool := fun _ ds => decide (uptoBulkAll ds ≤ 1048576)
def OpenSpec.upto (s : _root_.Go.ChangeSpec) : _root_.Go.OpenSpec := { _root_.Go.OpenSpec.ofChange s with cond := some uptoSmall }

/-- 'laws.FnAlone', WHERE WHAT IT READS IS OF BULK AT MOST 1048576: true; the input reads as it did. -/
def fnAloneUptoRow : OpenClaim := { program := "ytjlmfnpgcmmdnaa", sum := "077284a39c0737bd9acb36c34763d6925cfb9fabbe5ecff3f7ec85d8dd1216a8", func := "loop.example/g00072/laws.FnAlone", spec := "fnAlone", unfollowed := true, recurses := true, apart := false, narrowed := true }
def FnAloneUptoSaid : Prop := fnAloneUptoRow.holds Try.pinned (OpenSpec.upto fnAloneSpec)

/-- 'laws.FnLoad', WHERE WHAT IT READS IS OF BULK AT MOST 1048576: true; the input reads as it did. -/
def fnLoadUptoRow : OpenClaim := { program := "ytjlmfnpgcmmdnaa", sum := "077284a39c0737bd9acb36c34763d6925cfb9fabbe5ecff3f7ec85d8dd1216a8", func := "loop.example/g00072/laws.FnLoad", spec := "fnLoad", apart := false, narrowed := true }
def FnLoadUptoSaid : Prop := fnLoadUptoRow.holds Try.pinned (OpenSpec.upto fnLoadSpec)

/-- 'laws.FnExactBusOf', WHERE WHAT IT READS IS OF BULK AT MOST 1048576: true; the input reads as it did. -/
def fnExactBusOfUptoRow : OpenClaim := { program := "ytjlmfnpgcmmdnaa", sum := "077284a39c0737bd9acb36c34763d6925cfb9fabbe5ecff3f7ec85d8dd1216a8", func := "loop.example/g00072/laws.FnExactBusOf", spec := "fnExactBusOf", unfollowed := true, recurses := true, apart := false, narrowed := true }
def FnExactBusOfUptoSaid : Prop := fnExactBusOfUptoRow.holds Try.pinned (OpenSpec.upto fnExactBusOfSpec)

/-- 'laws.FnExactBusPut', WHERE WHAT IT READS IS OF BULK AT MOST 1048576: true; the input reads as it did. -/
def fnExactBusPutUptoRow : OpenClaim := { program := "ytjlmfnpgcmmdnaa", sum := "077284a39c0737bd9acb36c34763d6925cfb9fabbe5ecff3f7ec85d8dd1216a8", func := "loop.example/g00072/laws.FnExactBusPut", spec := "fnExactBusPut", apart := false, narrowed := true }
def FnExactBusPutUptoSaid : Prop := fnExactBusPutUptoRow.holds Try.pinned (OpenSpec.upto fnExactBusPutSpec)

/-- 'laws.FnExactBusHeard', WHERE WHAT IT READS IS OF BULK AT MOST 1048576: true; the input reads as it did. -/
def fnExactBusHeardUptoRow : OpenClaim := { program := "ytjlmfnpgcmmdnaa", sum := "077284a39c0737bd9acb36c34763d6925cfb9fabbe5ecff3f7ec85d8dd1216a8", func := "loop.example/g00072/laws.FnExactBusHeard", spec := "fnExactBusHeard", unfollowed := true, recurses := true, apart := false, narrowed := true }
def FnExactBusHeardUptoSaid : Prop := fnExactBusHeardUptoRow.holds Try.pinned (OpenSpec.upto fnExactBusHeardSpec)

/-- 'laws.FnOwnSlots', WHERE WHAT IT READS IS OF BULK AT MOST 1048576: true; the input reads as it did. -/
def fnOwnSlotsUptoRow : OpenClaim := { program := "ytjlmfnpgcmmdnaa", sum := "077284a39c0737bd9acb36c34763d6925cfb9fabbe5ecff3f7ec85d8dd1216a8", func := "loop.example/g00072/laws.FnOwnSlots", spec := "fnOwnSlots", unfollowed := true, recurses := true, apart := false, narrowed := true }
def FnOwnSlotsUptoSaid : Prop := fnOwnSlotsUptoRow.holds Try.pinned (OpenSpec.upto fnOwnSlotsSpec)

/-- 'laws.FnExactBusStray', WHERE WHAT IT READS IS OF BULK AT MOST 1048576: true; the input reads as it did. -/
def fnExactBusStrayUptoRow : OpenClaim := { program := "ytjlmfnpgcmmdnaa", sum := "077284a39c0737bd9acb36c34763d6925cfb9fabbe5ecff3f7ec85d8dd1216a8", func := "loop.example/g00072/laws.FnExactBusStray", spec := "fnExactBusStray", unfollowed := true, recurses := true, apart := false, narrowed := true }
def FnExactBusStrayUptoSaid : Prop := fnExactBusStrayUptoRow.holds Try.pinned (OpenSpec.upto fnExactBusStraySpec)

end Rows
end Go.Proofs.Ytjlmfnpgcmmdnaa
