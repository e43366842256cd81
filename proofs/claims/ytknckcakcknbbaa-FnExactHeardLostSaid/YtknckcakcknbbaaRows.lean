/-
  No cell of these rows narrows 'for every input' (looked for: loops, veiled, ifaces, maps, wideKeys, modest, calm, conditions, laid).
  DERIVED. THE GIVEN ROWS OF THIS SEAT. 6 by the template 'for every input the law returns true; each argument reads behind the call as it read before'; 0 by the template 'total and deterministic' (their statements: YtknckcakcknbbaaTotals.lean).
  GIVEN WITH THE SEED: the statements are not yours to turn. If you find one false, say at which input.
  Laid BY PROGRAM, IN A SANDBOX (cutbox-rows.mjs): the forced cells as the released guide's own fill.sh prints them over the translation b57d2b601da8bead… (all of the seat's roots in one cut). By AI agents, Wed Nov 11 2026. No macro, syntax, notation, axiom, sorry.
-/
import Derived.Test.YtknckcakcknbbaaChecked
import GoSem.Claim
import GoSem.ClaimJoined
import GoSem.ClaimMapViews
import Derived.JoinedTies
import Derived.KernelRfl
namespace Go.Proofs.Ytknckcakcknbbaa
/- THE CELL 'sum', in the pinned program and in every row, IS THE sha256 OF THE DUMP (.gsa) THAT YtknckcakcknbbaaProg.lean LOADS. Nothing in Lean hashes anything: it is a label: what it is worth is what the hold of that sum in a sandbox is worth. -/
noncomputable def Try.pinned : Pinned := { name := "ytknckcakcknbbaa", sum := "b57d2b601da8bead944906dc9a0ac3570107ef4f721667c14e1a2445a3601b70", checked := Try.checked }
namespace Rows
def none {H : Type} : Left H := { results := [], args := [] }

/-- 'laws.FnExactHeardUnlike': WHATEVER THE INPUT: true; the input reads as it did. -/
def fnExactHeardUnlikeSpec : ChangeSpec := { name := "fnExactHeardUnlike", fn := fun _ => fun
  | [d1, d2] => { results := [.lit (.bool true)], args := [d1, d2] }
  | _ => none }
def fnExactHeardUnlikeRow : OpenClaim := { program := "ytknckcakcknbbaa", sum := "b57d2b601da8bead944906dc9a0ac3570107ef4f721667c14e1a2445a3601b70", func := "loop.example/g00072/laws.FnExactHeardUnlike", spec := "fnExactHeardUnlike", apart := false }
def FnExactHeardUnlikeSaid : Prop := fnExactHeardUnlikeRow.holds Try.pinned (OpenSpec.ofChange fnExactHeardUnlikeSpec)

/-- ITS FALSE NEIGHBOUR: 'it returns false'. Refute it at one input. -/
def fnExactHeardUnlikeWrong : ChangeSpec := { name := "fnExactHeardUnlike", fn := fun _ => fun
  | [d1, d2] => { results := [.lit (.bool false)], args := [d1, d2] }
  | _ => none }
def FnExactHeardUnlikeWrongFalsely : Prop := fnExactHeardUnlikeRow.holds Try.pinned (OpenSpec.ofChange fnExactHeardUnlikeWrong)

/-- 'laws.FnExactHeardNow': WHATEVER THE INPUT: true; the input reads as it did. -/
def fnExactHeardNowSpec : ChangeSpec := { name := "fnExactHeardNow", fn := fun _ => fun
  | [d1, d2, d3, d4] => { results := [.lit (.bool true)], args := [d1, d2, d3, d4] }
  | _ => none }
def fnExactHeardNowRow : OpenClaim := { program := "ytknckcakcknbbaa", sum := "b57d2b601da8bead944906dc9a0ac3570107ef4f721667c14e1a2445a3601b70", func := "loop.example/g00072/laws.FnExactHeardNow", spec := "fnExactHeardNow", unfollowed := true, recurses := true, apart := false }
def FnExactHeardNowSaid : Prop := fnExactHeardNowRow.holds Try.pinned (OpenSpec.ofChange fnExactHeardNowSpec)

/-- ITS FALSE NEIGHBOUR: 'it returns false'. Refute it at one input. -/
def fnExactHeardNowWrong : ChangeSpec := { name := "fnExactHeardNow", fn := fun _ => fun
  | [d1, d2, d3, d4] => { results := [.lit (.bool false)], args := [d1, d2, d3, d4] }
  | _ => none }
def FnExactHeardNowWrongFalsely : Prop := fnExactHeardNowRow.holds Try.pinned (OpenSpec.ofChange fnExactHeardNowWrong)

/-- 'laws.FnExactHeardLost': WHATEVER THE INPUT: true; the input reads as it did. -/
def fnExactHeardLostSpec : ChangeSpec := { name := "fnExactHeardLost", fn := fun _ => fun
  | [d1, d2, d3, d4] => { results := [.lit (.bool true)], args := [d1, d2, d3, d4] }
  | _ => none }
def fnExactHeardLostRow : OpenClaim := { program := "ytknckcakcknbbaa", sum := "b57d2b601da8bead944906dc9a0ac3570107ef4f721667c14e1a2445a3601b70", func := "loop.example/g00072/laws.FnExactHeardLost", spec := "fnExactHeardLost", unfollowed := true, recurses := true, apart := false }
def FnExactHeardLostSaid : Prop := fnExactHeardLostRow.holds Try.pinned (OpenSpec.ofChange fnExactHeardLostSpec)

/-- ITS FALSE NEIGHBOUR: 'it returns false'. Refute it at one input. -/
def fnExactHeardLostWrong : ChangeSpec := { name := "fnExactHeardLost", fn := fun _ => fun
  | [d1, d2, d3, d4] => { results := [.lit (.bool false)], args := [d1, d2, d3, d4] }
  | _ => none }
def FnExactHeardLostWrongFalsely : Prop := fnExactHeardLostRow.holds Try.pinned (OpenSpec.ofChange fnExactHeardLostWrong)

/-- 'laws.FnExactHear': WHATEVER THE INPUT: true; the input reads as it did. -/
def fnExactHearSpec : ChangeSpec := { name := "fnExactHear", fn := fun _ => fun
  | [d1, d2, d3, d4] => { results := [.lit (.bool true)], args := [d1, d2, d3, d4] }
  | _ => none }
def fnExactHearRow : OpenClaim := { program := "ytknckcakcknbbaa", sum := "b57d2b601da8bead944906dc9a0ac3570107ef4f721667c14e1a2445a3601b70", func := "loop.example/g00072/laws.FnExactHear", spec := "fnExactHear", inPlace := ["slices.overlaps[loop.example/g00072/impl.Heard]"], unfollowed := true, recurses := true, apart := false }
def FnExactHearSaid : Prop := fnExactHearRow.holds Try.pinned (OpenSpec.ofChange fnExactHearSpec)

/-- ITS FALSE NEIGHBOUR: 'it returns false'. Refute it at one input. -/
def fnExactHearWrong : ChangeSpec := { name := "fnExactHear", fn := fun _ => fun
  | [d1, d2, d3, d4] => { results := [.lit (.bool false)], args := [d1, d2, d3, d4] }
  | _ => none }
def FnExactHearWrongFalsely : Prop := fnExactHearRow.holds Try.pinned (OpenSpec.ofChange fnExactHearWrong)

/-- 'laws.FnExactHeardOwners': WHATEVER THE INPUT: true; the input reads as it did. -/
def fnExactHeardOwnersSpec : ChangeSpec := { name := "fnExactHeardOwners", fn := fun _ => fun
  | [d1, d2] => { results := [.lit (.bool true)], args := [d1, d2] }
  | _ => none }
def fnExactHeardOwnersRow : OpenClaim := { program := "ytknckcakcknbbaa", sum := "b57d2b601da8bead944906dc9a0ac3570107ef4f721667c14e1a2445a3601b70", func := "loop.example/g00072/laws.FnExactHeardOwners", spec := "fnExactHeardOwners", unfollowed := true, recurses := true, apart := false }
def FnExactHeardOwnersSaid : Prop := fnExactHeardOwnersRow.holds Try.pinned (OpenSpec.ofChange fnExactHeardOwnersSpec)

/-- ITS FALSE NEIGHBOUR: 'it returns false'. Refute it at one input. -/
def fnExactHeardOwnersWrong : ChangeSpec := { name := "fnExactHeardOwners", fn := fun _ => fun
  | [d1, d2] => { results := [.lit (.bool false)], args := [d1, d2] }
  | _ => none }
def FnExactHeardOwnersWrongFalsely : Prop := fnExactHeardOwnersRow.holds Try.pinned (OpenSpec.ofChange fnExactHeardOwnersWrong)

/-- 'laws.FnHeard': WHATEVER THE INPUT: true; the input reads as it did. -/
def fnHeardSpec : ChangeSpec := { name := "fnHeard", fn := fun _ => fun
  | [d] => { results := [.lit (.bool true)], args := [d] }
  | _ => none }
def fnHeardRow : OpenClaim := { program := "ytknckcakcknbbaa", sum := "b57d2b601da8bead944906dc9a0ac3570107ef4f721667c14e1a2445a3601b70", func := "loop.example/g00072/laws.FnHeard", spec := "fnHeard", inPlace := ["slices.overlaps[loop.example/g00072/impl.Heard]"], unfollowed := true, recurses := true, apart := false }
def FnHeardSaid : Prop := fnHeardRow.holds Try.pinned (OpenSpec.ofChange fnHeardSpec)

/-- ITS FALSE NEIGHBOUR: 'it returns false'. Refute it at one input. -/
def fnHeardWrong : ChangeSpec := { name := "fnHeard", fn := fun _ => fun
  | [d] => { results := [.lit (.bool false)], args := [d] }
  | _ => none }
def FnHeardWrongFalsely : Prop := fnHeardRow.holds Try.pinned (OpenSpec.ofChange fnHeardWrong)

/- THE SECOND FORM. 'bulk': how many values and letters a reading holds, each counted each time it is reached (what is shared counts as often as it is met; a slice's spare places count too). A statement '..UptoSaid' is the law's where the arguments, and the package variables that the reading takes, are together of bulk at most 1048576: NARROWER than '..Said'. Prove '..Said' where nothing that the law and all that it calls make is longer than what came in: it says more and counts as full. Else prove '..UptoSaid'. A law counts once. -/
mutual
def uptoBulk {H : Type} : DataW H → Nat
  | .lit (.string bytes) => bytes.length + 1
  | .lit _ => 1
  | .nil => 1
  | .ptr d => uptoBulk d + 1
  | .slice elems spare => uptoBulkAll elems + uptoBulkAll spare + 1
  | .agg parts => uptoBulkAll parts + 1
  | .iface _ d => uptoBulk d + 1
  | .map entries => uptoBulkEntries entries + 1
  | .held _ => 1
def uptoBulkAll {H : Type} : List (DataW H) → Nat
  | [] => 0
  | d :: r => uptoBulk d + uptoBulkAll r
def uptoBulkEntries {H : Type} : List (Lit × DataW H) → Nat
  | [] => 0
  | x :: r => uptoBulkEntry x + uptoBulkEntries r
def uptoBulkEntry {H : Type} : Lit × DataW H → Nat
  | (.string bytes, d) => bytes.length + uptoBulk d + 1
  | (_, d) => uptoBulk d + 1
 end
def uptoSmall : (H : Type) → List (DataW H) → Bool := fun _ ds => decide (uptoBulkAll ds ≤ 1048576)
def OpenSpec.upto (s : _root_.Go.ChangeSpec) : _root_.Go.OpenSpec := { _root_.Go.OpenSpec.ofChange s with cond := some uptoSmall }

/-- 'laws.FnExactHeardUnlike', WHERE WHAT IT READS IS OF BULK AT MOST 1048576: true; the input reads as it did. -/
def fnExactHeardUnlikeUptoRow : OpenClaim := { program := "ytknckcakcknbbaa", sum := "b57d2b601da8bead944906dc9a0ac3570107ef4f721667c14e1a2445a3601b70", func := "loop.example/g00072/laws.FnExactHeardUnlike", spec := "fnExactHeardUnlike", apart := false, narrowed := true }
def FnExactHeardUnlikeUptoSaid : Prop := fnExactHeardUnlikeUptoRow.holds Try.pinned (OpenSpec.upto fnExactHeardUnlikeSpec)

/-- 'laws.FnExactHeardNow', WHERE WHAT IT READS IS OF BULK AT MOST 1048576: true; the input reads as it did. -/
def fnExactHeardNowUptoRow : OpenClaim := { program := "ytknckcakcknbbaa", sum := "b57d2b601da8bead944906dc9a0ac3570107ef4f721667c14e1a2445a3601b70", func := "loop.example/g00072/laws.FnExactHeardNow", spec := "fnExactHeardNow", unfollowed := true, recurses := true, apart := false, narrowed := true }
def FnExactHeardNowUptoSaid : Prop := fnExactHeardNowUptoRow.holds Try.pinned (OpenSpec.upto fnExactHeardNowSpec)

/-- 'laws.FnExactHeardLost', WHERE WHAT IT READS IS OF BULK AT MOST 1048576: true; the input reads as it did. -/
def fnExactHeardLostUptoRow : OpenClaim := { program := "ytknckcakcknbbaa", sum := "b57d2b601da8bead944906dc9a0ac3570107ef4f721667c14e1a2445a3601b70", func := "loop.example/g00072/laws.FnExactHeardLost", spec := "fnExactHeardLost", unfollowed := true, recurses := true, apart := false, narrowed := true }
def FnExactHeardLostUptoSaid : Prop := fnExactHeardLostUptoRow.holds Try.pinned (OpenSpec.upto fnExactHeardLostSpec)

/-- 'laws.FnExactHear', WHERE WHAT IT READS IS OF BULK AT MOST 1048576: true; the input reads as it did. -/
def fnExactHearUptoRow : OpenClaim := { program := "ytknckcakcknbbaa", sum := "b57d2b601da8bead944906dc9a0ac3570107ef4f721667c14e1a2445a3601b70", func := "loop.example/g00072/laws.FnExactHear", spec := "fnExactHear", inPlace := ["slices.overlaps[loop.example/g00072/impl.Heard]"], unfollowed := true, recurses := true, apart := false, narrowed := true }
def FnExactHearUptoSaid : Prop := fnExactHearUptoRow.holds Try.pinned (OpenSpec.upto fnExactHearSpec)

/-- 'laws.FnExactHeardOwners', WHERE WHAT IT READS IS OF BULK AT MOST 1048576: true; the input reads as it did. -/
def fnExactHeardOwnersUptoRow : OpenClaim := { program := "ytknckcakcknbbaa", sum := "b57d2b601da8bead944906dc9a0ac3570107ef4f721667c14e1a2445a3601b70", func := "loop.example/g00072/laws.FnExactHeardOwners", spec := "fnExactHeardOwners", unfollowed := true, recurses := true, apart := false, narrowed := true }
def FnExactHeardOwnersUptoSaid : Prop := fnExactHeardOwnersUptoRow.holds Try.pinned (OpenSpec.upto fnExactHeardOwnersSpec)

/-- 'laws.FnHeard', WHERE WHAT IT READS IS OF BULK AT MOST 1048576: true; the input reads as it did. -/
def fnHeardUptoRow : OpenClaim := { program := "ytknckcakcknbbaa", sum := "b57d2b601da8bead944906dc9a0ac3570107ef4f721667c14e1a2445a3601b70", func := "loop.example/g00072/laws.FnHeard", spec := "fnHeard", inPlace := ["slices.overlaps[loop.example/g00072/impl.Heard]"], unfollowed := true, recurses := true, apart := false, narrowed := true }
def FnHeardUptoSaid : Prop := fnHeardUptoRow.holds Try.pinned (OpenSpec.upto fnHeardSpec)

end Rows
end Go.Proofs.Ytknckcakcknbbaa
