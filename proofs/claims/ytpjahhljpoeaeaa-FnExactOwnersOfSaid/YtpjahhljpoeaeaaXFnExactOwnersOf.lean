/- The law FnExactOwnersOf holds of the given program: for every input the call returns true, and each argument reads behind the call as it read before. No condition beyond the statement's own. -/
import Derived.Test.YtpjahhljpoeaeaaRows
import Derived.Test.YtpjahhljpoeaeaaKFEOO4
import Derived.Test.YtpjahhljpoeaeaaKFEOO6
import Derived.WalkKit
import Derived.ProofKit
import Derived.OpenShut
import Derived.ShutString
import Derived.ChangeOld
import Derived.Below
import Derived.SizedLaws
namespace Go.Proofs.Ytpjahhljpoeaeaa.fnExactOwnersOf
open Go.ChangeShapes Go.WideShapes Go.ChangeAt Go.RowKit Go.Proofs.Ytpjahhljpoeaeaa Go.Proofs.Ytpjahhljpoeaeaa.P Go.Proofs.YtpjahhljpoeaeaaW.PrintWords
open Go.ChangeMaps (open_string shut_string)
theorem own : ownKnob Try.prog.godebug = none := by kernel_rfl
theorem laidOut : laidOutB Try.prog = true := by kernel_rfl
theorem arr3 {cs : Array Value} (h : cs.size = 3) : ∃ u0 u1 u2, cs = #[u0, u1, u2] := by
  obtain ⟨l⟩ := cs
  match l, h with
  | [u0, u1, u2], _ => exact ⟨u0, u1, u2, rfl⟩
set_option maxRecDepth 100000 in
theorem opens113 : Args.Opens Try.prog 113 k113 (fun x => (Lit.int .i64 x.f0).wf = true ∧ (Lit.int .i64 x.f1).wf = true) := by
  intro H enc w base spare held fuel cs x h
  obtain ⟨hlen, _⟩ := Args.trod_field Try.underlying113 h
  rw [show Try.prog.cellsOf 113 = 2 from by kernel_rfl] at hlen
  match cs, hlen, h with
  | [u0, u1], _, h =>
    obtain ⟨nh_0, yh_0, h_0⟩ := Args.trod_at Try.underlying113 h 0 3 0 1 [u0] ⟨_, rfl, rfl, rfl⟩ (by kernel_rfl) rfl
    obtain ⟨a0, e0, _, w0⟩ := DataW.trod_int Try.underlying3 h_0; obtain rfl := List.head_eq_of_cons_eq e0
    obtain ⟨nh_1, yh_1, h_1⟩ := Args.trod_at Try.underlying113 h 1 3 1 1 [u1] ⟨_, rfl, rfl, rfl⟩ (by kernel_rfl) rfl
    obtain ⟨a1, e1, _, w1⟩ := DataW.trod_int Try.underlying3 h_1; obtain rfl := List.head_eq_of_cons_eq e1
    exact ⟨⟨a0, a1⟩, k113_mk _ (⟨a0, a1⟩ : S113), w0, w1⟩
set_option maxRecDepth 100000 in
theorem lifted (os : Os) (started : os.Started) (H : Type) (enc : TypeId × Value → H) :
    ReturnsInHanded {} Try.checked os 6 .any (Rows.fnExactOwnersOfSpec.pre6 enc Try.prog Try.f6 Rows.fnExactOwnersOfRow.domain false) (Rows.fnExactOwnersOfSpec.post enc Try.prog Try.f6 false true false false) := by
  refine returnsInHanded_of_change_sized (C := Try.checked) own started (by kernel_rfl) Try.func6
    (ChangeSpec.witness6 (enc := enc) (C := Try.checked) false ⟨#[], #[.agg #[.int .i64 0, .int .i64 0, .slice none 0 0]], []⟩ 8 (by kernel_rfl) (by kernel_rfl) (by kernel_rfl) (by kernel_rfl)) ?_
  intro W base args ds gs before hval0 hW hcnd hsz0 _
  have hval : ∀ (j : Nat) t v, Try.f6.params[j]? = some t → args[j]? = some v → Value.okWide Try.prog W .any base t v := hval0
  have hW' := hW
  obtain ⟨p, q, hA0, hV, rfl, hfz, hnd⟩ := hW
  have hA : DataW.TrodAll enc Try.prog W 0 (fun _ => true) true Try.f6.params.toList args.toList ds p := hA0
  rw [Try.params6] at hA hval
  obtain ⟨v0, vs0, d0, ds0, p0, q0, hargs, rfl, rfl, h0, r0⟩ := trodAll_cons hA
  obtain ⟨rfl, rfl, rfl⟩ := trodAll_nil r0
  obtain rfl : args = #[v0] := by cases args; simp_all
  obtain ⟨rfl, rfl⟩ := trodVars_none hV
  have k0 := h0
  have lt0 : ∀ x ∈ p0, x.block < W.heap.size := by obtain ⟨m, hm⟩ := k0; exact DataW.trod_lt m _ _ _ hm
  obtain ⟨cs0, rfl, hz0⟩ := okWide_struct Try.underlying25 (hval 0 25 v0 rfl rfl)
  rw [show Try.prog.cellsOf 25 = 3 from by kernel_rfl] at hz0
  obtain ⟨u0_0, u0_1, u0_2, rfl⟩ := arr3 hz0
  obtain ⟨fu0, hf0⟩ := h0
  replace hf0 : DataW.trod enc Try.prog W 0 (fun _ => true) true fu0 25 [u0_0, u0_1, u0_2] = some _ := hf0
  obtain ⟨nhf0_0, yhf0_0, hf0_0⟩ := Args.trod_at Try.underlying25 hf0 0 3 0 1 [u0_0] ⟨_, rfl, rfl, rfl⟩ (by kernel_rfl) rfl
  obtain ⟨a0_0, e0_0, _, w0_0⟩ := DataW.trod_int Try.underlying3 hf0_0; obtain rfl := List.head_eq_of_cons_eq e0_0
  obtain ⟨nhf0_1, yhf0_1, hf0_1⟩ := Args.trod_at Try.underlying25 hf0 1 3 1 1 [u0_1] ⟨_, rfl, rfl, rfl⟩ (by kernel_rfl) rfl
  obtain ⟨a0_1, e0_1, _, w0_1⟩ := DataW.trod_int Try.underlying3 hf0_1; obtain rfl := List.head_eq_of_cons_eq e0_1
  obtain ⟨nhf0_2, yhf0_2, hf0_2⟩ := Args.trod_at Try.underlying25 hf0 2 23 2 1 [u0_2] ⟨_, rfl, rfl, rfl⟩ (by kernel_rfl) rfl
  obtain ⟨A0_2, c0_2, l0_2, rfl, hC0_2, hl0_2, hm0_2, hb0_2⟩ := Args.open_row z113 Try.underlying23 (by kernel_rfl) opens113 hf0_2
  clear hA0 hval0 hsz0
  obtain ⟨k, hk⟩ := V.FnExactOwnersOf a0_0 a0_1 l0_2 w0_0 w0_1 ⟨hm0_2, hb0_2⟩
  refine (laws_FnExactOwnersOf.calls k a0_0 a0_1 A0_2 c0_2 l0_2 true W hC0_2 hl0_2 rfl hk).mono fun e W' ⟨he, bel0⟩ => ?_
  have bel : Below W.heap.size W W' := bel0
  subst he
  exact ⟨_, rfl, _, _, _, [], _, [], hW', trodAll_mk1 (shut_bool Try.underlying4 _), (trodAll_cons_mk (Below.trod laidOut (by kernel_rfl) (of_decide_eq_true (by kernel_rfl)) k0 bel lt0) trodAll_mk0), rfl, bel.frame _, fun h => by cases h⟩
theorem over : Rows.fnExactOwnersOfRow.holds Try.pinned (OpenSpec.ofChange Rows.fnExactOwnersOfSpec) :=
  OpenClaim.holds_of_wide 6 Try.f6 rfl rfl rfl rfl rfl rfl rfl ⟨rfl, rfl, rfl, rfl, rfl⟩ rfl rfl rfl rfl rfl (by kernel_rfl) Try.func6 (by kernel_rfl)
    (of_decide_eq_true (by kernel_rfl)) (by unfold Func.isWrapper; first | (rw [if_pos (by decide +kernel)]; kernel_rfl) | (rw [if_neg (by decide +kernel)]; exact ⟨rfl, rfl⟩))
    (fun os started H enc _ => lifted os started H enc)
theorem proved : Rows.FnExactOwnersOfSaid := over
end Go.Proofs.Ytpjahhljpoeaeaa.fnExactOwnersOf
namespace Go.Proofs.Ytpjahhljpoeaeaa
theorem fnExactOwnersOf_holds : Rows.FnExactOwnersOfSaid := fnExactOwnersOf.proved
#print axioms fnExactOwnersOf_holds
end Go.Proofs.Ytpjahhljpoeaeaa
