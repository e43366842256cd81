/- The law FnExactHeardOwners holds of the given program: for every input the call returns true, and each argument reads behind the call as it read before. No condition beyond the statement's own. -/
import Derived.Test.YtpjahhljpoeaeaaRows
import Derived.Test.YtpjahhljpoeaeaaKFEHO5
import Derived.Test.YtpjahhljpoeaeaaKFEHO6
import Derived.WalkKit
import Derived.ProofKit
import Derived.OpenShut
import Derived.ShutString
import Derived.ChangeOld
import Derived.Below
import Derived.SizedLaws
namespace Go.Proofs.Ytpjahhljpoeaeaa.fnExactHeardOwners
open Go.ChangeShapes Go.WideShapes Go.ChangeAt Go.RowKit Go.Proofs.Ytpjahhljpoeaeaa Go.Proofs.Ytpjahhljpoeaeaa.P Go.Proofs.YtpjahhljpoeaeaaW.PrintWords
open Go.ChangeMaps (open_string shut_string)
theorem own : ownKnob Try.prog.godebug = none := by kernel_rfl
theorem laidOut : laidOutB Try.prog = true := by kernel_rfl
theorem arr3 {cs : Array Value} (h : cs.size = 3) : ∃ u0 u1 u2, cs = #[u0, u1, u2] := by
  obtain ⟨l⟩ := cs
  match l, h with
  | [u0, u1, u2], _ => exact ⟨u0, u1, u2, rfl⟩
set_option maxRecDepth 100000 in
theorem opens83 : Args.Opens Try.prog 83 k83 (fun x => (Lit.int .i64 x.f0).wf = true ∧ (Lit.int .i64 x.f1).wf = true) := by
  intro H enc w base spare held fuel cs x h
  obtain ⟨hlen, _⟩ := Args.trod_field Try.underlying83 h
  rw [show Try.prog.cellsOf 83 = 2 from by kernel_rfl] at hlen
  match cs, hlen, h with
  | [u0, u1], _, h =>
    obtain ⟨nh_0, yh_0, h_0⟩ := Args.trod_at Try.underlying83 h 0 3 0 1 [u0] ⟨_, rfl, rfl, rfl⟩ (by kernel_rfl) rfl
    obtain ⟨a0, e0, _, w0⟩ := DataW.trod_int Try.underlying3 h_0; obtain rfl := List.head_eq_of_cons_eq e0
    obtain ⟨nh_1, yh_1, h_1⟩ := Args.trod_at Try.underlying83 h 1 3 1 1 [u1] ⟨_, rfl, rfl, rfl⟩ (by kernel_rfl) rfl
    obtain ⟨a1, e1, _, w1⟩ := DataW.trod_int Try.underlying3 h_1; obtain rfl := List.head_eq_of_cons_eq e1
    exact ⟨⟨a0, a1⟩, k83_mk _ (⟨a0, a1⟩ : S83), w0, w1⟩
set_option maxRecDepth 100000 in
theorem opens113 : Args.Opens Try.prog 113 k113 (fun x => (Lit.int .i64 x.f0).wf = true ∧ (Lit.int .i64 x.f1).wf = true) := by
  intro H enc w base spare held fuel cs x h
  obtain ⟨hlen, _⟩ := Args.trod_field Try.underlying113 h
  rw [show Try.prog.cellsOf 113 = 2 from by kernel_rfl] at hlen
  match cs, hlen, h with
  | [u0, u1], _, h =>
    obtain ⟨nh_0, yh_0, h_0⟩ := Args.trod_at Try.underlying113 h 0 3 0 1 [u0] ⟨_, rfl, rfl, rfl⟩ (by kernel_rfl) rfl
    obtain ⟨a0, e0, _, w0⟩ := DataW.trod_int Try.underlying3 h_0; obtain rfl := List.head_eq_of_cons_eq e0
    obtain ⟨nh_1, yh_1, h_1⟩ := Args.trod_at Try.underlying113 h 1 3 1 1 [u1] ⟨_, rfl, rfl, rfl⟩ (by kernel_rfl) rfl
    obtain ⟨a1, e1, _, w1⟩ := DataW.trod_int Try.underlying3 h_1; obtain rfl := List.head_eq_of_cons_eq e1
    exact ⟨⟨a0, a1⟩, k113_mk _ (⟨a0, a1⟩ : S113), w0, w1⟩
set_option maxRecDepth 100000 in
theorem lifted (os : Os) (started : os.Started) (H : Type) (enc : TypeId × Value → H) :
    ReturnsInHanded {} Try.checked os 4 .any (Rows.fnExactHeardOwnersSpec.pre6 enc Try.prog Try.f4 Rows.fnExactHeardOwnersRow.domain false) (Rows.fnExactHeardOwnersSpec.post enc Try.prog Try.f4 false true false false) := by
  refine returnsInHanded_of_change_sized (C := Try.checked) own started (by kernel_rfl) Try.func4
    (ChangeSpec.witness6 (enc := enc) (C := Try.checked) false ⟨#[], #[.slice none 0 0, .agg #[.int .i64 0, .int .i64 0, .slice none 0 0]], []⟩ 8 (by kernel_rfl) (by kernel_rfl) (by kernel_rfl) (by kernel_rfl)) ?_
  intro W base args ds gs before hval0 hW hcnd hsz0 _
  have hval : ∀ (j : Nat) t v, Try.f4.params[j]? = some t → args[j]? = some v → Value.okWide Try.prog W .any base t v := hval0
  have hW' := hW
  obtain ⟨p, q, hA0, hV, rfl, hfz, hnd⟩ := hW
  have hA : DataW.TrodAll enc Try.prog W 0 (fun _ => true) true Try.f4.params.toList args.toList ds p := hA0
  rw [Try.params4] at hA hval
  obtain ⟨v0, vs0, d0, ds0, p0, q0, hargs, rfl, rfl, h0, r0⟩ := trodAll_cons hA
  obtain ⟨v1, vs1, d1, ds1, p1, q1, rfl, rfl, rfl, h1, r1⟩ := trodAll_cons r0
  obtain ⟨rfl, rfl, rfl⟩ := trodAll_nil r1
  obtain rfl : args = #[v0, v1] := by cases args; simp_all
  obtain ⟨rfl, rfl⟩ := trodVars_none hV
  have k0 := h0
  have lt0 : ∀ x ∈ p0, x.block < W.heap.size := by obtain ⟨m, hm⟩ := k0; exact DataW.trod_lt m _ _ _ hm
  obtain ⟨A_0, len_0, cap_0, rfl⟩ := okWide_slice Try.underlying22 (hval 0 22 v0 rfl rfl)
  obtain ⟨fu0, hf0⟩ := h0
  replace hf0 : DataW.trod enc Try.prog W 0 (fun _ => true) true fu0 22 [.slice A_0 len_0 cap_0] = some _ := hf0
  obtain ⟨A0, c0, l0, e0, hC0, hl0, hm0, hb0⟩ := Args.open_row z83 Try.underlying22 (by kernel_rfl) opens83 hf0
  obtain ⟨rfl, rfl, rfl⟩ := Value.slice.inj e0.symm
  have k1 := h1
  have lt1 : ∀ x ∈ p1, x.block < W.heap.size := by obtain ⟨m, hm⟩ := k1; exact DataW.trod_lt m _ _ _ hm
  obtain ⟨cs1, rfl, hz1⟩ := okWide_struct Try.underlying25 (hval 1 25 v1 rfl rfl)
  rw [show Try.prog.cellsOf 25 = 3 from by kernel_rfl] at hz1
  obtain ⟨u1_0, u1_1, u1_2, rfl⟩ := arr3 hz1
  obtain ⟨fu1, hf1⟩ := h1
  replace hf1 : DataW.trod enc Try.prog W 0 (fun _ => true) true fu1 25 [u1_0, u1_1, u1_2] = some _ := hf1
  obtain ⟨nhf1_0, yhf1_0, hf1_0⟩ := Args.trod_at Try.underlying25 hf1 0 3 0 1 [u1_0] ⟨_, rfl, rfl, rfl⟩ (by kernel_rfl) rfl
  obtain ⟨a1_0, e1_0, _, w1_0⟩ := DataW.trod_int Try.underlying3 hf1_0; obtain rfl := List.head_eq_of_cons_eq e1_0
  obtain ⟨nhf1_1, yhf1_1, hf1_1⟩ := Args.trod_at Try.underlying25 hf1 1 3 1 1 [u1_1] ⟨_, rfl, rfl, rfl⟩ (by kernel_rfl) rfl
  obtain ⟨a1_1, e1_1, _, w1_1⟩ := DataW.trod_int Try.underlying3 hf1_1; obtain rfl := List.head_eq_of_cons_eq e1_1
  obtain ⟨nhf1_2, yhf1_2, hf1_2⟩ := Args.trod_at Try.underlying25 hf1 2 23 2 1 [u1_2] ⟨_, rfl, rfl, rfl⟩ (by kernel_rfl) rfl
  obtain ⟨A1_2, c1_2, l1_2, rfl, hC1_2, hl1_2, hm1_2, hb1_2⟩ := Args.open_row z113 Try.underlying23 (by kernel_rfl) opens113 hf1_2
  clear hA0 hval0 hsz0
  obtain ⟨k, hk⟩ := V.FnExactHeardOwners l0 a1_0 a1_1 l1_2 ⟨hm0, hb0⟩ w1_0 w1_1 ⟨hm1_2, hb1_2⟩
  refine (laws_FnExactHeardOwners.calls k A0 c0 l0 a1_0 a1_1 A1_2 c1_2 l1_2 true W hC0 hl0 hC1_2 hl1_2 rfl hk).mono fun e W' ⟨he, bel0⟩ => ?_
  have bel : Below W.heap.size W W' := bel0
  subst he
  exact ⟨_, rfl, _, _, _, [], _, [], hW', trodAll_mk1 (shut_bool Try.underlying4 _), (trodAll_cons_mk (Below.trod laidOut (by kernel_rfl) (of_decide_eq_true (by kernel_rfl)) k0 bel lt0) (trodAll_cons_mk (Below.trod laidOut (by kernel_rfl) (of_decide_eq_true (by kernel_rfl)) k1 bel lt1) trodAll_mk0)), rfl, bel.frame _, fun h => by cases h⟩
theorem over : Rows.fnExactHeardOwnersRow.holds Try.pinned (OpenSpec.ofChange Rows.fnExactHeardOwnersSpec) :=
  OpenClaim.holds_of_wide 4 Try.f4 rfl rfl rfl rfl rfl rfl rfl ⟨rfl, rfl, rfl, rfl, rfl⟩ rfl rfl rfl rfl rfl (by kernel_rfl) Try.func4 (by kernel_rfl)
    (of_decide_eq_true (by kernel_rfl)) (by unfold Func.isWrapper; first | (rw [if_pos (by decide +kernel)]; kernel_rfl) | (rw [if_neg (by decide +kernel)]; exact ⟨rfl, rfl⟩))
    (fun os started H enc _ => lifted os started H enc)
theorem proved : Rows.FnExactHeardOwnersSaid := over
end Go.Proofs.Ytpjahhljpoeaeaa.fnExactHeardOwners
namespace Go.Proofs.Ytpjahhljpoeaeaa
theorem fnExactHeardOwners_holds : Rows.FnExactHeardOwnersSaid := fnExactHeardOwners.proved
#print axioms fnExactHeardOwners_holds
end Go.Proofs.Ytpjahhljpoeaeaa
