/- The law FnExactHeardUnlike holds of the given program: for every input the call returns true, and each argument reads behind the call as it read before. No condition beyond the statement's own. -/
import Derived.Test.YtknckcakcknbbaaRows
import Derived.Test.YtknckcakcknbbaaM9
import Derived.Test.YtknckcakcknbbaaM8
import Derived.WalkKit
import Derived.ProofKit
import Derived.OpenShut
import Derived.ShutString
import Derived.ChangeOld
import Derived.Below
import Derived.SizedLaws
namespace Go.Proofs.Ytknckcakcknbbaa.fnExactHeardUnlike
open Go.ChangeShapes Go.WideShapes Go.ChangeAt Go.RowKit Go.Proofs.Ytknckcakcknbbaa Go.Proofs.Ytknckcakcknbbaa.P Go.Proofs.YtknckcakcknbbaaW.PrintWords
open Go.ChangeMaps (open_string shut_string)
theorem own : ownKnob Try.prog.godebug = none := by kernel_rfl
theorem laidOut : laidOutB Try.prog = true := by kernel_rfl
set_option maxRecDepth 100000 in
theorem opens75 : Args.Opens Try.prog 75 k75 (fun x => (Lit.int .i64 x.f0).wf = true ∧ (Lit.int .i64 x.f1).wf = true) := by
  intro H enc w base spare held fuel cs x h
  obtain ⟨hlen, _⟩ := Args.trod_field Try.underlying75 h
  rw [show Try.prog.cellsOf 75 = 2 from by kernel_rfl] at hlen
  match cs, hlen, h with
  | [u0, u1], _, h =>
    obtain ⟨nh_0, yh_0, h_0⟩ := Args.trod_at Try.underlying75 h 0 3 0 1 [u0] ⟨_, rfl, rfl, rfl⟩ (by kernel_rfl) rfl
    obtain ⟨a0, e0, _, w0⟩ := DataW.trod_int Try.underlying3 h_0; obtain rfl := List.head_eq_of_cons_eq e0
    obtain ⟨nh_1, yh_1, h_1⟩ := Args.trod_at Try.underlying75 h 1 3 1 1 [u1] ⟨_, rfl, rfl, rfl⟩ (by kernel_rfl) rfl
    obtain ⟨a1, e1, _, w1⟩ := DataW.trod_int Try.underlying3 h_1; obtain rfl := List.head_eq_of_cons_eq e1
    exact ⟨⟨a0, a1⟩, k75_mk _ (⟨a0, a1⟩ : S75), w0, w1⟩
set_option maxRecDepth 100000 in
theorem lifted (os : Os) (started : os.Started) (H : Type) (enc : TypeId × Value → H) :
    ReturnsInHanded {} Try.checked os 3 .any (Rows.fnExactHeardUnlikeSpec.pre6 enc Try.prog Try.f3 Rows.fnExactHeardUnlikeRow.domain false) (Rows.fnExactHeardUnlikeSpec.post enc Try.prog Try.f3 false true false false) := by
  refine returnsInHanded_of_change_sized (C := Try.checked) own started (by kernel_rfl) Try.func3
    (ChangeSpec.witness6 (enc := enc) (C := Try.checked) false ⟨#[], #[.slice none 0 0, .slice none 0 0], []⟩ 8 (by kernel_rfl) (by kernel_rfl) (by kernel_rfl) (by kernel_rfl)) ?_
  intro W base args ds gs before hval0 hW hcnd hsz0 _
  have hval : ∀ (j : Nat) t v, Try.f3.params[j]? = some t → args[j]? = some v → Value.okWide Try.prog W .any base t v := hval0
  have hW' := hW
  obtain ⟨p, q, hA0, hV, rfl, hfz, hnd⟩ := hW
  have hA : DataW.TrodAll enc Try.prog W 0 (fun _ => true) true Try.f3.params.toList args.toList ds p := hA0
  rw [Try.params3] at hA hval
  obtain ⟨v0, vs0, d0, ds0, p0, q0, hargs, rfl, rfl, h0, r0⟩ := trodAll_cons hA
  obtain ⟨v1, vs1, d1, ds1, p1, q1, rfl, rfl, rfl, h1, r1⟩ := trodAll_cons r0
  obtain ⟨rfl, rfl, rfl⟩ := trodAll_nil r1
  obtain rfl : args = #[v0, v1] := by cases args; simp_all
  obtain ⟨rfl, rfl⟩ := trodVars_none hV
  have k0 := h0
  have lt0 : ∀ x ∈ p0, x.block < W.heap.size := by obtain ⟨m, hm⟩ := k0; exact DataW.trod_lt m _ _ _ hm
  obtain ⟨A_0, len_0, cap_0, rfl⟩ := okWide_slice Try.underlying22 (hval 0 22 v0 rfl rfl)
  obtain ⟨fu0, hf0⟩ := h0
  replace hf0 : DataW.trod enc Try.prog W 0 (fun _ => true) true fu0 22 [.slice A_0 len_0 cap_0] = some _ := hf0
  obtain ⟨A0, c0, l0, e0, hC0, hl0, hm0, hb0⟩ := Args.open_row z75 Try.underlying22 (by kernel_rfl) opens75 hf0
  obtain ⟨rfl, rfl, rfl⟩ := Value.slice.inj e0.symm
  have k1 := h1
  have lt1 : ∀ x ∈ p1, x.block < W.heap.size := by obtain ⟨m, hm⟩ := k1; exact DataW.trod_lt m _ _ _ hm
  obtain ⟨A_1, len_1, cap_1, rfl⟩ := okWide_slice Try.underlying22 (hval 1 22 v1 rfl rfl)
  obtain ⟨fu1, hf1⟩ := h1
  replace hf1 : DataW.trod enc Try.prog W 0 (fun _ => true) true fu1 22 [.slice A_1 len_1 cap_1] = some _ := hf1
  obtain ⟨A1, c1, l1, e1, hC1, hl1, hm1, hb1⟩ := Args.open_row z75 Try.underlying22 (by kernel_rfl) opens75 hf1
  obtain ⟨rfl, rfl, rfl⟩ := Value.slice.inj e1.symm
  clear hA0 hval0 hsz0
  obtain ⟨k, hk⟩ := V.FnExactHeardUnlike l0 l1 ⟨hm0, hb0⟩ ⟨hm1, hb1⟩
  refine (laws_FnExactHeardUnlike.calls k A0 c0 l0 A1 c1 l1 true W hC0 hl0 hC1 hl1 rfl hk).mono fun e W' ⟨he, bel0⟩ => ?_
  have bel : Below W.heap.size W W' := bel0
  subst he
  exact ⟨_, rfl, _, _, _, [], _, [], hW', trodAll_mk1 (shut_bool Try.underlying4 _), (trodAll_cons_mk (Below.trod laidOut (by kernel_rfl) (of_decide_eq_true (by kernel_rfl)) k0 bel lt0) (trodAll_cons_mk (Below.trod laidOut (by kernel_rfl) (of_decide_eq_true (by kernel_rfl)) k1 bel lt1) trodAll_mk0)), rfl, bel.frame _, fun h => by cases h⟩
theorem over : Rows.fnExactHeardUnlikeRow.holds Try.pinned (OpenSpec.ofChange Rows.fnExactHeardUnlikeSpec) :=
  OpenClaim.holds_of_wide 3 Try.f3 rfl rfl rfl rfl rfl rfl rfl ⟨rfl, rfl, rfl, rfl, rfl⟩ rfl rfl rfl rfl rfl (by kernel_rfl) Try.func3 (by kernel_rfl)
    (of_decide_eq_true (by kernel_rfl)) (by unfold Func.isWrapper; first | (rw [if_pos (by decide +kernel)]; kernel_rfl) | (rw [if_neg (by decide +kernel)]; exact ⟨rfl, rfl⟩))
    (fun os started H enc _ => lifted os started H enc)
theorem proved : Rows.FnExactHeardUnlikeSaid := over
end Go.Proofs.Ytknckcakcknbbaa.fnExactHeardUnlike
namespace Go.Proofs.Ytknckcakcknbbaa
theorem fnExactHeardUnlike_holds : Rows.FnExactHeardUnlikeSaid := fnExactHeardUnlike.proved
#print axioms fnExactHeardUnlike_holds
end Go.Proofs.Ytknckcakcknbbaa
