/- The law FnExactGateSpan holds of the given program: for every input the call returns true, and each argument reads behind the call as it read before. No condition beyond the statement's own. -/
import Derived.Test.YtihpclkpodbndaaRows
import Derived.Test.YtihpclkpodbndaaLFnExactGateSpan2
import Derived.WalkKit
import Derived.ProofKit
import Derived.OpenShut
import Derived.ShutString
import Derived.ChangeOld
import Derived.Below
import Derived.SizedLaws
namespace Go.Proofs.Ytihpclkpodbndaa.fnExactGateSpan
open Go.ChangeShapes Go.WideShapes Go.ChangeAt Go.RowKit Go.Proofs.Ytihpclkpodbndaa Go.Proofs.Ytihpclkpodbndaa.P Go.Proofs.YtihpclkpodbndaaW.PrintWords
open Go.ChangeMaps (open_string shut_string)
theorem own : ownKnob Try.prog.godebug = none := by kernel_rfl
theorem laidOut : laidOutB Try.prog = true := by kernel_rfl
theorem arr2 {cs : Array Value} (h : cs.size = 2) : ∃ u0 u1, cs = #[u0, u1] := by
  obtain ⟨l⟩ := cs
  match l, h with
  | [u0, u1], _ => exact ⟨u0, u1, rfl⟩
set_option maxRecDepth 100000 in
theorem lifted (os : Os) (started : os.Started) (H : Type) (enc : TypeId × Value → H) :
    ReturnsInHanded {} Try.checked os 13 .any (Rows.fnExactGateSpanSpec.pre6 enc Try.prog Try.f13 Rows.fnExactGateSpanRow.domain false) (Rows.fnExactGateSpanSpec.post enc Try.prog Try.f13 false true false false) := by
  refine returnsInHanded_of_change_sized (C := Try.checked) own started (by kernel_rfl) Try.func13
    (ChangeSpec.witness6 (enc := enc) (C := Try.checked) false ⟨#[], #[.agg #[.int .i64 0, .int .i64 0], .agg #[.int .i64 0, .int .i64 0], .int .i64 0], []⟩ 8 (by kernel_rfl) (by kernel_rfl) (by kernel_rfl) (by kernel_rfl)) ?_
  intro W base args ds gs before hval0 hW hcnd hsz0 _
  have hval : ∀ (j : Nat) t v, Try.f13.params[j]? = some t → args[j]? = some v → Value.okWide Try.prog W .any base t v := hval0
  have hW' := hW
  obtain ⟨p, q, hA0, hV, rfl, hfz, hnd⟩ := hW
  have hA : DataW.TrodAll enc Try.prog W 0 (fun _ => true) true Try.f13.params.toList args.toList ds p := hA0
  rw [Try.params13] at hA hval
  obtain ⟨v0, vs0, d0, ds0, p0, q0, hargs, rfl, rfl, h0, r0⟩ := trodAll_cons hA
  obtain ⟨v1, vs1, d1, ds1, p1, q1, rfl, rfl, rfl, h1, r1⟩ := trodAll_cons r0
  obtain ⟨v2, vs2, d2, ds2, p2, q2, rfl, rfl, rfl, h2, r2⟩ := trodAll_cons r1
  obtain ⟨rfl, rfl, rfl⟩ := trodAll_nil r2
  obtain rfl : args = #[v0, v1, v2] := by cases args; simp_all
  obtain ⟨rfl, rfl⟩ := trodVars_none hV
  have k0 := h0
  have lt0 : ∀ x ∈ p0, x.block < W.heap.size := by obtain ⟨m, hm⟩ := k0; exact DataW.trod_lt m _ _ _ hm
  obtain ⟨cs0, rfl, hz0⟩ := okWide_struct Try.underlying70 (hval 0 70 v0 rfl rfl)
  rw [show Try.prog.cellsOf 70 = 2 from by kernel_rfl] at hz0
  obtain ⟨u0_0, u0_1, rfl⟩ := arr2 hz0
  obtain ⟨fu0, hf0⟩ := h0
  replace hf0 : DataW.trod enc Try.prog W 0 (fun _ => true) true fu0 70 [u0_0, u0_1] = some _ := hf0
  obtain ⟨nhf0_0, yhf0_0, hf0_0⟩ := Args.trod_at Try.underlying70 hf0 0 3 0 1 [u0_0] ⟨_, rfl, rfl, rfl⟩ (by kernel_rfl) rfl
  obtain ⟨a0_0, e0_0, _, w0_0⟩ := DataW.trod_int Try.underlying3 hf0_0; obtain rfl := List.head_eq_of_cons_eq e0_0
  obtain ⟨nhf0_1, yhf0_1, hf0_1⟩ := Args.trod_at Try.underlying70 hf0 1 3 1 1 [u0_1] ⟨_, rfl, rfl, rfl⟩ (by kernel_rfl) rfl
  obtain ⟨a0_1, e0_1, _, w0_1⟩ := DataW.trod_int Try.underlying3 hf0_1; obtain rfl := List.head_eq_of_cons_eq e0_1
  have k1 := h1
  have lt1 : ∀ x ∈ p1, x.block < W.heap.size := by obtain ⟨m, hm⟩ := k1; exact DataW.trod_lt m _ _ _ hm
  obtain ⟨cs1, rfl, hz1⟩ := okWide_struct Try.underlying46 (hval 1 46 v1 rfl rfl)
  rw [show Try.prog.cellsOf 46 = 2 from by kernel_rfl] at hz1
  obtain ⟨u1_0, u1_1, rfl⟩ := arr2 hz1
  obtain ⟨fu1, hf1⟩ := h1
  replace hf1 : DataW.trod enc Try.prog W 0 (fun _ => true) true fu1 46 [u1_0, u1_1] = some _ := hf1
  obtain ⟨nhf1_0, yhf1_0, hf1_0⟩ := Args.trod_at Try.underlying46 hf1 0 3 0 1 [u1_0] ⟨_, rfl, rfl, rfl⟩ (by kernel_rfl) rfl
  obtain ⟨a1_0, e1_0, _, w1_0⟩ := DataW.trod_int Try.underlying3 hf1_0; obtain rfl := List.head_eq_of_cons_eq e1_0
  obtain ⟨nhf1_1, yhf1_1, hf1_1⟩ := Args.trod_at Try.underlying46 hf1 1 3 1 1 [u1_1] ⟨_, rfl, rfl, rfl⟩ (by kernel_rfl) rfl
  obtain ⟨a1_1, e1_1, _, w1_1⟩ := DataW.trod_int Try.underlying3 hf1_1; obtain rfl := List.head_eq_of_cons_eq e1_1
  obtain ⟨a2, rfl, rfl, rfl, w2⟩ := open_int Try.underlying3 (hval 2 3 v2 rfl rfl) h2
  clear hA0 hval0 hsz0
  obtain ⟨k, hk⟩ := V.FnExactGateSpan a0_0 a0_1 a1_0 a1_1 a2 w0_0 w0_1 w1_0 w1_1 w2
  refine (laws_FnExactGateSpan.calls k a0_0 a0_1 a1_0 a1_1 a2 true W rfl hk).mono fun e W' ⟨he, bel0⟩ => ?_
  have bel : Below W.heap.size W W' := bel0
  subst he
  exact ⟨_, rfl, _, _, _, [], _, [], hW', trodAll_mk1 (shut_bool Try.underlying4 _), (trodAll_cons_mk (Below.trod laidOut (by kernel_rfl) (of_decide_eq_true (by kernel_rfl)) k0 bel lt0) (trodAll_cons_mk (Below.trod laidOut (by kernel_rfl) (of_decide_eq_true (by kernel_rfl)) k1 bel lt1) (trodAll_cons_mk (shut_int Try.underlying3 w2) trodAll_mk0))), rfl, bel.frame _, fun h => by cases h⟩
theorem over : Rows.fnExactGateSpanRow.holds Try.pinned (OpenSpec.ofChange Rows.fnExactGateSpanSpec) :=
  OpenClaim.holds_of_wide 13 Try.f13 rfl rfl rfl rfl rfl rfl rfl ⟨rfl, rfl, rfl, rfl, rfl⟩ rfl rfl rfl rfl rfl (by kernel_rfl) Try.func13 (by kernel_rfl)
    (of_decide_eq_true (by kernel_rfl)) (by unfold Func.isWrapper; first | (rw [if_pos (by decide +kernel)]; kernel_rfl) | (rw [if_neg (by decide +kernel)]; exact ⟨rfl, rfl⟩))
    (fun os started H enc _ => lifted os started H enc)
theorem proved : Rows.FnExactGateSpanSaid := over
end Go.Proofs.Ytihpclkpodbndaa.fnExactGateSpan
namespace Go.Proofs.Ytihpclkpodbndaa
theorem fnExactGateSpan_holds : Rows.FnExactGateSpanSaid := fnExactGateSpan.proved
#print axioms fnExactGateSpan_holds
end Go.Proofs.Ytihpclkpodbndaa
