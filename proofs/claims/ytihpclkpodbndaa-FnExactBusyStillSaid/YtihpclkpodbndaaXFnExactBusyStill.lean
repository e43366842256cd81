/- The law FnExactBusyStill holds of the given program: for every input the call returns true, and each argument reads behind the call as it read before. No condition beyond the statement's own. -/
import Derived.Test.YtihpclkpodbndaaRows
import Derived.Test.YtihpclkpodbndaaLFnExactBusyStill1
import Derived.Test.YtihpclkpodbndaaLFnExactBusyStill2
import Derived.WalkKit
import Derived.ProofKit
import Derived.OpenShut
import Derived.ShutString
import Derived.ChangeOld
import Derived.Below
import Derived.SizedLaws
namespace Go.Proofs.Ytihpclkpodbndaa.fnExactBusyStill
open Go.ChangeShapes Go.WideShapes Go.ChangeAt Go.RowKit Go.Proofs.Ytihpclkpodbndaa Go.Proofs.Ytihpclkpodbndaa.P Go.Proofs.YtihpclkpodbndaaW.PrintWords
open Go.ChangeMaps (open_string shut_string)
theorem own : ownKnob Try.prog.godebug = none := by kernel_rfl
theorem laidOut : laidOutB Try.prog = true := by kernel_rfl
theorem arr2 {cs : Array Value} (h : cs.size = 2) : ∃ u0 u1, cs = #[u0, u1] := by
  obtain ⟨l⟩ := cs
  match l, h with
  | [u0, u1], _ => exact ⟨u0, u1, rfl⟩
set_option maxRecDepth 100000 in
theorem lifted (os : Os) (started : os.Started) (H : Type) (enc : TypeId × Value → H) :
    ReturnsInHanded {} Try.checked os 10 .any (Rows.fnExactBusyStillSpec.pre6 enc Try.prog Try.f10 Rows.fnExactBusyStillRow.domain false) (Rows.fnExactBusyStillSpec.post enc Try.prog Try.f10 false true false false) := by
  refine returnsInHanded_of_change_sized (C := Try.checked) own started (by kernel_rfl) Try.func10
    (ChangeSpec.witness6 (enc := enc) (C := Try.checked) false ⟨#[], #[.agg #[.int .i64 0, .int .i64 0], .int .i64 0, .int .i64 0, .int .i64 0], []⟩ 8 (by kernel_rfl) (by kernel_rfl) (by kernel_rfl) (by kernel_rfl)) ?_
  intro W base args ds gs before hval0 hW hcnd hsz0 _
  have hval : ∀ (j : Nat) t v, Try.f10.params[j]? = some t → args[j]? = some v → Value.okWide Try.prog W .any base t v := hval0
  have hW' := hW
  obtain ⟨p, q, hA0, hV, rfl, hfz, hnd⟩ := hW
  have hA : DataW.TrodAll enc Try.prog W 0 (fun _ => true) true Try.f10.params.toList args.toList ds p := hA0
  rw [Try.params10] at hA hval
  obtain ⟨v0, vs0, d0, ds0, p0, q0, hargs, rfl, rfl, h0, r0⟩ := trodAll_cons hA
  obtain ⟨v1, vs1, d1, ds1, p1, q1, rfl, rfl, rfl, h1, r1⟩ := trodAll_cons r0
  obtain ⟨v2, vs2, d2, ds2, p2, q2, rfl, rfl, rfl, h2, r2⟩ := trodAll_cons r1
  obtain ⟨v3, vs3, d3, ds3, p3, q3, rfl, rfl, rfl, h3, r3⟩ := trodAll_cons r2
  obtain ⟨rfl, rfl, rfl⟩ := trodAll_nil r3
  obtain rfl : args = #[v0, v1, v2, v3] := by cases args; simp_all
  obtain ⟨rfl, rfl⟩ := trodVars_none hV
  have k0 := h0
  have lt0 : ∀ x ∈ p0, x.block < W.heap.size := by obtain ⟨m, hm⟩ := k0; exact DataW.trod_lt m _ _ _ hm
  obtain ⟨cs0, rfl, hz0⟩ := okWide_struct Try.underlying46 (hval 0 46 v0 rfl rfl)
  rw [show Try.prog.cellsOf 46 = 2 from by kernel_rfl] at hz0
  obtain ⟨u0_0, u0_1, rfl⟩ := arr2 hz0
  obtain ⟨fu0, hf0⟩ := h0
  replace hf0 : DataW.trod enc Try.prog W 0 (fun _ => true) true fu0 46 [u0_0, u0_1] = some _ := hf0
  obtain ⟨nhf0_0, yhf0_0, hf0_0⟩ := Args.trod_at Try.underlying46 hf0 0 3 0 1 [u0_0] ⟨_, rfl, rfl, rfl⟩ (by kernel_rfl) rfl
  obtain ⟨a0_0, e0_0, _, w0_0⟩ := DataW.trod_int Try.underlying3 hf0_0; obtain rfl := List.head_eq_of_cons_eq e0_0
  obtain ⟨nhf0_1, yhf0_1, hf0_1⟩ := Args.trod_at Try.underlying46 hf0 1 3 1 1 [u0_1] ⟨_, rfl, rfl, rfl⟩ (by kernel_rfl) rfl
  obtain ⟨a0_1, e0_1, _, w0_1⟩ := DataW.trod_int Try.underlying3 hf0_1; obtain rfl := List.head_eq_of_cons_eq e0_1
  obtain ⟨a1, rfl, rfl, rfl, w1⟩ := open_int Try.underlying3 (hval 1 3 v1 rfl rfl) h1
  obtain ⟨a2, rfl, rfl, rfl, w2⟩ := open_int Try.underlying3 (hval 2 3 v2 rfl rfl) h2
  obtain ⟨a3, rfl, rfl, rfl, w3⟩ := open_int Try.underlying3 (hval 3 3 v3 rfl rfl) h3
  clear hA0 hval0 hsz0
  obtain ⟨k, hk⟩ := V.FnExactBusyStill a0_0 a0_1 a1 a2 a3 w0_0 w0_1 w1 w2 w3
  refine (laws_FnExactBusyStill.calls k a0_0 a0_1 a1 a2 a3 true W rfl hk).mono fun e W' ⟨he, bel0⟩ => ?_
  have bel : Below W.heap.size W W' := bel0
  subst he
  exact ⟨_, rfl, _, _, _, [], _, [], hW', trodAll_mk1 (shut_bool Try.underlying4 _), (trodAll_cons_mk (Below.trod laidOut (by kernel_rfl) (of_decide_eq_true (by kernel_rfl)) k0 bel lt0) (trodAll_cons_mk (shut_int Try.underlying3 w1) (trodAll_cons_mk (shut_int Try.underlying3 w2) (trodAll_cons_mk (shut_int Try.underlying3 w3) trodAll_mk0)))), rfl, bel.frame _, fun h => by cases h⟩
theorem over : Rows.fnExactBusyStillRow.holds Try.pinned (OpenSpec.ofChange Rows.fnExactBusyStillSpec) :=
  OpenClaim.holds_of_wide 10 Try.f10 rfl rfl rfl rfl rfl rfl rfl ⟨rfl, rfl, rfl, rfl, rfl⟩ rfl rfl rfl rfl rfl (by kernel_rfl) Try.func10 (by kernel_rfl)
    (of_decide_eq_true (by kernel_rfl)) (by unfold Func.isWrapper; first | (rw [if_pos (by decide +kernel)]; kernel_rfl) | (rw [if_neg (by decide +kernel)]; exact ⟨rfl, rfl⟩))
    (fun os started H enc _ => lifted os started H enc)
theorem proved : Rows.FnExactBusyStillSaid := over
end Go.Proofs.Ytihpclkpodbndaa.fnExactBusyStill
namespace Go.Proofs.Ytihpclkpodbndaa
theorem fnExactBusyStill_holds : Rows.FnExactBusyStillSaid := fnExactBusyStill.proved
#print axioms fnExactBusyStill_holds
end Go.Proofs.Ytihpclkpodbndaa
