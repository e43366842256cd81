/- The law FnExactGateWait holds of the given program: for every input the call returns true, and each argument reads behind the call as it read before. No condition beyond the statement's own. -/
import Derived.Test.YtejohmompmjhnaaRows
import Derived.Test.YtejohmompmjhnaaKFEGW8
import Derived.Test.YtejohmompmjhnaaKFEGW9
import Derived.WalkKit
import Derived.ProofKit
import Derived.OpenShut
import Derived.ShutString
import Derived.ChangeOld
import Derived.Below
import Derived.SizedLaws
namespace Go.Proofs.Ytejohmompmjhnaa.fnExactGateWait
open Go.ChangeShapes Go.WideShapes Go.ChangeAt Go.RowKit Go.Proofs.Ytejohmompmjhnaa Go.Proofs.Ytejohmompmjhnaa.P Go.Proofs.YtejohmompmjhnaaW.PrintWords
open Go.ChangeMaps (open_string shut_string)
theorem own : ownKnob Try.prog.godebug = none := by kernel_rfl
theorem laidOut : laidOutB Try.prog = true := by kernel_rfl
theorem arr2 {cs : Array Value} (h : cs.size = 2) : ∃ u0 u1, cs = #[u0, u1] := by
  obtain ⟨l⟩ := cs
  match l, h with
  | [u0, u1], _ => exact ⟨u0, u1, rfl⟩
theorem arr3 {cs : Array Value} (h : cs.size = 3) : ∃ u0 u1 u2, cs = #[u0, u1, u2] := by
  obtain ⟨l⟩ := cs
  match l, h with
  | [u0, u1, u2], _ => exact ⟨u0, u1, u2, rfl⟩
theorem arr4 {cs : Array Value} (h : cs.size = 4) : ∃ u0 u1 u2 u3, cs = #[u0, u1, u2, u3] := by
  obtain ⟨l⟩ := cs
  match l, h with
  | [u0, u1, u2, u3], _ => exact ⟨u0, u1, u2, u3, rfl⟩
set_option maxRecDepth 100000 in
theorem opens104 : Args.Opens Try.prog 104 k104 (fun x => (Lit.int .i64 x.f0).wf = true ∧ (Lit.int .i64 x.f1).wf = true) := by
  intro H enc w base spare held fuel cs x h
  obtain ⟨hlen, _⟩ := Args.trod_field Try.underlying104 h
  rw [show Try.prog.cellsOf 104 = 2 from by kernel_rfl] at hlen
  match cs, hlen, h with
  | [u0, u1], _, h =>
    obtain ⟨nh_0, yh_0, h_0⟩ := Args.trod_at Try.underlying104 h 0 3 0 1 [u0] ⟨_, rfl, rfl, rfl⟩ (by kernel_rfl) rfl
    obtain ⟨a0, e0, _, w0⟩ := DataW.trod_int Try.underlying3 h_0; obtain rfl := List.head_eq_of_cons_eq e0
    obtain ⟨nh_1, yh_1, h_1⟩ := Args.trod_at Try.underlying104 h 1 3 1 1 [u1] ⟨_, rfl, rfl, rfl⟩ (by kernel_rfl) rfl
    obtain ⟨a1, e1, _, w1⟩ := DataW.trod_int Try.underlying3 h_1; obtain rfl := List.head_eq_of_cons_eq e1
    exact ⟨⟨a0, a1⟩, k104_mk _ (⟨a0, a1⟩ : S104), w0, w1⟩
set_option maxRecDepth 100000 in
theorem lifted (os : Os) (started : os.Started) (H : Type) (enc : TypeId × Value → H) :
    ReturnsInHanded {} Try.checked os 7 .any (Rows.fnExactGateWaitSpec.pre6 enc Try.prog Try.f7 Rows.fnExactGateWaitRow.domain false) (Rows.fnExactGateWaitSpec.post enc Try.prog Try.f7 false true false false) := by
  refine returnsInHanded_of_change_sized (C := Try.checked) own started (by kernel_rfl) Try.func7
    (ChangeSpec.witness6 (enc := enc) (C := Try.checked) false ⟨#[], #[.agg #[.bool false, .int .i64 0, .int .i64 0, .int .i64 0], .agg #[.int .i64 0, .int .i64 0], .int .i64 0, .agg #[.int .i64 0, .int .i64 0, .slice none 0 0], .int .i64 0, .int .i64 0, .int .i64 0], []⟩ 8 (by kernel_rfl) (by kernel_rfl) (by kernel_rfl) (by kernel_rfl)) ?_
  intro W base args ds gs before hval0 hW hcnd hsz0 _
  have hval : ∀ (j : Nat) t v, Try.f7.params[j]? = some t → args[j]? = some v → Value.okWide Try.prog W .any base t v := hval0
  have hW' := hW
  obtain ⟨p, q, hA0, hV, rfl, hfz, hnd⟩ := hW
  have hA : DataW.TrodAll enc Try.prog W 0 (fun _ => true) true Try.f7.params.toList args.toList ds p := hA0
  rw [Try.params7] at hA hval
  obtain ⟨v0, vs0, d0, ds0, p0, q0, hargs, rfl, rfl, h0, r0⟩ := trodAll_cons hA
  obtain ⟨v1, vs1, d1, ds1, p1, q1, rfl, rfl, rfl, h1, r1⟩ := trodAll_cons r0
  obtain ⟨v2, vs2, d2, ds2, p2, q2, rfl, rfl, rfl, h2, r2⟩ := trodAll_cons r1
  obtain ⟨v3, vs3, d3, ds3, p3, q3, rfl, rfl, rfl, h3, r3⟩ := trodAll_cons r2
  obtain ⟨v4, vs4, d4, ds4, p4, q4, rfl, rfl, rfl, h4, r4⟩ := trodAll_cons r3
  obtain ⟨v5, vs5, d5, ds5, p5, q5, rfl, rfl, rfl, h5, r5⟩ := trodAll_cons r4
  obtain ⟨v6, vs6, d6, ds6, p6, q6, rfl, rfl, rfl, h6, r6⟩ := trodAll_cons r5
  obtain ⟨rfl, rfl, rfl⟩ := trodAll_nil r6
  obtain rfl : args = #[v0, v1, v2, v3, v4, v5, v6] := by cases args; simp_all
  obtain ⟨rfl, rfl⟩ := trodVars_none hV
  have k0 := h0
  have lt0 : ∀ x ∈ p0, x.block < W.heap.size := by obtain ⟨m, hm⟩ := k0; exact DataW.trod_lt m _ _ _ hm
  obtain ⟨cs0, rfl, hz0⟩ := okWide_struct Try.underlying59 (hval 0 59 v0 rfl rfl)
  rw [show Try.prog.cellsOf 59 = 4 from by kernel_rfl] at hz0
  obtain ⟨u0_0, u0_1, u0_2, u0_3, rfl⟩ := arr4 hz0
  obtain ⟨fu0, hf0⟩ := h0
  replace hf0 : DataW.trod enc Try.prog W 0 (fun _ => true) true fu0 59 [u0_0, u0_1, u0_2, u0_3] = some _ := hf0
  obtain ⟨nhf0_0, yhf0_0, hf0_0⟩ := Args.trod_at Try.underlying59 hf0 0 4 0 1 [u0_0] ⟨_, rfl, rfl, rfl⟩ (by kernel_rfl) rfl
  obtain ⟨a0_0, e0_0, _⟩ := DataW.trod_bool Try.underlying4 hf0_0; obtain rfl := List.head_eq_of_cons_eq e0_0
  obtain ⟨nhf0_1, yhf0_1, hf0_1⟩ := Args.trod_at Try.underlying59 hf0 1 23 1 2 [u0_1, u0_2] ⟨_, rfl, rfl, rfl⟩ (by kernel_rfl) rfl
  obtain ⟨nhf0_1_0, yhf0_1_0, hf0_1_0⟩ := Args.trod_at Try.underlying23 hf0_1 0 3 0 1 [u0_1] ⟨_, rfl, rfl, rfl⟩ (by kernel_rfl) rfl
  obtain ⟨a0_1, e0_1, _, w0_1⟩ := DataW.trod_int Try.underlying3 hf0_1_0; obtain rfl := List.head_eq_of_cons_eq e0_1
  obtain ⟨nhf0_1_1, yhf0_1_1, hf0_1_1⟩ := Args.trod_at Try.underlying23 hf0_1 1 3 1 1 [u0_2] ⟨_, rfl, rfl, rfl⟩ (by kernel_rfl) rfl
  obtain ⟨a0_2, e0_2, _, w0_2⟩ := DataW.trod_int Try.underlying3 hf0_1_1; obtain rfl := List.head_eq_of_cons_eq e0_2
  obtain ⟨nhf0_2, yhf0_2, hf0_2⟩ := Args.trod_at Try.underlying59 hf0 2 3 3 1 [u0_3] ⟨_, rfl, rfl, rfl⟩ (by kernel_rfl) rfl
  obtain ⟨a0_3, e0_3, _, w0_3⟩ := DataW.trod_int Try.underlying3 hf0_2; obtain rfl := List.head_eq_of_cons_eq e0_3
  have k1 := h1
  have lt1 : ∀ x ∈ p1, x.block < W.heap.size := by obtain ⟨m, hm⟩ := k1; exact DataW.trod_lt m _ _ _ hm
  obtain ⟨cs1, rfl, hz1⟩ := okWide_struct Try.underlying25 (hval 1 25 v1 rfl rfl)
  rw [show Try.prog.cellsOf 25 = 2 from by kernel_rfl] at hz1
  obtain ⟨u1_0, u1_1, rfl⟩ := arr2 hz1
  obtain ⟨fu1, hf1⟩ := h1
  replace hf1 : DataW.trod enc Try.prog W 0 (fun _ => true) true fu1 25 [u1_0, u1_1] = some _ := hf1
  obtain ⟨nhf1_0, yhf1_0, hf1_0⟩ := Args.trod_at Try.underlying25 hf1 0 3 0 1 [u1_0] ⟨_, rfl, rfl, rfl⟩ (by kernel_rfl) rfl
  obtain ⟨a1_0, e1_0, _, w1_0⟩ := DataW.trod_int Try.underlying3 hf1_0; obtain rfl := List.head_eq_of_cons_eq e1_0
  obtain ⟨nhf1_1, yhf1_1, hf1_1⟩ := Args.trod_at Try.underlying25 hf1 1 3 1 1 [u1_1] ⟨_, rfl, rfl, rfl⟩ (by kernel_rfl) rfl
  obtain ⟨a1_1, e1_1, _, w1_1⟩ := DataW.trod_int Try.underlying3 hf1_1; obtain rfl := List.head_eq_of_cons_eq e1_1
  obtain ⟨a2, rfl, rfl, rfl, w2⟩ := open_int Try.underlying3 (hval 2 3 v2 rfl rfl) h2
  have k3 := h3
  have lt3 : ∀ x ∈ p3, x.block < W.heap.size := by obtain ⟨m, hm⟩ := k3; exact DataW.trod_lt m _ _ _ hm
  obtain ⟨cs3, rfl, hz3⟩ := okWide_struct Try.underlying28 (hval 3 28 v3 rfl rfl)
  rw [show Try.prog.cellsOf 28 = 3 from by kernel_rfl] at hz3
  obtain ⟨u3_0, u3_1, u3_2, rfl⟩ := arr3 hz3
  obtain ⟨fu3, hf3⟩ := h3
  replace hf3 : DataW.trod enc Try.prog W 0 (fun _ => true) true fu3 28 [u3_0, u3_1, u3_2] = some _ := hf3
  obtain ⟨nhf3_0, yhf3_0, hf3_0⟩ := Args.trod_at Try.underlying28 hf3 0 3 0 1 [u3_0] ⟨_, rfl, rfl, rfl⟩ (by kernel_rfl) rfl
  obtain ⟨a3_0, e3_0, _, w3_0⟩ := DataW.trod_int Try.underlying3 hf3_0; obtain rfl := List.head_eq_of_cons_eq e3_0
  obtain ⟨nhf3_1, yhf3_1, hf3_1⟩ := Args.trod_at Try.underlying28 hf3 1 3 1 1 [u3_1] ⟨_, rfl, rfl, rfl⟩ (by kernel_rfl) rfl
  obtain ⟨a3_1, e3_1, _, w3_1⟩ := DataW.trod_int Try.underlying3 hf3_1; obtain rfl := List.head_eq_of_cons_eq e3_1
  obtain ⟨nhf3_2, yhf3_2, hf3_2⟩ := Args.trod_at Try.underlying28 hf3 2 26 2 1 [u3_2] ⟨_, rfl, rfl, rfl⟩ (by kernel_rfl) rfl
  obtain ⟨A3_2, c3_2, l3_2, rfl, hC3_2, hl3_2, hm3_2, hb3_2⟩ := Args.open_row z104 Try.underlying26 (by kernel_rfl) opens104 hf3_2
  obtain ⟨a4, rfl, rfl, rfl, w4⟩ := open_int Try.underlying3 (hval 4 3 v4 rfl rfl) h4
  obtain ⟨a5, rfl, rfl, rfl, w5⟩ := open_int Try.underlying3 (hval 5 3 v5 rfl rfl) h5
  obtain ⟨a6, rfl, rfl, rfl, w6⟩ := open_int Try.underlying3 (hval 6 3 v6 rfl rfl) h6
  clear hA0 hval0 hsz0
  obtain ⟨k, hk⟩ := V.FnExactGateWait a0_0 a0_1 a0_2 a0_3 a1_0 a1_1 a2 a3_0 a3_1 l3_2 a4 a5 a6 w0_1 w0_2 w0_3 w1_0 w1_1 w2 w3_0 w3_1 ⟨hm3_2, hb3_2⟩ w4 w5 w6
  refine (laws_FnExactGateWait.calls k a0_0 a0_1 a0_2 a0_3 a1_0 a1_1 a2 a3_0 a3_1 A3_2 c3_2 l3_2 a4 a5 a6 true W hC3_2 hl3_2 rfl hk).mono fun e W' ⟨he, bel0⟩ => ?_
  have bel : Below W.heap.size W W' := bel0
  subst he
  exact ⟨_, rfl, _, _, _, [], _, [], hW', trodAll_mk1 (shut_bool Try.underlying4 _), (trodAll_cons_mk (Below.trod laidOut (by kernel_rfl) (of_decide_eq_true (by kernel_rfl)) k0 bel lt0) (trodAll_cons_mk (Below.trod laidOut (by kernel_rfl) (of_decide_eq_true (by kernel_rfl)) k1 bel lt1) (trodAll_cons_mk (shut_int Try.underlying3 w2) (trodAll_cons_mk (Below.trod laidOut (by kernel_rfl) (of_decide_eq_true (by kernel_rfl)) k3 bel lt3) (trodAll_cons_mk (shut_int Try.underlying3 w4) (trodAll_cons_mk (shut_int Try.underlying3 w5) (trodAll_cons_mk (shut_int Try.underlying3 w6) trodAll_mk0))))))), rfl, bel.frame _, fun h => by cases h⟩
theorem over : Rows.fnExactGateWaitRow.holds Try.pinned (OpenSpec.ofChange Rows.fnExactGateWaitSpec) :=
  OpenClaim.holds_of_wide 7 Try.f7 rfl rfl rfl rfl rfl rfl rfl ⟨rfl, rfl, rfl, rfl, rfl⟩ rfl rfl rfl rfl rfl (by kernel_rfl) Try.func7 (by kernel_rfl)
    (of_decide_eq_true (by kernel_rfl)) (by unfold Func.isWrapper; first | (rw [if_pos (by decide +kernel)]; kernel_rfl) | (rw [if_neg (by decide +kernel)]; exact ⟨rfl, rfl⟩))
    (fun os started H enc _ => lifted os started H enc)
theorem proved : Rows.FnExactGateWaitSaid := over
end Go.Proofs.Ytejohmompmjhnaa.fnExactGateWait
namespace Go.Proofs.Ytejohmompmjhnaa
theorem fnExactGateWait_holds : Rows.FnExactGateWaitSaid := fnExactGateWait.proved
#print axioms fnExactGateWait_holds
end Go.Proofs.Ytejohmompmjhnaa
