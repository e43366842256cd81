/- The law FnExactCfgOk holds of the given program: for every input the call returns true, and each argument reads behind the call as it read before. No condition beyond the statement's own. -/
import Derived.Test.YtcbglmoeogbakaaRows
import Derived.Test.YtcbglmoeogbakaaM4
import Derived.WalkKit
import Derived.ProofKit
import Derived.OpenShut
import Derived.ShutString
import Derived.ChangeOld
import Derived.Below
import Derived.SizedLaws
namespace Go.Proofs.Ytcbglmoeogbakaa.fnExactCfgOk
open Go.ChangeShapes Go.WideShapes Go.ChangeAt Go.RowKit Go.Proofs.Ytcbglmoeogbakaa Go.Proofs.Ytcbglmoeogbakaa.P Go.Proofs.YtcbglmoeogbakaaW.PrintWords
open Go.ChangeMaps (open_string shut_string)
theorem own : ownKnob Try.prog.godebug = none := by kernel_rfl
theorem laidOut : laidOutB Try.prog = true := by kernel_rfl
theorem arr11 {cs : Array Value} (h : cs.size = 11) : ∃ u0 u1 u2 u3 u4 u5 u6 u7 u8 u9 u10, cs = #[u0, u1, u2, u3, u4, u5, u6, u7, u8, u9, u10] := by
  obtain ⟨l⟩ := cs
  match l, h with
  | [u0, u1, u2, u3, u4, u5, u6, u7, u8, u9, u10], _ => exact ⟨u0, u1, u2, u3, u4, u5, u6, u7, u8, u9, u10, rfl⟩
set_option maxRecDepth 100000 in
theorem opens109 : Args.Opens Try.prog 109 k109 (fun x => (Lit.int .i64 x.f0).wf = true ∧ (Lit.int .i64 x.f1).wf = true) := by
  intro H enc w base spare held fuel cs x h
  obtain ⟨hlen, _⟩ := Args.trod_field Try.underlying109 h
  rw [show Try.prog.cellsOf 109 = 2 from by kernel_rfl] at hlen
  match cs, hlen, h with
  | [u0, u1], _, h =>
    obtain ⟨nh_0, yh_0, h_0⟩ := Args.trod_at Try.underlying109 h 0 3 0 1 [u0] ⟨_, rfl, rfl, rfl⟩ (by kernel_rfl) rfl
    obtain ⟨a0, e0, _, w0⟩ := DataW.trod_int Try.underlying3 h_0; obtain rfl := List.head_eq_of_cons_eq e0
    obtain ⟨nh_1, yh_1, h_1⟩ := Args.trod_at Try.underlying109 h 1 3 1 1 [u1] ⟨_, rfl, rfl, rfl⟩ (by kernel_rfl) rfl
    obtain ⟨a1, e1, _, w1⟩ := DataW.trod_int Try.underlying3 h_1; obtain rfl := List.head_eq_of_cons_eq e1
    exact ⟨⟨a0, a1⟩, k109_mk _ (⟨a0, a1⟩ : S109), w0, w1⟩
set_option maxRecDepth 100000 in
theorem lifted (os : Os) (started : os.Started) (H : Type) (enc : TypeId × Value → H) :
    ReturnsInHanded {} Try.checked os 7 .any (Rows.fnExactCfgOkSpec.pre6 enc Try.prog Try.f7 Rows.fnExactCfgOkRow.domain false) (Rows.fnExactCfgOkSpec.post enc Try.prog Try.f7 false true false false) := by
  refine returnsInHanded_of_change_sized (C := Try.checked) own started (by kernel_rfl) Try.func7
    (ChangeSpec.witness6 (enc := enc) (C := Try.checked) false ⟨#[], #[.agg #[.int .i64 0, .int .i64 0, .int .i64 0, .int .i64 0, .int .i64 0, .int .i64 0, .int .i64 0, .int .i64 0, .int .i64 0, .int .i64 0, .slice none 0 0]], []⟩ 8 (by kernel_rfl) (by kernel_rfl) (by kernel_rfl) (by kernel_rfl)) ?_
  intro W base args ds gs before hval0 hW hcnd hsz0 _
  have hval : ∀ (j : Nat) t v, Try.f7.params[j]? = some t → args[j]? = some v → Value.okWide Try.prog W .any base t v := hval0
  have hW' := hW
  obtain ⟨p, q, hA0, hV, rfl, hfz, hnd⟩ := hW
  have hA : DataW.TrodAll enc Try.prog W 0 (fun _ => true) true Try.f7.params.toList args.toList ds p := hA0
  rw [Try.params7] at hA hval
  obtain ⟨v0, vs0, d0, ds0, p0, q0, hargs, rfl, rfl, h0, r0⟩ := trodAll_cons hA
  obtain ⟨rfl, rfl, rfl⟩ := trodAll_nil r0
  obtain rfl : args = #[v0] := by cases args; simp_all
  obtain ⟨rfl, rfl⟩ := trodVars_none hV
  have k0 := h0
  have lt0 : ∀ x ∈ p0, x.block < W.heap.size := by obtain ⟨m, hm⟩ := k0; exact DataW.trod_lt m _ _ _ hm
  obtain ⟨cs0, rfl, hz0⟩ := okWide_struct Try.underlying67 (hval 0 67 v0 rfl rfl)
  rw [show Try.prog.cellsOf 67 = 11 from by kernel_rfl] at hz0
  obtain ⟨u0_0, u0_1, u0_2, u0_3, u0_4, u0_5, u0_6, u0_7, u0_8, u0_9, u0_10, rfl⟩ := arr11 hz0
  obtain ⟨fu0, hf0⟩ := h0
  replace hf0 : DataW.trod enc Try.prog W 0 (fun _ => true) true fu0 67 [u0_0, u0_1, u0_2, u0_3, u0_4, u0_5, u0_6, u0_7, u0_8, u0_9, u0_10] = some _ := hf0
  obtain ⟨nhf0_0, yhf0_0, hf0_0⟩ := Args.trod_at Try.underlying67 hf0 0 65 0 2 [u0_0, u0_1] ⟨_, rfl, rfl, rfl⟩ (by kernel_rfl) rfl
  obtain ⟨nhf0_0_0, yhf0_0_0, hf0_0_0⟩ := Args.trod_at Try.underlying65 hf0_0 0 3 0 1 [u0_0] ⟨_, rfl, rfl, rfl⟩ (by kernel_rfl) rfl
  obtain ⟨a0_0, e0_0, _, w0_0⟩ := DataW.trod_int Try.underlying3 hf0_0_0; obtain rfl := List.head_eq_of_cons_eq e0_0
  obtain ⟨nhf0_0_1, yhf0_0_1, hf0_0_1⟩ := Args.trod_at Try.underlying65 hf0_0 1 3 1 1 [u0_1] ⟨_, rfl, rfl, rfl⟩ (by kernel_rfl) rfl
  obtain ⟨a0_1, e0_1, _, w0_1⟩ := DataW.trod_int Try.underlying3 hf0_0_1; obtain rfl := List.head_eq_of_cons_eq e0_1
  obtain ⟨nhf0_1, yhf0_1, hf0_1⟩ := Args.trod_at Try.underlying67 hf0 1 3 2 1 [u0_2] ⟨_, rfl, rfl, rfl⟩ (by kernel_rfl) rfl
  obtain ⟨a0_2, e0_2, _, w0_2⟩ := DataW.trod_int Try.underlying3 hf0_1; obtain rfl := List.head_eq_of_cons_eq e0_2
  obtain ⟨nhf0_2, yhf0_2, hf0_2⟩ := Args.trod_at Try.underlying67 hf0 2 3 3 1 [u0_3] ⟨_, rfl, rfl, rfl⟩ (by kernel_rfl) rfl
  obtain ⟨a0_3, e0_3, _, w0_3⟩ := DataW.trod_int Try.underlying3 hf0_2; obtain rfl := List.head_eq_of_cons_eq e0_3
  obtain ⟨nhf0_3, yhf0_3, hf0_3⟩ := Args.trod_at Try.underlying67 hf0 3 3 4 1 [u0_4] ⟨_, rfl, rfl, rfl⟩ (by kernel_rfl) rfl
  obtain ⟨a0_4, e0_4, _, w0_4⟩ := DataW.trod_int Try.underlying3 hf0_3; obtain rfl := List.head_eq_of_cons_eq e0_4
  obtain ⟨nhf0_4, yhf0_4, hf0_4⟩ := Args.trod_at Try.underlying67 hf0 4 3 5 1 [u0_5] ⟨_, rfl, rfl, rfl⟩ (by kernel_rfl) rfl
  obtain ⟨a0_5, e0_5, _, w0_5⟩ := DataW.trod_int Try.underlying3 hf0_4; obtain rfl := List.head_eq_of_cons_eq e0_5
  obtain ⟨nhf0_5, yhf0_5, hf0_5⟩ := Args.trod_at Try.underlying67 hf0 5 3 6 1 [u0_6] ⟨_, rfl, rfl, rfl⟩ (by kernel_rfl) rfl
  obtain ⟨a0_6, e0_6, _, w0_6⟩ := DataW.trod_int Try.underlying3 hf0_5; obtain rfl := List.head_eq_of_cons_eq e0_6
  obtain ⟨nhf0_6, yhf0_6, hf0_6⟩ := Args.trod_at Try.underlying67 hf0 6 3 7 1 [u0_7] ⟨_, rfl, rfl, rfl⟩ (by kernel_rfl) rfl
  obtain ⟨a0_7, e0_7, _, w0_7⟩ := DataW.trod_int Try.underlying3 hf0_6; obtain rfl := List.head_eq_of_cons_eq e0_7
  obtain ⟨nhf0_7, yhf0_7, hf0_7⟩ := Args.trod_at Try.underlying67 hf0 7 24 8 3 [u0_8, u0_9, u0_10] ⟨_, rfl, rfl, rfl⟩ (by kernel_rfl) rfl
  obtain ⟨nhf0_7_0, yhf0_7_0, hf0_7_0⟩ := Args.trod_at Try.underlying24 hf0_7 0 3 0 1 [u0_8] ⟨_, rfl, rfl, rfl⟩ (by kernel_rfl) rfl
  obtain ⟨a0_8, e0_8, _, w0_8⟩ := DataW.trod_int Try.underlying3 hf0_7_0; obtain rfl := List.head_eq_of_cons_eq e0_8
  obtain ⟨nhf0_7_1, yhf0_7_1, hf0_7_1⟩ := Args.trod_at Try.underlying24 hf0_7 1 3 1 1 [u0_9] ⟨_, rfl, rfl, rfl⟩ (by kernel_rfl) rfl
  obtain ⟨a0_9, e0_9, _, w0_9⟩ := DataW.trod_int Try.underlying3 hf0_7_1; obtain rfl := List.head_eq_of_cons_eq e0_9
  obtain ⟨nhf0_7_2, yhf0_7_2, hf0_7_2⟩ := Args.trod_at Try.underlying24 hf0_7 2 22 2 1 [u0_10] ⟨_, rfl, rfl, rfl⟩ (by kernel_rfl) rfl
  obtain ⟨A0_10, c0_10, l0_10, rfl, hC0_10, hl0_10, hm0_10, hb0_10⟩ := Args.open_row z109 Try.underlying22 (by kernel_rfl) opens109 hf0_7_2
  clear hA0 hval0 hsz0
  obtain ⟨k, hk⟩ := V.FnExactCfgOk a0_0 a0_1 a0_2 a0_3 a0_4 a0_5 a0_6 a0_7 a0_8 a0_9 l0_10 w0_0 w0_1 w0_2 w0_3 w0_4 w0_5 w0_6 w0_7 w0_8 w0_9 ⟨hm0_10, hb0_10⟩
  refine (laws_FnExactCfgOk.calls k a0_0 a0_1 a0_2 a0_3 a0_4 a0_5 a0_6 a0_7 a0_8 a0_9 A0_10 c0_10 l0_10 true W hC0_10 hl0_10 rfl hk).mono fun e W' ⟨he, bel0⟩ => ?_
  have bel : Below W.heap.size W W' := bel0
  subst he
  exact ⟨_, rfl, _, _, _, [], _, [], hW', trodAll_mk1 (shut_bool Try.underlying4 _), (trodAll_cons_mk (Below.trod laidOut (by kernel_rfl) (of_decide_eq_true (by kernel_rfl)) k0 bel lt0) trodAll_mk0), rfl, bel.frame _, fun h => by cases h⟩
theorem over : Rows.fnExactCfgOkRow.holds Try.pinned (OpenSpec.ofChange Rows.fnExactCfgOkSpec) :=
  OpenClaim.holds_of_wide 7 Try.f7 rfl rfl rfl rfl rfl rfl rfl ⟨rfl, rfl, rfl, rfl, rfl⟩ rfl rfl rfl rfl rfl (by kernel_rfl) Try.func7 (by kernel_rfl)
    (of_decide_eq_true (by kernel_rfl)) (by unfold Func.isWrapper; first | (rw [if_pos (by decide +kernel)]; kernel_rfl) | (rw [if_neg (by decide +kernel)]; exact ⟨rfl, rfl⟩))
    (fun os started H enc _ => lifted os started H enc)
theorem proved : Rows.FnExactCfgOkSaid := over
end Go.Proofs.Ytcbglmoeogbakaa.fnExactCfgOk
namespace Go.Proofs.Ytcbglmoeogbakaa
theorem fnExactCfgOk_holds : Rows.FnExactCfgOkSaid := fnExactCfgOk.proved
#print axioms fnExactCfgOk_holds
end Go.Proofs.Ytcbglmoeogbakaa
