/- The law FnExactBusPut holds of the given program: for every input the call returns true, and each argument reads behind the call as it read before. No condition beyond the statement's own. -/
import Derived.Test.YtjlmfnpgcmmdnaaRows
import Derived.Test.YtjlmfnpgcmmdnaaKFEBP4
import Derived.WalkKit
import Derived.ProofKit
import Derived.OpenShut
import Derived.ShutString
import Derived.ChangeOld
import Derived.Below
import Derived.SizedLaws
namespace Go.Proofs.Ytjlmfnpgcmmdnaa.fnExactBusPut
open Go.ChangeShapes Go.WideShapes Go.ChangeAt Go.RowKit Go.Proofs.Ytjlmfnpgcmmdnaa Go.Proofs.Ytjlmfnpgcmmdnaa.P Go.Proofs.YtjlmfnpgcmmdnaaW.PrintWords
open Go.ChangeMaps (open_string shut_string)
theorem own : ownKnob Try.prog.godebug = none := by kernel_rfl
theorem laidOut : laidOutB Try.prog = true := by kernel_rfl
theorem arr6 {cs : Array Value} (h : cs.size = 6) : ∃ u0 u1 u2 u3 u4 u5, cs = #[u0, u1, u2, u3, u4, u5] := by
  obtain ⟨l⟩ := cs
  match l, h with
  | [u0, u1, u2, u3, u4, u5], _ => exact ⟨u0, u1, u2, u3, u4, u5, rfl⟩
set_option maxRecDepth 100000 in
theorem opens52 : Args.Opens Try.prog 52 k52 (fun x => (Lit.int .i64 x.f0).wf = true ∧ (Lit.int .i64 x.f1).wf = true ∧ (Lit.int .i64 x.f2).wf = true ∧ (Lit.int .i64 x.f3).wf = true ∧ (Lit.int .i64 x.f4).wf = true ∧ x.f5.size ≤ 9223372036854775807) := by
  intro H enc w base spare held fuel cs x h
  obtain ⟨hlen, _⟩ := Args.trod_field Try.underlying52 h
  rw [show Try.prog.cellsOf 52 = 6 from by kernel_rfl] at hlen
  match cs, hlen, h with
  | [u0, u1, u2, u3, u4, u5], _, h =>
    obtain ⟨nh_0, yh_0, h_0⟩ := Args.trod_at Try.underlying52 h 0 3 0 1 [u0] ⟨_, rfl, rfl, rfl⟩ (by kernel_rfl) rfl
    obtain ⟨a0, e0, _, w0⟩ := DataW.trod_int Try.underlying3 h_0; obtain rfl := List.head_eq_of_cons_eq e0
    obtain ⟨nh_1, yh_1, h_1⟩ := Args.trod_at Try.underlying52 h 1 3 1 1 [u1] ⟨_, rfl, rfl, rfl⟩ (by kernel_rfl) rfl
    obtain ⟨a1, e1, _, w1⟩ := DataW.trod_int Try.underlying3 h_1; obtain rfl := List.head_eq_of_cons_eq e1
    obtain ⟨nh_2, yh_2, h_2⟩ := Args.trod_at Try.underlying52 h 2 3 2 1 [u2] ⟨_, rfl, rfl, rfl⟩ (by kernel_rfl) rfl
    obtain ⟨a2, e2, _, w2⟩ := DataW.trod_int Try.underlying3 h_2; obtain rfl := List.head_eq_of_cons_eq e2
    obtain ⟨nh_3, yh_3, h_3⟩ := Args.trod_at Try.underlying52 h 3 3 3 1 [u3] ⟨_, rfl, rfl, rfl⟩ (by kernel_rfl) rfl
    obtain ⟨a3, e3, _, w3⟩ := DataW.trod_int Try.underlying3 h_3; obtain rfl := List.head_eq_of_cons_eq e3
    obtain ⟨nh_4, yh_4, h_4⟩ := Args.trod_at Try.underlying52 h 4 3 4 1 [u4] ⟨_, rfl, rfl, rfl⟩ (by kernel_rfl) rfl
    obtain ⟨a4, e4, _, w4⟩ := DataW.trod_int Try.underlying3 h_4; obtain rfl := List.head_eq_of_cons_eq e4
    obtain ⟨nh_5, yh_5, h_5⟩ := Args.trod_at Try.underlying52 h 5 9 5 1 [u5] ⟨_, rfl, rfl, rfl⟩ (by kernel_rfl) rfl
    obtain ⟨a5, e5, _, w5⟩ := DataW.trod_string Try.underlying9 h_5; obtain rfl := List.head_eq_of_cons_eq e5; unfold maxLen at w5
    exact ⟨⟨a0, a1, a2, a3, a4, a5⟩, k52_mk _ (⟨a0, a1, a2, a3, a4, a5⟩ : S52), w0, w1, w2, w3, w4, w5⟩
set_option maxRecDepth 100000 in
theorem lifted (os : Os) (started : os.Started) (H : Type) (enc : TypeId × Value → H) :
    ReturnsInHanded {} Try.checked os 6 .any (Rows.fnExactBusPutSpec.pre6 enc Try.prog Try.f6 Rows.fnExactBusPutRow.domain false) (Rows.fnExactBusPutSpec.post enc Try.prog Try.f6 false true false false) := by
  refine returnsInHanded_of_change_sized (C := Try.checked) own started (by kernel_rfl) Try.func6
    (ChangeSpec.witness6 (enc := enc) (C := Try.checked) false ⟨#[], #[.slice none 0 0, .agg #[.int .i64 0, .int .i64 0, .int .i64 0, .int .i64 0, .int .i64 0, .string ByteArray.empty]], []⟩ 8 (by kernel_rfl) (by kernel_rfl) (by kernel_rfl) (by kernel_rfl)) ?_
  intro W base args ds gs before hval0 hW hcnd hsz0 _
  have hval : ∀ (j : Nat) t v, Try.f6.params[j]? = some t → args[j]? = some v → Value.okWide Try.prog W .any base t v := hval0
  have hW' := hW
  obtain ⟨p, q, hA0, hV, rfl, hfz, hnd⟩ := hW
  have hA : DataW.TrodAll enc Try.prog W 0 (fun _ => true) true Try.f6.params.toList args.toList ds p := hA0
  rw [Try.params6] at hA hval
  obtain ⟨v0, vs0, d0, ds0, p0, q0, hargs, rfl, rfl, h0, r0⟩ := trodAll_cons hA
  obtain ⟨v1, vs1, d1, ds1, p1, q1, rfl, rfl, rfl, h1, r1⟩ := trodAll_cons r0
  obtain ⟨rfl, rfl, rfl⟩ := trodAll_nil r1
  obtain rfl : args = #[v0, v1] := by cases args; simp_all
  obtain ⟨rfl, rfl⟩ := trodVars_none hV
  have k0 := h0
  have lt0 : ∀ x ∈ p0, x.block < W.heap.size := by obtain ⟨m, hm⟩ := k0; exact DataW.trod_lt m _ _ _ hm
  obtain ⟨A_0, len_0, cap_0, rfl⟩ := okWide_slice Try.underlying44 (hval 0 44 v0 rfl rfl)
  obtain ⟨fu0, hf0⟩ := h0
  replace hf0 : DataW.trod enc Try.prog W 0 (fun _ => true) true fu0 44 [.slice A_0 len_0 cap_0] = some _ := hf0
  obtain ⟨A0, c0, l0, e0, hC0, hl0, hm0, hb0⟩ := Args.open_row z52 Try.underlying44 (by kernel_rfl) opens52 hf0
  obtain ⟨rfl, rfl, rfl⟩ := Value.slice.inj e0.symm
  have k1 := h1
  have lt1 : ∀ x ∈ p1, x.block < W.heap.size := by obtain ⟨m, hm⟩ := k1; exact DataW.trod_lt m _ _ _ hm
  obtain ⟨cs1, rfl, hz1⟩ := okWide_struct Try.underlying52 (hval 1 52 v1 rfl rfl)
  rw [show Try.prog.cellsOf 52 = 6 from by kernel_rfl] at hz1
  obtain ⟨u1_0, u1_1, u1_2, u1_3, u1_4, u1_5, rfl⟩ := arr6 hz1
  obtain ⟨fu1, hf1⟩ := h1
  replace hf1 : DataW.trod enc Try.prog W 0 (fun _ => true) true fu1 52 [u1_0, u1_1, u1_2, u1_3, u1_4, u1_5] = some _ := hf1
  obtain ⟨nhf1_0, yhf1_0, hf1_0⟩ := Args.trod_at Try.underlying52 hf1 0 3 0 1 [u1_0] ⟨_, rfl, rfl, rfl⟩ (by kernel_rfl) rfl
  obtain ⟨a1_0, e1_0, _, w1_0⟩ := DataW.trod_int Try.underlying3 hf1_0; obtain rfl := List.head_eq_of_cons_eq e1_0
  obtain ⟨nhf1_1, yhf1_1, hf1_1⟩ := Args.trod_at Try.underlying52 hf1 1 3 1 1 [u1_1] ⟨_, rfl, rfl, rfl⟩ (by kernel_rfl) rfl
  obtain ⟨a1_1, e1_1, _, w1_1⟩ := DataW.trod_int Try.underlying3 hf1_1; obtain rfl := List.head_eq_of_cons_eq e1_1
  obtain ⟨nhf1_2, yhf1_2, hf1_2⟩ := Args.trod_at Try.underlying52 hf1 2 3 2 1 [u1_2] ⟨_, rfl, rfl, rfl⟩ (by kernel_rfl) rfl
  obtain ⟨a1_2, e1_2, _, w1_2⟩ := DataW.trod_int Try.underlying3 hf1_2; obtain rfl := List.head_eq_of_cons_eq e1_2
  obtain ⟨nhf1_3, yhf1_3, hf1_3⟩ := Args.trod_at Try.underlying52 hf1 3 3 3 1 [u1_3] ⟨_, rfl, rfl, rfl⟩ (by kernel_rfl) rfl
  obtain ⟨a1_3, e1_3, _, w1_3⟩ := DataW.trod_int Try.underlying3 hf1_3; obtain rfl := List.head_eq_of_cons_eq e1_3
  obtain ⟨nhf1_4, yhf1_4, hf1_4⟩ := Args.trod_at Try.underlying52 hf1 4 3 4 1 [u1_4] ⟨_, rfl, rfl, rfl⟩ (by kernel_rfl) rfl
  obtain ⟨a1_4, e1_4, _, w1_4⟩ := DataW.trod_int Try.underlying3 hf1_4; obtain rfl := List.head_eq_of_cons_eq e1_4
  obtain ⟨nhf1_5, yhf1_5, hf1_5⟩ := Args.trod_at Try.underlying52 hf1 5 9 5 1 [u1_5] ⟨_, rfl, rfl, rfl⟩ (by kernel_rfl) rfl
  obtain ⟨a1_5, e1_5, _, w1_5⟩ := DataW.trod_string Try.underlying9 hf1_5; obtain rfl := List.head_eq_of_cons_eq e1_5; unfold maxLen at w1_5
  clear hA0 hval0 hsz0
  obtain ⟨k, hk⟩ := V.FnExactBusPut l0 a1_0 a1_1 a1_2 a1_3 a1_4 a1_5 ⟨hm0, hb0⟩ w1_0 w1_1 w1_2 w1_3 w1_4 w1_5
  refine (laws_FnExactBusPut.calls k A0 c0 l0 a1_0 a1_1 a1_2 a1_3 a1_4 a1_5 true W hC0 hl0 rfl hk).mono fun e W' ⟨he, bel0⟩ => ?_
  have bel : Below W.heap.size W W' := bel0
  subst he
  exact ⟨_, rfl, _, _, _, [], _, [], hW', trodAll_mk1 (shut_bool Try.underlying4 _), (trodAll_cons_mk (Below.trod laidOut (by kernel_rfl) (of_decide_eq_true (by kernel_rfl)) k0 bel lt0) (trodAll_cons_mk (Below.trod laidOut (by kernel_rfl) (of_decide_eq_true (by kernel_rfl)) k1 bel lt1) trodAll_mk0)), rfl, bel.frame _, fun h => by cases h⟩
theorem over : Rows.fnExactBusPutRow.holds Try.pinned (OpenSpec.ofChange Rows.fnExactBusPutSpec) :=
  OpenClaim.holds_of_wide 6 Try.f6 rfl rfl rfl rfl rfl rfl rfl ⟨rfl, rfl, rfl, rfl, rfl⟩ rfl rfl rfl rfl rfl (by kernel_rfl) Try.func6 (by kernel_rfl)
    (of_decide_eq_true (by kernel_rfl)) (by unfold Func.isWrapper; first | (rw [if_pos (by decide +kernel)]; kernel_rfl) | (rw [if_neg (by decide +kernel)]; exact ⟨rfl, rfl⟩))
    (fun os started H enc _ => lifted os started H enc)
theorem proved : Rows.FnExactBusPutSaid := over
end Go.Proofs.Ytjlmfnpgcmmdnaa.fnExactBusPut
namespace Go.Proofs.Ytjlmfnpgcmmdnaa
theorem fnExactBusPut_holds : Rows.FnExactBusPutSaid := fnExactBusPut.proved
#print axioms fnExactBusPut_holds
end Go.Proofs.Ytjlmfnpgcmmdnaa
