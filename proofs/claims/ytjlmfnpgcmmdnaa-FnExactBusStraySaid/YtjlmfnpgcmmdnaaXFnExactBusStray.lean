/- The law FnExactBusStray holds of the given program: for every input the call returns true, and each argument reads behind the call as it read before. No condition beyond the statement's own. -/
import Derived.Test.YtjlmfnpgcmmdnaaRows
import Derived.Test.YtjlmfnpgcmmdnaaKFEBS6
import Derived.Test.YtjlmfnpgcmmdnaaKFEBS8
import Derived.WalkKit
import Derived.ProofKit
import Derived.OpenShut
import Derived.ShutString
import Derived.ChangeOld
import Derived.Below
import Derived.SizedLaws
namespace Go.Proofs.Ytjlmfnpgcmmdnaa.fnExactBusStray
open Go.ChangeShapes Go.WideShapes Go.ChangeAt Go.RowKit Go.Proofs.Ytjlmfnpgcmmdnaa Go.Proofs.Ytjlmfnpgcmmdnaa.P Go.Proofs.YtjlmfnpgcmmdnaaW.PrintWords
open Go.ChangeMaps (open_string shut_string)
theorem own : ownKnob Try.prog.godebug = none := by kernel_rfl
theorem laidOut : laidOutB Try.prog = true := by kernel_rfl
theorem arr3 {cs : Array Value} (h : cs.size = 3) : ∃ u0 u1 u2, cs = #[u0, u1, u2] := by
  obtain ⟨l⟩ := cs
  match l, h with
  | [u0, u1, u2], _ => exact ⟨u0, u1, u2, rfl⟩
set_option maxRecDepth 100000 in
theorem opens110 : Args.Opens Try.prog 110 k110 (fun x => (Lit.int .i64 x.f0).wf = true ∧ (Lit.int .i64 x.f1).wf = true) := by
  intro H enc w base spare held fuel cs x h
  obtain ⟨hlen, _⟩ := Args.trod_field Try.underlying110 h
  rw [show Try.prog.cellsOf 110 = 2 from by kernel_rfl] at hlen
  match cs, hlen, h with
  | [u0, u1], _, h =>
    obtain ⟨nh_0, yh_0, h_0⟩ := Args.trod_at Try.underlying110 h 0 3 0 1 [u0] ⟨_, rfl, rfl, rfl⟩ (by kernel_rfl) rfl
    obtain ⟨a0, e0, _, w0⟩ := DataW.trod_int Try.underlying3 h_0; obtain rfl := List.head_eq_of_cons_eq e0
    obtain ⟨nh_1, yh_1, h_1⟩ := Args.trod_at Try.underlying110 h 1 3 1 1 [u1] ⟨_, rfl, rfl, rfl⟩ (by kernel_rfl) rfl
    obtain ⟨a1, e1, _, w1⟩ := DataW.trod_int Try.underlying3 h_1; obtain rfl := List.head_eq_of_cons_eq e1
    exact ⟨⟨a0, a1⟩, k110_mk _ (⟨a0, a1⟩ : S110), w0, w1⟩
set_option maxRecDepth 100000 in
theorem opens52 : Args.Opens Try.prog 52 k52 (fun x => (Lit.int .i64 x.f0).wf = true ∧ (Lit.int .i64 x.f1).wf = true ∧ (Lit.int .i64 x.f2).wf = true ∧ (Lit.int .i64 x.f3).wf = true ∧ (Lit.int .i64 x.f4).wf = true ∧ x.f5.size ≤ 9223372036854775807) := by
  intro H enc w base spare held fuel cs x h
  obtain ⟨hlen, _⟩ := Args.trod_field Try.underlying52 h
  rw [show Try.prog.cellsOf 52 = 6 from by kernel_rfl] at hlen
  match cs, hlen, h with
  | [u0, u1, u2, u3, u4, u5], _, h =>
    obtain ⟨nh_0, yh_0, h_0⟩ := Args.trod_at Try.underlying52 h 0 3 0 1 [u0] ⟨_, rfl, rfl, rfl⟩ (by kernel_rfl) rfl
    obtain ⟨a0, e0, _, w0⟩ := DataW.trod_int Try.underlying3 h_0; obtain rfl := List.head_eq_of_cons_eq e0
    obtain ⟨nh_1, yh_1, h_1⟩ := Args.trod_at Try.underlying52 h 1 3 1 1 [u1] ⟨_, rfl, rfl, rfl⟩ (by kernel_rfl) rfl
    obtain ⟨a1, e1, _, w1⟩ := DataW.trod_int Try.underlying3 h_1; obtain rfl := List.head_eq_of_cons_eq e1
    obtain ⟨nh_2, yh_2, h_2⟩ := Args.trod_at Try.underlying52 h 2 3 2 1 [u2] ⟨_, rfl, rfl, rfl⟩ (by kernel_rfl) rfl
    obtain ⟨a2, e2, _, w2⟩ := DataW.trod_int Try.underlying3 h_2; obtain rfl := List.head_eq_of_cons_eq e2
    obtain ⟨nh_3, yh_3, h_3⟩ := Args.trod_at Try.underlying52 h 3 3 3 1 [u3] ⟨_, rfl, rfl, rfl⟩ (by kernel_rfl) rfl
    obtain ⟨a3, e3, _, w3⟩ := DataW.trod_int Try.underlying3 h_3; obtain rfl := List.head_eq_of_cons_eq e3
    obtain ⟨nh_4, yh_4, h_4⟩ := Args.trod_at Try.underlying52 h 4 3 4 1 [u4] ⟨_, rfl, rfl, rfl⟩ (by kernel_rfl) rfl
    obtain ⟨a4, e4, _, w4⟩ := DataW.trod_int Try.underlying3 h_4; obtain rfl := List.head_eq_of_cons_eq e4
    obtain ⟨nh_5, yh_5, h_5⟩ := Args.trod_at Try.underlying52 h 5 9 5 1 [u5] ⟨_, rfl, rfl, rfl⟩ (by kernel_rfl) rfl
    obtain ⟨a5, e5, _, w5⟩ := DataW.trod_string Try.underlying9 h_5; obtain rfl := List.head_eq_of_cons_eq e5; unfold maxLen at w5
    exact ⟨⟨a0, a1, a2, a3, a4, a5⟩, k52_mk _ (⟨a0, a1, a2, a3, a4, a5⟩ : S52), w0, w1, w2, w3, w4, w5⟩
set_option maxRecDepth 100000 in
theorem lifted (os : Os) (started : os.Started) (H : Type) (enc : TypeId × Value → H) :
    ReturnsInHanded {} Try.checked os 9 .any (Rows.fnExactBusStraySpec.pre6 enc Try.prog Try.f9 Rows.fnExactBusStrayRow.domain false) (Rows.fnExactBusStraySpec.post enc Try.prog Try.f9 false true false false) := by
  refine returnsInHanded_of_change_sized (C := Try.checked) own started (by kernel_rfl) Try.func9
    (ChangeSpec.witness6 (enc := enc) (C := Try.checked) false ⟨#[], #[.agg #[.int .i64 0, .int .i64 0, .slice none 0 0], .slice none 0 0], []⟩ 8 (by kernel_rfl) (by kernel_rfl) (by kernel_rfl) (by kernel_rfl)) ?_
  intro W base args ds gs before hval0 hW hcnd hsz0 _
  have hval : ∀ (j : Nat) t v, Try.f9.params[j]? = some t → args[j]? = some v → Value.okWide Try.prog W .any base t v := hval0
  have hW' := hW
  obtain ⟨p, q, hA0, hV, rfl, hfz, hnd⟩ := hW
  have hA : DataW.TrodAll enc Try.prog W 0 (fun _ => true) true Try.f9.params.toList args.toList ds p := hA0
  rw [Try.params9] at hA hval
  obtain ⟨v0, vs0, d0, ds0, p0, q0, hargs, rfl, rfl, h0, r0⟩ := trodAll_cons hA
  obtain ⟨v1, vs1, d1, ds1, p1, q1, rfl, rfl, rfl, h1, r1⟩ := trodAll_cons r0
  obtain ⟨rfl, rfl, rfl⟩ := trodAll_nil r1
  obtain rfl : args = #[v0, v1] := by cases args; simp_all
  obtain ⟨rfl, rfl⟩ := trodVars_none hV
  have k0 := h0
  have lt0 : ∀ x ∈ p0, x.block < W.heap.size := by obtain ⟨m, hm⟩ := k0; exact DataW.trod_lt m _ _ _ hm
  obtain ⟨cs0, rfl, hz0⟩ := okWide_struct Try.underlying66 (hval 0 66 v0 rfl rfl)
  rw [show Try.prog.cellsOf 66 = 3 from by kernel_rfl] at hz0
  obtain ⟨u0_0, u0_1, u0_2, rfl⟩ := arr3 hz0
  obtain ⟨fu0, hf0⟩ := h0
  replace hf0 : DataW.trod enc Try.prog W 0 (fun _ => true) true fu0 66 [u0_0, u0_1, u0_2] = some _ := hf0
  obtain ⟨nhf0_0, yhf0_0, hf0_0⟩ := Args.trod_at Try.underlying66 hf0 0 3 0 1 [u0_0] ⟨_, rfl, rfl, rfl⟩ (by kernel_rfl) rfl
  obtain ⟨a0_0, e0_0, _, w0_0⟩ := DataW.trod_int Try.underlying3 hf0_0; obtain rfl := List.head_eq_of_cons_eq e0_0
  obtain ⟨nhf0_1, yhf0_1, hf0_1⟩ := Args.trod_at Try.underlying66 hf0 1 3 1 1 [u0_1] ⟨_, rfl, rfl, rfl⟩ (by kernel_rfl) rfl
  obtain ⟨a0_1, e0_1, _, w0_1⟩ := DataW.trod_int Try.underlying3 hf0_1; obtain rfl := List.head_eq_of_cons_eq e0_1
  obtain ⟨nhf0_2, yhf0_2, hf0_2⟩ := Args.trod_at Try.underlying66 hf0 2 64 2 1 [u0_2] ⟨_, rfl, rfl, rfl⟩ (by kernel_rfl) rfl
  obtain ⟨A0_2, c0_2, l0_2, rfl, hC0_2, hl0_2, hm0_2, hb0_2⟩ := Args.open_row z110 Try.underlying64 (by kernel_rfl) opens110 hf0_2
  have k1 := h1
  have lt1 : ∀ x ∈ p1, x.block < W.heap.size := by obtain ⟨m, hm⟩ := k1; exact DataW.trod_lt m _ _ _ hm
  obtain ⟨A_1, len_1, cap_1, rfl⟩ := okWide_slice Try.underlying44 (hval 1 44 v1 rfl rfl)
  obtain ⟨fu1, hf1⟩ := h1
  replace hf1 : DataW.trod enc Try.prog W 0 (fun _ => true) true fu1 44 [.slice A_1 len_1 cap_1] = some _ := hf1
  obtain ⟨A1, c1, l1, e1, hC1, hl1, hm1, hb1⟩ := Args.open_row z52 Try.underlying44 (by kernel_rfl) opens52 hf1
  obtain ⟨rfl, rfl, rfl⟩ := Value.slice.inj e1.symm
  clear hA0 hval0 hsz0
  obtain ⟨k, hk⟩ := V.FnExactBusStray a0_0 a0_1 l0_2 l1 w0_0 w0_1 ⟨hm0_2, hb0_2⟩ ⟨hm1, hb1⟩
  refine (laws_FnExactBusStray.calls k a0_0 a0_1 A0_2 c0_2 l0_2 A1 c1 l1 true W hC0_2 hl0_2 hC1 hl1 rfl hk).mono fun e W' ⟨he, bel0⟩ => ?_
  have bel : Below W.heap.size W W' := bel0
  subst he
  exact ⟨_, rfl, _, _, _, [], _, [], hW', trodAll_mk1 (shut_bool Try.underlying4 _), (trodAll_cons_mk (Below.trod laidOut (by kernel_rfl) (of_decide_eq_true (by kernel_rfl)) k0 bel lt0) (trodAll_cons_mk (Below.trod laidOut (by kernel_rfl) (of_decide_eq_true (by kernel_rfl)) k1 bel lt1) trodAll_mk0)), rfl, bel.frame _, fun h => by cases h⟩
theorem over : Rows.fnExactBusStrayRow.holds Try.pinned (OpenSpec.ofChange Rows.fnExactBusStraySpec) :=
  OpenClaim.holds_of_wide 9 Try.f9 rfl rfl rfl rfl rfl rfl rfl ⟨rfl, rfl, rfl, rfl, rfl⟩ rfl rfl rfl rfl rfl (by kernel_rfl) Try.func9 (by kernel_rfl)
    (of_decide_eq_true (by kernel_rfl)) (by unfold Func.isWrapper; first | (rw [if_pos (by decide +kernel)]; kernel_rfl) | (rw [if_neg (by decide +kernel)]; exact ⟨rfl, rfl⟩))
    (fun os started H enc _ => lifted os started H enc)
theorem proved : Rows.FnExactBusStraySaid := over
end Go.Proofs.Ytjlmfnpgcmmdnaa.fnExactBusStray
namespace Go.Proofs.Ytjlmfnpgcmmdnaa
theorem fnExactBusStray_holds : Rows.FnExactBusStraySaid := fnExactBusStray.proved
#print axioms fnExactBusStray_holds
end Go.Proofs.Ytjlmfnpgcmmdnaa
