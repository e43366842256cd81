/- The law FnExactAppRun holds of the given program: for every input the call returns true, and each argument reads behind the call as it read before. No condition beyond the statement's own. -/
import Derived.Test.YtcgdnfaclbnflaaRows
import Derived.Test.YtcgdnfaclbnflaaKFEAR4
import Derived.Test.YtcgdnfaclbnflaaKFEAR5
import Derived.WalkKit
import Derived.ProofKit
import Derived.OpenShut
import Derived.ShutString
import Derived.ChangeOld
import Derived.Below
import Derived.SizedLaws
namespace Go.Proofs.Ytcgdnfaclbnflaa.fnExactAppRun
open Go.ChangeShapes Go.WideShapes Go.ChangeAt Go.RowKit Go.Proofs.Ytcgdnfaclbnflaa Go.Proofs.Ytcgdnfaclbnflaa.P Go.Proofs.YtcgdnfaclbnflaaW.PrintWords
open Go.ChangeMaps (open_string shut_string)
theorem own : ownKnob Try.prog.godebug = none := by kernel_rfl
theorem laidOut : laidOutB Try.prog = true := by kernel_rfl
theorem arr2 {cs : Array Value} (h : cs.size = 2) : ∃ u0 u1, cs = #[u0, u1] := by
  obtain ⟨l⟩ := cs
  match l, h with
  | [u0, u1], _ => exact ⟨u0, u1, rfl⟩
set_option maxRecDepth 100000 in
theorem opens126 : Args.Opens Try.prog 126 k126 (fun x => True ∧ (Lit.int .i64 x.f1.f0).wf = true ∧ (Lit.int .i64 x.f1.f1).wf = true) := by
  intro H enc w base spare held fuel cs x h
  obtain ⟨hlen, _⟩ := Args.trod_field Try.underlying126 h
  rw [show Try.prog.cellsOf 126 = 3 from by kernel_rfl] at hlen
  match cs, hlen, h with
  | [u0, u1, u2], _, h =>
    obtain ⟨nh_0, yh_0, h_0⟩ := Args.trod_at Try.underlying126 h 0 4 0 1 [u0] ⟨_, rfl, rfl, rfl⟩ (by kernel_rfl) rfl
    obtain ⟨a0, e0, _⟩ := DataW.trod_bool Try.underlying4 h_0; obtain rfl := List.head_eq_of_cons_eq e0
    obtain ⟨nh_1, yh_1, h_1⟩ := Args.trod_at Try.underlying126 h 1 124 1 2 [u1, u2] ⟨_, rfl, rfl, rfl⟩ (by kernel_rfl) rfl
    obtain ⟨nh_1_0, yh_1_0, h_1_0⟩ := Args.trod_at Try.underlying124 h_1 0 3 0 1 [u1] ⟨_, rfl, rfl, rfl⟩ (by kernel_rfl) rfl
    obtain ⟨a1, e1, _, w1⟩ := DataW.trod_int Try.underlying3 h_1_0; obtain rfl := List.head_eq_of_cons_eq e1
    obtain ⟨nh_1_1, yh_1_1, h_1_1⟩ := Args.trod_at Try.underlying124 h_1 1 3 1 1 [u2] ⟨_, rfl, rfl, rfl⟩ (by kernel_rfl) rfl
    obtain ⟨a2, e2, _, w2⟩ := DataW.trod_int Try.underlying3 h_1_1; obtain rfl := List.head_eq_of_cons_eq e2
    exact ⟨⟨a0, ⟨a1, a2⟩⟩, k126_mk _ (⟨a0, ⟨a1, a2⟩⟩ : S126), trivial, w1, w2⟩
set_option maxRecDepth 100000 in
theorem lifted (os : Os) (started : os.Started) (H : Type) (enc : TypeId × Value → H) :
    ReturnsInHanded {} Try.checked os 7 .any (Rows.fnExactAppRunSpec.pre6 enc Try.prog Try.f7 Rows.fnExactAppRunRow.domain false) (Rows.fnExactAppRunSpec.post enc Try.prog Try.f7 false true false false) := by
  refine returnsInHanded_of_change_sized (C := Try.checked) own started (by kernel_rfl) Try.func7
    (ChangeSpec.witness6 (enc := enc) (C := Try.checked) false ⟨#[], #[.agg #[.bool false, .int .i64 0], .slice none 0 0], []⟩ 8 (by kernel_rfl) (by kernel_rfl) (by kernel_rfl) (by kernel_rfl)) ?_
  intro W base args ds gs before hval0 hW hcnd hsz0 _
  have hval : ∀ (j : Nat) t v, Try.f7.params[j]? = some t → args[j]? = some v → Value.okWide Try.prog W .any base t v := hval0
  have hW' := hW
  obtain ⟨p, q, hA0, hV, rfl, hfz, hnd⟩ := hW
  have hA : DataW.TrodAll enc Try.prog W 0 (fun _ => true) true Try.f7.params.toList args.toList ds p := hA0
  rw [Try.params7] at hA hval
  obtain ⟨v0, vs0, d0, ds0, p0, q0, hargs, rfl, rfl, h0, r0⟩ := trodAll_cons hA
  obtain ⟨v1, vs1, d1, ds1, p1, q1, rfl, rfl, rfl, h1, r1⟩ := trodAll_cons r0
  obtain ⟨rfl, rfl, rfl⟩ := trodAll_nil r1
  obtain rfl : args = #[v0, v1] := by cases args; simp_all
  obtain ⟨rfl, rfl⟩ := trodVars_none hV
  have k0 := h0
  have lt0 : ∀ x ∈ p0, x.block < W.heap.size := by obtain ⟨m, hm⟩ := k0; exact DataW.trod_lt m _ _ _ hm
  obtain ⟨cs0, rfl, hz0⟩ := okWide_struct Try.underlying62 (hval 0 62 v0 rfl rfl)
  rw [show Try.prog.cellsOf 62 = 2 from by kernel_rfl] at hz0
  obtain ⟨u0_0, u0_1, rfl⟩ := arr2 hz0
  obtain ⟨fu0, hf0⟩ := h0
  replace hf0 : DataW.trod enc Try.prog W 0 (fun _ => true) true fu0 62 [u0_0, u0_1] = some _ := hf0
  obtain ⟨nhf0_0, yhf0_0, hf0_0⟩ := Args.trod_at Try.underlying62 hf0 0 4 0 1 [u0_0] ⟨_, rfl, rfl, rfl⟩ (by kernel_rfl) rfl
  obtain ⟨a0_0, e0_0, _⟩ := DataW.trod_bool Try.underlying4 hf0_0; obtain rfl := List.head_eq_of_cons_eq e0_0
  obtain ⟨nhf0_1, yhf0_1, hf0_1⟩ := Args.trod_at Try.underlying62 hf0 1 3 1 1 [u0_1] ⟨_, rfl, rfl, rfl⟩ (by kernel_rfl) rfl
  obtain ⟨a0_1, e0_1, _, w0_1⟩ := DataW.trod_int Try.underlying3 hf0_1; obtain rfl := List.head_eq_of_cons_eq e0_1
  have k1 := h1
  have lt1 : ∀ x ∈ p1, x.block < W.heap.size := by obtain ⟨m, hm⟩ := k1; exact DataW.trod_lt m _ _ _ hm
  obtain ⟨A_1, len_1, cap_1, rfl⟩ := okWide_slice Try.underlying63 (hval 1 63 v1 rfl rfl)
  obtain ⟨fu1, hf1⟩ := h1
  replace hf1 : DataW.trod enc Try.prog W 0 (fun _ => true) true fu1 63 [.slice A_1 len_1 cap_1] = some _ := hf1
  obtain ⟨A1, c1, l1, e1, hC1, hl1, hm1, hb1⟩ := Args.open_row z126 Try.underlying63 (by kernel_rfl) opens126 hf1
  obtain ⟨rfl, rfl, rfl⟩ := Value.slice.inj e1.symm
  clear hA0 hval0 hsz0
  obtain ⟨k, hk⟩ := V.FnExactAppRun a0_0 a0_1 l1 w0_1 ⟨hm1, hb1⟩
  refine (laws_FnExactAppRun.calls k a0_0 a0_1 A1 c1 l1 true W hC1 hl1 rfl hk).mono fun e W' ⟨he, bel0⟩ => ?_
  have bel : Below W.heap.size W W' := bel0
  subst he
  exact ⟨_, rfl, _, _, _, [], _, [], hW', trodAll_mk1 (shut_bool Try.underlying4 _), (trodAll_cons_mk (Below.trod laidOut (by kernel_rfl) (of_decide_eq_true (by kernel_rfl)) k0 bel lt0) (trodAll_cons_mk (Below.trod laidOut (by kernel_rfl) (of_decide_eq_true (by kernel_rfl)) k1 bel lt1) trodAll_mk0)), rfl, bel.frame _, fun h => by cases h⟩
theorem over : Rows.fnExactAppRunRow.holds Try.pinned (OpenSpec.ofChange Rows.fnExactAppRunSpec) :=
  OpenClaim.holds_of_wide 7 Try.f7 rfl rfl rfl rfl rfl rfl rfl ⟨rfl, rfl, rfl, rfl, rfl⟩ rfl rfl rfl rfl rfl (by kernel_rfl) Try.func7 (by kernel_rfl)
    (of_decide_eq_true (by kernel_rfl)) (by unfold Func.isWrapper; first | (rw [if_pos (by decide +kernel)]; kernel_rfl) | (rw [if_neg (by decide +kernel)]; exact ⟨rfl, rfl⟩))
    (fun os started H enc _ => lifted os started H enc)
theorem proved : Rows.FnExactAppRunSaid := over
end Go.Proofs.Ytcgdnfaclbnflaa.fnExactAppRun
namespace Go.Proofs.Ytcgdnfaclbnflaa
theorem fnExactAppRun_holds : Rows.FnExactAppRunSaid := fnExactAppRun.proved
#print axioms fnExactAppRun_holds
end Go.Proofs.Ytcgdnfaclbnflaa
