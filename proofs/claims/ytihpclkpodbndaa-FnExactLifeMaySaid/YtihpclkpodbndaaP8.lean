-- PRINTED by print.py (a twelfth state) out of the translation. Not trusted: Lean checks it.
import Derived.Test.YtihpclkpodbndaaP0
import Derived.Test.YtihpclkpodbndaaP28
import Derived.Test.YtihpclkpodbndaaP29
namespace Go.Proofs.Ytihpclkpodbndaa.P
open Go.RowKit Go.Proofs.YtihpclkpodbndaaW.PrintWords Go.Proofs.YtihpclkpodbndaaW.PrintLast Go.Proofs.YtihpclkpodbndaaW.PrintMore
attribute [local go_sem] max2_int min2_int max_two min_two max_three min_three max_four min_four   -- for this text's walks alone
set_option linter.unusedVariables false
set_option linter.unusedSimpArgs false

/-! ### laws_FnExactLifeMay: function 8 -/
def laws_FnExactLifeMay.f (k : Nat) (a0 : Int) (a1 : Int) : Option (Bool) := (spec_LifeMay.f k a0 a1).bind fun t184 => ((impl_LifeMay.f k a0 a1).bind fun t185 => (if (t185 != t184) = true then (some false) else (some true)))
theorem laws_FnExactLifeMay.mono : ∀ a0 a1 k, LeO (laws_FnExactLifeMay.f k a0 a1) (laws_FnExactLifeMay.f (k + 1) a0 a1) := by
  intro a0 a1 k
  unfold laws_FnExactLifeMay.f
  repeat' first
      | (with_reducible exact impl_LifeMay.mono _ _ _)
      | (with_reducible exact spec_LifeMay.mono _ _ _)
      | (with_reducible exact LeO.refl _)
      | (with_reducible exact LeO.none _)
      | (with_reducible refine LeO.ite ?_ ?_)
      | (with_reducible refine LeO.bind ?_ (fun _ => ?_))
      | exact impl_LifeMay.mono _ _ _
      | exact spec_LifeMay.mono _ _ _
      | exact LeO.none _
      | refine LeO.ite ?_ ?_
      | refine LeO.bind ?_ (fun _ => ?_)
set_option maxHeartbeats 8000000 in
set_option maxRecDepth 100000 in
theorem laws_FnExactLifeMay.calls (k : Nat) (a0 : Int) (a1 : Int) (r : Bool) (w : World) (hr_ : r = true) (h : laws_FnExactLifeMay.f k a0 a1 = some r) :
    Calls Try.prog 8 #[.int .i64 a0, .int .i64 a1] w fun e w' => e = .returned (.bool r) ∧ Drawn0 w w' := by
  have H : ((spec_LifeMay.f k a0 a1).bind fun t184 => ((impl_LifeMay.f k a0 a1).bind fun t185 => (if (t185 != t184) = true then (some false) else (some true)))) = some r := h
  clear h
  replace H := Option.bind_eq_some_iff.mp H
  obtain ⟨t184, A30, H⟩ := H
  replace H : ((impl_LifeMay.f k a0 a1).bind fun t185 => (if (t185 != t184) = true then (some false) else (some true))) = some r := H
  have A3 := Aside0.mk A30
  clear A30
  replace H := Option.bind_eq_some_iff.mp H
  obtain ⟨t185, A40, H⟩ := H
  replace H : (if (t185 != t184) = true then (some false) else (some true)) = some r := H
  have A4 := Aside0.mk A40
  clear A40
  by_cases c5 : (t185 != t184) = true
  · rw [if_pos c5] at H
    have c5b0 : (t185 != t184) = true := c5
    (try (have c5b1 : decide (t185 = t184) = false := by simpa using c5))
    (try (have c5b2 : (t185 == t184) = false := by simpa using c5))
    (try (have c5b3 : ¬ (t185 = t184) := by simpa using c5))
    clear c5
    obtain rfl := Option.some.inj H
    exact absurd hr_ (by decide)
  · rw [if_neg c5] at H
    have c5b0 : (t185 != t184) = false := by simpa using c5
    (try (have c5b1 : decide (t185 = t184) = true := by simpa using c5))
    (try (have c5b2 : (t185 == t184) = true := by simpa using c5))
    clear c5
    obtain rfl := Option.some.inj H
    go_enter Try.func8, Try.ntmps8
    go_wp2_with (first | ((with_reducible refine gate_callee (f := 28) rfl ?_); refine goesL_ (some 9) rfl rfl Try.func28 (by kernel_rfl) rfl #[.int .i64 a0, .int .i64 a1] rfl (by (try simp only [List.map_toArray, List.map_cons, List.map_nil]); first | done | rfl | (simp only [List.length_drop, List.length_take]; rfl)) ?_; (with_reducible refine (spec_LifeMay.calls k a0 a1 t184 _ A3.out).mono ?_); rintro e w' ⟨rfl, ⟨nd, rfl⟩⟩; refine ⟨_, rfl, ?_⟩) | ((with_reducible refine gate_callee (f := 29) rfl ?_); refine goesL_ (some 12) rfl rfl Try.func29 (by kernel_rfl) rfl #[.int .i64 a0, .int .i64 a1] rfl (by (try simp only [List.map_toArray, List.map_cons, List.map_nil]); first | done | rfl | (simp only [List.length_drop, List.length_take]; rfl)) ?_; (with_reducible refine (impl_LifeMay.calls k a0 a1 t185 _ A4.out).mono ?_); rintro e w' ⟨rfl, ⟨nd, rfl⟩⟩; refine ⟨_, rfl, ?_⟩))
    go_ret
    exact ⟨by first | rfl | (simp; done) | (simp [*]; done), by repeat (first | exact Drawn0.refl _ | apply Drawn0.step)⟩

end Go.Proofs.Ytihpclkpodbndaa.P
