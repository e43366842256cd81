/- Texts of the seat's proofs, part 9: functions of the program told as plain functions, with their contracts, and what is shown of them. No condition. -/
import Derived.Test.YtknckcakcknbbaaU
import Derived.Test.YtknckcakcknbbaaM1
import Derived.Test.YtknckcakcknbbaaM7
import Derived.Test.YtknckcakcknbbaaM8
set_option linter.unusedVariables false
set_option linter.unusedSimpArgs false
namespace Go.Proofs.Ytknckcakcknbbaa.P
open Go.RowKit Go.Proofs.YtknckcakcknbbaaW.PrintWords Go.Proofs.YtknckcakcknbbaaW.PrintLast Go.Proofs.YtknckcakcknbbaaW.PrintMore
attribute [local go_sem] max2_int min2_int max_two min_two max_three min_three max_four min_four
set_option linter.unusedVariables false
set_option linter.unusedSimpArgs false
def laws_FnExactHeardUnlike.j0 : Nat → List (S75) → List (S75) → List Int → List Int → Bool → Option (Bool)
  | 0, _, _, _, _, _ => none
  | k + 1, x0, x1, x6, x9, x63 => if x63 = true then (some false) else ((laws_markIntS.f k x9 1).bind fun bt219 => ((laws_heldIntS.f k bt219.2 1).bind fun t221 => (if t221 < 0 then (some false) else (if t221 = bt219.1 then ((laws_toHeardS.f k x0).bind fun t222 => ((laws_toHeardS.f k x1).bind fun t225 => ((impl_HeardUnlike.f k t222 t225).bind fun t228 => ((laws_eqIntS.f k t228 x6).bind fun t231 => (if t231 = true then ((laws_heldIntS.f k bt219.2 1).bind fun t232 => (if t232 < 0 then (some false) else (if t232 = bt219.1 then (some true) else (some false)))) else (some false)))))) else (some false)))))
def laws_FnExactHeardUnlike.f (k : Nat) (l0 : List (S75)) (l1 : List (S75)) : Option (Bool) := (laws_szHeardS.f l0 1048576).bind fun t185 => (if t185 < 0 then (some true) else ((laws_szHeardS.f l1 t185).bind fun t186 => (if t186 < 0 then (some true) else ((laws_toHeardS.f k l0).bind fun t187 => ((laws_toHeardS.f k l1).bind fun t190 => ((spec_HeardUnlike.f k t187 t190).bind fun t193 => ((laws_toHeardS.f k l0).bind fun t196 => ((laws_toHeardS.f k l1).bind fun t199 => ((impl_HeardUnlike.f k t196 t199).bind fun t202 => ((laws_eqIntS.f k t202 t193).bind fun t205 => (if t205 = true then ((laws_toHeardS.f k l0).bind fun t206 => ((laws_eqHeardS.f k t196 t206).bind fun t209 => (if t209 = true then ((laws_toHeardS.f k l1).bind fun t210 => ((laws_eqHeardS.f k t199 t210).bind fun t213 => (if t213 = true then ((laws_markHeardS.f k t196 1).bind fun bt214 => ((laws_markHeardS.f k t199 bt214.1).bind fun bt216 => (if bt216.1 < 0 then (laws_FnExactHeardUnlike.j0 k l0 l1 t193 t202 true) else ((laws_eqIntS.f k t202 t193).bind fun t218 => (laws_FnExactHeardUnlike.j0 k l0 l1 t193 t202 (!t218)))))) else (some false)))) else (some false)))) else (some false))))))))))))
theorem laws_FnExactHeardUnlike.mono_l : ∀ k, (∀ y0 y1 y2 y3 y4, LeO (laws_FnExactHeardUnlike.j0 k y0 y1 y2 y3 y4) (laws_FnExactHeardUnlike.j0 (k + 1) y0 y1 y2 y3 y4))
  | 0 => fun _ _ _ _ _ r h => by simp [laws_FnExactHeardUnlike.j0] at h
  | k + 1 => by
    have ih0 := laws_FnExactHeardUnlike.mono_l k
    · intro y0 y1 y2 y3 y4
      unfold laws_FnExactHeardUnlike.j0
      repeat' first
      | (with_reducible exact ih0 _ _ _ _ _)
      | (with_reducible exact impl_HeardUnlike.mono _ _ _)
      | (with_reducible exact laws_eqHeardS.mono _ _ _)
      | (with_reducible exact laws_eqIntS.mono _ _ _)
      | (with_reducible exact laws_heldIntS.mono _ _ _)
      | (with_reducible exact laws_markHeardS.mono _ _ _)
      | (with_reducible exact laws_markIntS.mono _ _ _)
      | (with_reducible exact laws_toHeardS.mono _ _)
      | (with_reducible exact spec_HeardUnlike.mono _ _ _)
      | (with_reducible exact LeO.refl _)
      | (with_reducible exact LeO.none _)
      | (with_reducible refine LeO.ite ?_ ?_)
      | (with_reducible refine LeO.bind ?_ (fun _ => ?_))
      | exact ih0 _ _ _ _ _
      | exact impl_HeardUnlike.mono _ _ _
      | exact laws_eqHeardS.mono _ _ _
      | exact laws_eqIntS.mono _ _ _
      | exact laws_heldIntS.mono _ _ _
      | exact laws_markHeardS.mono _ _ _
      | exact laws_markIntS.mono _ _ _
      | exact laws_toHeardS.mono _ _
      | exact spec_HeardUnlike.mono _ _ _
      | exact LeO.none _
      | refine LeO.ite ?_ ?_
      | refine LeO.bind ?_ (fun _ => ?_)
theorem laws_FnExactHeardUnlike.mono : ∀ a0 a1 k, LeO (laws_FnExactHeardUnlike.f k a0 a1) (laws_FnExactHeardUnlike.f (k + 1) a0 a1) := by
  intro a0 a1 k
  have ih0 := laws_FnExactHeardUnlike.mono_l k
  unfold laws_FnExactHeardUnlike.f
  repeat' first
      | (with_reducible exact ih0 _ _ _ _ _)
      | (with_reducible exact impl_HeardUnlike.mono _ _ _)
      | (with_reducible exact laws_eqHeardS.mono _ _ _)
      | (with_reducible exact laws_eqIntS.mono _ _ _)
      | (with_reducible exact laws_heldIntS.mono _ _ _)
      | (with_reducible exact laws_markHeardS.mono _ _ _)
      | (with_reducible exact laws_markIntS.mono _ _ _)
      | (with_reducible exact laws_toHeardS.mono _ _)
      | (with_reducible exact spec_HeardUnlike.mono _ _ _)
      | (with_reducible exact LeO.refl _)
      | (with_reducible exact LeO.none _)
      | (with_reducible refine LeO.ite ?_ ?_)
      | (with_reducible refine LeO.bind ?_ (fun _ => ?_))
      | exact ih0 _ _ _ _ _
      | exact impl_HeardUnlike.mono _ _ _
      | exact laws_eqHeardS.mono _ _ _
      | exact laws_eqIntS.mono _ _ _
      | exact laws_heldIntS.mono _ _ _
      | exact laws_markHeardS.mono _ _ _
      | exact laws_markIntS.mono _ _ _
      | exact laws_toHeardS.mono _ _
      | exact spec_HeardUnlike.mono _ _ _
      | exact LeO.none _
      | refine LeO.ite ?_ ?_
      | refine LeO.bind ?_ (fun _ => ?_)
set_option maxHeartbeats 8000000 in
set_option maxRecDepth 100000 in
theorem laws_FnExactHeardUnlike.calls (k : Nat) (A0 : Option Addr) (c0 : Nat) (l0 : List (S75)) (A1 : Option Addr) (c1 : Nat) (l1 : List (S75)) (r : Bool) (w : World) (hr0 : Kd.C k75 w A0 l0.length l0) (hc0 : l0.length ≤ c0) (hr1 : Kd.C k75 w A1 l1.length l1) (hc1 : l1.length ≤ c1) (hr_ : r = true) (h : laws_FnExactHeardUnlike.f k l0 l1 = some r) :
    Calls Try.prog 3 #[.slice A0 l0.length c0, .slice A1 l1.length c1] w fun e w' => e = .returned (.bool r) ∧ Below w.heap.size w w' := by
  have HR0 := Aside0.mk hr0
  have HC0 := Aside0.mk hc0
  clear hr0 hc0
  have HR1 := Aside0.mk hr1
  have HC1 := Aside0.mk hc1
  clear hr1 hc1
  have HB := Aside0.mk (Below.refl w.heap.size w)
  have H : ((laws_szHeardS.f l0 1048576).bind fun t185 => (if t185 < 0 then (some true) else ((laws_szHeardS.f l1 t185).bind fun t186 => (if t186 < 0 then (some true) else ((laws_toHeardS.f k l0).bind fun t187 => ((laws_toHeardS.f k l1).bind fun t190 => ((spec_HeardUnlike.f k t187 t190).bind fun t193 => ((laws_toHeardS.f k l0).bind fun t196 => ((laws_toHeardS.f k l1).bind fun t199 => ((impl_HeardUnlike.f k t196 t199).bind fun t202 => ((laws_eqIntS.f k t202 t193).bind fun t205 => (if t205 = true then ((laws_toHeardS.f k l0).bind fun t206 => ((laws_eqHeardS.f k t196 t206).bind fun t209 => (if t209 = true then ((laws_toHeardS.f k l1).bind fun t210 => ((laws_eqHeardS.f k t199 t210).bind fun t213 => (if t213 = true then ((laws_markHeardS.f k t196 1).bind fun bt214 => ((laws_markHeardS.f k t199 bt214.1).bind fun bt216 => (if bt216.1 < 0 then (laws_FnExactHeardUnlike.j0 k l0 l1 t193 t202 true) else ((laws_eqIntS.f k t202 t193).bind fun t218 => (laws_FnExactHeardUnlike.j0 k l0 l1 t193 t202 (!t218)))))) else (some false)))) else (some false)))) else (some false))))))))))))) = some r := h
  clear h
  replace H := Option.bind_eq_some_iff.mp H
  obtain ⟨t185, A30, H⟩ := H
  replace H : (if t185 < 0 then (some true) else ((laws_szHeardS.f l1 t185).bind fun t186 => (if t186 < 0 then (some true) else ((laws_toHeardS.f k l0).bind fun t187 => ((laws_toHeardS.f k l1).bind fun t190 => ((spec_HeardUnlike.f k t187 t190).bind fun t193 => ((laws_toHeardS.f k l0).bind fun t196 => ((laws_toHeardS.f k l1).bind fun t199 => ((impl_HeardUnlike.f k t196 t199).bind fun t202 => ((laws_eqIntS.f k t202 t193).bind fun t205 => (if t205 = true then ((laws_toHeardS.f k l0).bind fun t206 => ((laws_eqHeardS.f k t196 t206).bind fun t209 => (if t209 = true then ((laws_toHeardS.f k l1).bind fun t210 => ((laws_eqHeardS.f k t199 t210).bind fun t213 => (if t213 = true then ((laws_markHeardS.f k t196 1).bind fun bt214 => ((laws_markHeardS.f k t199 bt214.1).bind fun bt216 => (if bt216.1 < 0 then (laws_FnExactHeardUnlike.j0 k l0 l1 t193 t202 true) else ((laws_eqIntS.f k t202 t193).bind fun t218 => (laws_FnExactHeardUnlike.j0 k l0 l1 t193 t202 (!t218)))))) else (some false)))) else (some false)))) else (some false)))))))))))) = some r := H
  have A3 := Aside0.mk A30
  clear A30
  by_cases c4 : t185 < 0
  · rw [if_pos c4] at H
    have c4b0 : decide (t185 < 0) = true := decide_eq_true c4
    clear c4
    obtain rfl := Option.some.inj H
    go_enter Try.func3, Try.ntmps3
    go_wp2_with (first | ((with_reducible refine gate_callee (f := 9) rfl ?_); refine goesL_ (some 16) rfl rfl Try.func9 (by kernel_rfl) rfl #[.slice A0 l0.length c0, .int .i64 1048576] rfl arr_ ?_; (with_reducible refine (laws_szHeardS.calls _ _ l0 1048576 t185 _ ?side1 ?side2 A3.out).mono ?_); (case side1 => repeat (first | exact HR0.out | (with_reducible refine Kd.C_alloc ?_ _) | (with_reducible refine Kd.C_drewN ?_ _) | (with_reducible refine Kd.C_drew ?_))); (case side2 => exact HC0.out); rintro e w' ⟨rfl, ⟨nd, rfl⟩⟩; refine ⟨_, rfl, ?_⟩))
    go_ret
    exact ⟨er_, hb_ HB.out⟩
  · rw [if_neg c4] at H
    have c4b0 : decide (t185 < 0) = false := decide_eq_false c4
    clear c4
    replace H := Option.bind_eq_some_iff.mp H
    obtain ⟨t186, A50, H⟩ := H
    replace H : (if t186 < 0 then (some true) else ((laws_toHeardS.f k l0).bind fun t187 => ((laws_toHeardS.f k l1).bind fun t190 => ((spec_HeardUnlike.f k t187 t190).bind fun t193 => ((laws_toHeardS.f k l0).bind fun t196 => ((laws_toHeardS.f k l1).bind fun t199 => ((impl_HeardUnlike.f k t196 t199).bind fun t202 => ((laws_eqIntS.f k t202 t193).bind fun t205 => (if t205 = true then ((laws_toHeardS.f k l0).bind fun t206 => ((laws_eqHeardS.f k t196 t206).bind fun t209 => (if t209 = true then ((laws_toHeardS.f k l1).bind fun t210 => ((laws_eqHeardS.f k t199 t210).bind fun t213 => (if t213 = true then ((laws_markHeardS.f k t196 1).bind fun bt214 => ((laws_markHeardS.f k t199 bt214.1).bind fun bt216 => (if bt216.1 < 0 then (laws_FnExactHeardUnlike.j0 k l0 l1 t193 t202 true) else ((laws_eqIntS.f k t202 t193).bind fun t218 => (laws_FnExactHeardUnlike.j0 k l0 l1 t193 t202 (!t218)))))) else (some false)))) else (some false)))) else (some false)))))))))) = some r := H
    have A5 := Aside0.mk A50
    clear A50
    by_cases c6 : t186 < 0
    · rw [if_pos c6] at H
      have c6b0 : decide (t186 < 0) = true := decide_eq_true c6
      clear c6
      obtain rfl := Option.some.inj H
      go_enter Try.func3, Try.ntmps3
      go_wp2_with (first | ((with_reducible refine gate_callee (f := 9) rfl ?_); refine goesL_ (some 16) rfl rfl Try.func9 (by kernel_rfl) rfl #[.slice A0 l0.length c0, .int .i64 1048576] rfl arr_ ?_; (with_reducible refine (laws_szHeardS.calls _ _ l0 1048576 t185 _ ?side1 ?side2 A3.out).mono ?_); (case side1 => repeat (first | exact HR0.out | (with_reducible refine Kd.C_alloc ?_ _) | (with_reducible refine Kd.C_drewN ?_ _) | (with_reducible refine Kd.C_drew ?_))); (case side2 => exact HC0.out); rintro e w' ⟨rfl, ⟨nd, rfl⟩⟩; refine ⟨_, rfl, ?_⟩) | ((with_reducible refine gate_callee (f := 9) rfl ?_); refine goesL_ (some 21) rfl rfl Try.func9 (by kernel_rfl) rfl #[.slice A1 l1.length c1, .int .i64 t185] rfl arr_ ?_; (with_reducible refine (laws_szHeardS.calls _ _ l1 t185 t186 _ ?side1 ?side2 A5.out).mono ?_); (case side1 => repeat (first | exact HR1.out | (with_reducible refine Kd.C_alloc ?_ _) | (with_reducible refine Kd.C_drewN ?_ _) | (with_reducible refine Kd.C_drew ?_))); (case side2 => exact HC1.out); rintro e w' ⟨rfl, ⟨nd, rfl⟩⟩; refine ⟨_, rfl, ?_⟩))
      go_ret
      exact ⟨er_, hb_ HB.out⟩
    · rw [if_neg c6] at H
      have c6b0 : decide (t186 < 0) = false := decide_eq_false c6
      clear c6
      replace H := Option.bind_eq_some_iff.mp H
      obtain ⟨t187, A70, H⟩ := H
      replace H : ((laws_toHeardS.f k l1).bind fun t190 => ((spec_HeardUnlike.f k t187 t190).bind fun t193 => ((laws_toHeardS.f k l0).bind fun t196 => ((laws_toHeardS.f k l1).bind fun t199 => ((impl_HeardUnlike.f k t196 t199).bind fun t202 => ((laws_eqIntS.f k t202 t193).bind fun t205 => (if t205 = true then ((laws_toHeardS.f k l0).bind fun t206 => ((laws_eqHeardS.f k t196 t206).bind fun t209 => (if t209 = true then ((laws_toHeardS.f k l1).bind fun t210 => ((laws_eqHeardS.f k t199 t210).bind fun t213 => (if t213 = true then ((laws_markHeardS.f k t196 1).bind fun bt214 => ((laws_markHeardS.f k t199 bt214.1).bind fun bt216 => (if bt216.1 < 0 then (laws_FnExactHeardUnlike.j0 k l0 l1 t193 t202 true) else ((laws_eqIntS.f k t202 t193).bind fun t218 => (laws_FnExactHeardUnlike.j0 k l0 l1 t193 t202 (!t218)))))) else (some false)))) else (some false)))) else (some false)))))))) = some r := H
      have A7 := Aside0.mk A70
      clear A70
      replace H := Option.bind_eq_some_iff.mp H
      obtain ⟨t190, A80, H⟩ := H
      replace H : ((spec_HeardUnlike.f k t187 t190).bind fun t193 => ((laws_toHeardS.f k l0).bind fun t196 => ((laws_toHeardS.f k l1).bind fun t199 => ((impl_HeardUnlike.f k t196 t199).bind fun t202 => ((laws_eqIntS.f k t202 t193).bind fun t205 => (if t205 = true then ((laws_toHeardS.f k l0).bind fun t206 => ((laws_eqHeardS.f k t196 t206).bind fun t209 => (if t209 = true then ((laws_toHeardS.f k l1).bind fun t210 => ((laws_eqHeardS.f k t199 t210).bind fun t213 => (if t213 = true then ((laws_markHeardS.f k t196 1).bind fun bt214 => ((laws_markHeardS.f k t199 bt214.1).bind fun bt216 => (if bt216.1 < 0 then (laws_FnExactHeardUnlike.j0 k l0 l1 t193 t202 true) else ((laws_eqIntS.f k t202 t193).bind fun t218 => (laws_FnExactHeardUnlike.j0 k l0 l1 t193 t202 (!t218)))))) else (some false)))) else (some false)))) else (some false))))))) = some r := H
      have A8 := Aside0.mk A80
      clear A80
      replace H := Option.bind_eq_some_iff.mp H
      obtain ⟨t193, A90, H⟩ := H
      replace H : ((laws_toHeardS.f k l0).bind fun t196 => ((laws_toHeardS.f k l1).bind fun t199 => ((impl_HeardUnlike.f k t196 t199).bind fun t202 => ((laws_eqIntS.f k t202 t193).bind fun t205 => (if t205 = true then ((laws_toHeardS.f k l0).bind fun t206 => ((laws_eqHeardS.f k t196 t206).bind fun t209 => (if t209 = true then ((laws_toHeardS.f k l1).bind fun t210 => ((laws_eqHeardS.f k t199 t210).bind fun t213 => (if t213 = true then ((laws_markHeardS.f k t196 1).bind fun bt214 => ((laws_markHeardS.f k t199 bt214.1).bind fun bt216 => (if bt216.1 < 0 then (laws_FnExactHeardUnlike.j0 k l0 l1 t193 t202 true) else ((laws_eqIntS.f k t202 t193).bind fun t218 => (laws_FnExactHeardUnlike.j0 k l0 l1 t193 t202 (!t218)))))) else (some false)))) else (some false)))) else (some false)))))) = some r := H
      have A9 := Aside0.mk A90
      clear A90
      replace H := Option.bind_eq_some_iff.mp H
      obtain ⟨t196, A100, H⟩ := H
      replace H : ((laws_toHeardS.f k l1).bind fun t199 => ((impl_HeardUnlike.f k t196 t199).bind fun t202 => ((laws_eqIntS.f k t202 t193).bind fun t205 => (if t205 = true then ((laws_toHeardS.f k l0).bind fun t206 => ((laws_eqHeardS.f k t196 t206).bind fun t209 => (if t209 = true then ((laws_toHeardS.f k l1).bind fun t210 => ((laws_eqHeardS.f k t199 t210).bind fun t213 => (if t213 = true then ((laws_markHeardS.f k t196 1).bind fun bt214 => ((laws_markHeardS.f k t199 bt214.1).bind fun bt216 => (if bt216.1 < 0 then (laws_FnExactHeardUnlike.j0 k l0 l1 t193 t202 true) else ((laws_eqIntS.f k t202 t193).bind fun t218 => (laws_FnExactHeardUnlike.j0 k l0 l1 t193 t202 (!t218)))))) else (some false)))) else (some false)))) else (some false))))) = some r := H
      have A10 := Aside0.mk A100
      clear A100
      replace H := Option.bind_eq_some_iff.mp H
      obtain ⟨t199, A110, H⟩ := H
      replace H : ((impl_HeardUnlike.f k t196 t199).bind fun t202 => ((laws_eqIntS.f k t202 t193).bind fun t205 => (if t205 = true then ((laws_toHeardS.f k l0).bind fun t206 => ((laws_eqHeardS.f k t196 t206).bind fun t209 => (if t209 = true then ((laws_toHeardS.f k l1).bind fun t210 => ((laws_eqHeardS.f k t199 t210).bind fun t213 => (if t213 = true then ((laws_markHeardS.f k t196 1).bind fun bt214 => ((laws_markHeardS.f k t199 bt214.1).bind fun bt216 => (if bt216.1 < 0 then (laws_FnExactHeardUnlike.j0 k l0 l1 t193 t202 true) else ((laws_eqIntS.f k t202 t193).bind fun t218 => (laws_FnExactHeardUnlike.j0 k l0 l1 t193 t202 (!t218)))))) else (some false)))) else (some false)))) else (some false)))) = some r := H
      have A11 := Aside0.mk A110
      clear A110
      replace H := Option.bind_eq_some_iff.mp H
      obtain ⟨t202, A120, H⟩ := H
      replace H : ((laws_eqIntS.f k t202 t193).bind fun t205 => (if t205 = true then ((laws_toHeardS.f k l0).bind fun t206 => ((laws_eqHeardS.f k t196 t206).bind fun t209 => (if t209 = true then ((laws_toHeardS.f k l1).bind fun t210 => ((laws_eqHeardS.f k t199 t210).bind fun t213 => (if t213 = true then ((laws_markHeardS.f k t196 1).bind fun bt214 => ((laws_markHeardS.f k t199 bt214.1).bind fun bt216 => (if bt216.1 < 0 then (laws_FnExactHeardUnlike.j0 k l0 l1 t193 t202 true) else ((laws_eqIntS.f k t202 t193).bind fun t218 => (laws_FnExactHeardUnlike.j0 k l0 l1 t193 t202 (!t218)))))) else (some false)))) else (some false)))) else (some false))) = some r := H
      have A12 := Aside0.mk A120
      clear A120
      replace H := Option.bind_eq_some_iff.mp H
      obtain ⟨t205, A130, H⟩ := H
      replace H : (if t205 = true then ((laws_toHeardS.f k l0).bind fun t206 => ((laws_eqHeardS.f k t196 t206).bind fun t209 => (if t209 = true then ((laws_toHeardS.f k l1).bind fun t210 => ((laws_eqHeardS.f k t199 t210).bind fun t213 => (if t213 = true then ((laws_markHeardS.f k t196 1).bind fun bt214 => ((laws_markHeardS.f k t199 bt214.1).bind fun bt216 => (if bt216.1 < 0 then (laws_FnExactHeardUnlike.j0 k l0 l1 t193 t202 true) else ((laws_eqIntS.f k t202 t193).bind fun t218 => (laws_FnExactHeardUnlike.j0 k l0 l1 t193 t202 (!t218)))))) else (some false)))) else (some false)))) else (some false)) = some r := H
      have A13 := Aside0.mk A130
      clear A130
      by_cases c14 : t205 = true
      · subst c14
        have H1 : ((laws_toHeardS.f k l0).bind fun t206 => ((laws_eqHeardS.f k t196 t206).bind fun t209 => (if t209 = true then ((laws_toHeardS.f k l1).bind fun t210 => ((laws_eqHeardS.f k t199 t210).bind fun t213 => (if t213 = true then ((laws_markHeardS.f k t196 1).bind fun bt214 => ((laws_markHeardS.f k t199 bt214.1).bind fun bt216 => (if bt216.1 < 0 then (laws_FnExactHeardUnlike.j0 k l0 l1 t193 t202 true) else ((laws_eqIntS.f k t202 t193).bind fun t218 => (laws_FnExactHeardUnlike.j0 k l0 l1 t193 t202 (!t218)))))) else (some false)))) else (some false)))) = some r := by rw [if_pos rfl] at H; exact H
        clear H
        have H := H1
        clear H1
        replace H := Option.bind_eq_some_iff.mp H
        obtain ⟨t206, A150, H⟩ := H
        replace H : ((laws_eqHeardS.f k t196 t206).bind fun t209 => (if t209 = true then ((laws_toHeardS.f k l1).bind fun t210 => ((laws_eqHeardS.f k t199 t210).bind fun t213 => (if t213 = true then ((laws_markHeardS.f k t196 1).bind fun bt214 => ((laws_markHeardS.f k t199 bt214.1).bind fun bt216 => (if bt216.1 < 0 then (laws_FnExactHeardUnlike.j0 k l0 l1 t193 t202 true) else ((laws_eqIntS.f k t202 t193).bind fun t218 => (laws_FnExactHeardUnlike.j0 k l0 l1 t193 t202 (!t218)))))) else (some false)))) else (some false))) = some r := H
        have A15 := Aside0.mk A150
        clear A150
        replace H := Option.bind_eq_some_iff.mp H
        obtain ⟨t209, A160, H⟩ := H
        replace H : (if t209 = true then ((laws_toHeardS.f k l1).bind fun t210 => ((laws_eqHeardS.f k t199 t210).bind fun t213 => (if t213 = true then ((laws_markHeardS.f k t196 1).bind fun bt214 => ((laws_markHeardS.f k t199 bt214.1).bind fun bt216 => (if bt216.1 < 0 then (laws_FnExactHeardUnlike.j0 k l0 l1 t193 t202 true) else ((laws_eqIntS.f k t202 t193).bind fun t218 => (laws_FnExactHeardUnlike.j0 k l0 l1 t193 t202 (!t218)))))) else (some false)))) else (some false)) = some r := H
        have A16 := Aside0.mk A160
        clear A160
        by_cases c17 : t209 = true
        · subst c17
          have H1 : ((laws_toHeardS.f k l1).bind fun t210 => ((laws_eqHeardS.f k t199 t210).bind fun t213 => (if t213 = true then ((laws_markHeardS.f k t196 1).bind fun bt214 => ((laws_markHeardS.f k t199 bt214.1).bind fun bt216 => (if bt216.1 < 0 then (laws_FnExactHeardUnlike.j0 k l0 l1 t193 t202 true) else ((laws_eqIntS.f k t202 t193).bind fun t218 => (laws_FnExactHeardUnlike.j0 k l0 l1 t193 t202 (!t218)))))) else (some false)))) = some r := by rw [if_pos rfl] at H; exact H
          clear H
          have H := H1
          clear H1
          replace H := Option.bind_eq_some_iff.mp H
          obtain ⟨t210, A180, H⟩ := H
          replace H : ((laws_eqHeardS.f k t199 t210).bind fun t213 => (if t213 = true then ((laws_markHeardS.f k t196 1).bind fun bt214 => ((laws_markHeardS.f k t199 bt214.1).bind fun bt216 => (if bt216.1 < 0 then (laws_FnExactHeardUnlike.j0 k l0 l1 t193 t202 true) else ((laws_eqIntS.f k t202 t193).bind fun t218 => (laws_FnExactHeardUnlike.j0 k l0 l1 t193 t202 (!t218)))))) else (some false))) = some r := H
          have A18 := Aside0.mk A180
          clear A180
          replace H := Option.bind_eq_some_iff.mp H
          obtain ⟨t213, A190, H⟩ := H
          replace H : (if t213 = true then ((laws_markHeardS.f k t196 1).bind fun bt214 => ((laws_markHeardS.f k t199 bt214.1).bind fun bt216 => (if bt216.1 < 0 then (laws_FnExactHeardUnlike.j0 k l0 l1 t193 t202 true) else ((laws_eqIntS.f k t202 t193).bind fun t218 => (laws_FnExactHeardUnlike.j0 k l0 l1 t193 t202 (!t218)))))) else (some false)) = some r := H
          have A19 := Aside0.mk A190
          clear A190
          by_cases c20 : t213 = true
          · subst c20
            have H1 : ((laws_markHeardS.f k t196 1).bind fun bt214 => ((laws_markHeardS.f k t199 bt214.1).bind fun bt216 => (if bt216.1 < 0 then (laws_FnExactHeardUnlike.j0 k l0 l1 t193 t202 true) else ((laws_eqIntS.f k t202 t193).bind fun t218 => (laws_FnExactHeardUnlike.j0 k l0 l1 t193 t202 (!t218)))))) = some r := by rw [if_pos rfl] at H; exact H
            clear H
            have H := H1
            clear H1
            replace H := Option.bind_eq_some_iff.mp H
            obtain ⟨⟨t214, t215⟩, A210, H⟩ := H
            replace H : ((laws_markHeardS.f k t199 t214).bind fun bt216 => (if bt216.1 < 0 then (laws_FnExactHeardUnlike.j0 k l0 l1 t193 t202 true) else ((laws_eqIntS.f k t202 t193).bind fun t218 => (laws_FnExactHeardUnlike.j0 k l0 l1 t193 t202 (!t218))))) = some r := H
            have A21 := Aside0.mk A210
            clear A210
            replace H := Option.bind_eq_some_iff.mp H
            obtain ⟨⟨t216, t217⟩, A220, H⟩ := H
            replace H : (if t216 < 0 then (laws_FnExactHeardUnlike.j0 k l0 l1 t193 t202 true) else ((laws_eqIntS.f k t202 t193).bind fun t218 => (laws_FnExactHeardUnlike.j0 k l0 l1 t193 t202 (!t218)))) = some r := H
            have A22 := Aside0.mk A220
            clear A220
            have HC23 := Aside0.mk H
            clear H
            go_enter Try.func3, Try.ntmps3
            go_upto_region 21 with (first | ((with_reducible refine gate_callee (f := 9) rfl ?_); refine goesL_ (some 16) rfl rfl Try.func9 (by kernel_rfl) rfl #[.slice A0 l0.length c0, .int .i64 1048576] rfl arr_ ?_; (with_reducible refine (laws_szHeardS.calls _ _ l0 1048576 t185 _ ?side1 ?side2 A3.out).mono ?_); (case side1 => repeat (first | exact HR0.out | (with_reducible refine Kd.C_alloc ?_ _) | (with_reducible refine Kd.C_drewN ?_ _) | (with_reducible refine Kd.C_drew ?_))); (case side2 => exact HC0.out); rintro e w' ⟨rfl, ⟨nd, rfl⟩⟩; refine ⟨_, rfl, ?_⟩) | ((with_reducible refine gate_callee (f := 9) rfl ?_); refine goesL_ (some 21) rfl rfl Try.func9 (by kernel_rfl) rfl #[.slice A1 l1.length c1, .int .i64 t185] rfl arr_ ?_; (with_reducible refine (laws_szHeardS.calls _ _ l1 t185 t186 _ ?side1 ?side2 A5.out).mono ?_); (case side1 => repeat (first | exact HR1.out | (with_reducible refine Kd.C_alloc ?_ _) | (with_reducible refine Kd.C_drewN ?_ _) | (with_reducible refine Kd.C_drew ?_))); (case side2 => exact HC1.out); rintro e w' ⟨rfl, ⟨nd, rfl⟩⟩; refine ⟨_, rfl, ?_⟩) | ((with_reducible refine gate_callee (f := 11) rfl ?_); refine goesL_ (some 25) rfl rfl Try.func11 (by kernel_rfl) rfl #[.slice A0 l0.length c0] rfl arr_ ?_; (with_reducible refine (laws_toHeardS.calls k _ _ l0 t187 _ ?side1 ?side2 A7.out).mono ?_); (case side1 => repeat (first | exact HR0.out | (with_reducible refine Kd.C_alloc ?_ _) | (with_reducible refine Kd.C_drewN ?_ _) | (with_reducible refine Kd.C_drew ?_))); (case side2 => exact HC0.out); rintro e w24 ⟨v188, rfl, ho0, hb⟩; refine ⟨_, rfl, ?_⟩; have n0_ := Aside0.mk (Kd.R_lower ho0 (below_size (hb_ HB.out))); have n1_ := Aside0.mk (below_step (hb_ HB.out) hb); clear HB; have HO189 := n0_; have HB := n1_; clear n0_ n1_; (try clear hb); (try clear hb2); (try clear hk); (try clear hi); (try clear ho0)) | ((with_reducible refine gate_callee (f := 11) rfl ?_); refine goesL_ (some 27) rfl rfl Try.func11 (by kernel_rfl) rfl #[.slice A1 l1.length c1] rfl arr_ ?_; (with_reducible refine (laws_toHeardS.calls k _ _ l1 t190 _ ?side1 ?side2 A8.out).mono ?_); (case side1 => exact kc_ (Kd.C_below HR1.out HB.out)); (case side2 => exact HC1.out); rintro e w25 ⟨v191, rfl, ho0, hb⟩; refine ⟨_, rfl, ?_⟩; have n0_ := Aside0.mk (Kd.R_elder' (by (with_reducible repeat (first | apply Kd.R_alloc | apply Kd.R_drewN | apply Kd.R_drew)); exact HO189.out) (Kd.R_base ho0) hb); have n1_ := Aside0.mk (Kd.R_lower (Kd.R_new' ho0 (Kd.R_lt (by (with_reducible repeat (first | apply Kd.R_alloc | apply Kd.R_drewN | apply Kd.R_drew)); exact HO189.out))) (below_size (hb_ HB.out))); have n2_ := Aside0.mk (below_step (hb_ HB.out) hb); clear HO189; clear HB; have HO189 := n0_; have HO192 := n1_; have HB := n2_; clear n0_ n1_ n2_; (try clear hb); (try clear hb2); (try clear hk); (try clear hi); (try clear ho0); obtain ⟨Ao26, co26, eo26⟩ := Kd.R_slice HO189.out; subst eo26; obtain ⟨Ao27, co27, eo27⟩ := Kd.R_slice HO192.out; subst eo27) | ((with_reducible refine gate_callee (f := 10) rfl ?_); refine goesL_ (some 28) rfl rfl Try.func10 (by kernel_rfl) rfl #[.slice Ao26 t187.length co26, .slice Ao27 t190.length co27] rfl arr_ ?_; (with_reducible refine (spec_HeardUnlike.calls k _ _ t187 _ _ t190 t193 _ ?side1 ?side2 ?side3 ?side4 A9.out).mono ?_); (case side1 => repeat (first | exact (Kd.R_reads' HO189.out).2.2 | (with_reducible refine Kd.C_alloc ?_ _) | (with_reducible refine Kd.C_drewN ?_ _) | (with_reducible refine Kd.C_drew ?_))); (case side2 => exact (Kd.R_reads' HO189.out).2.1); (case side3 => repeat (first | exact (Kd.R_reads' HO192.out).2.2 | (with_reducible refine Kd.C_alloc ?_ _) | (with_reducible refine Kd.C_drewN ?_ _) | (with_reducible refine Kd.C_drew ?_))); (case side4 => exact (Kd.R_reads' HO192.out).2.1); rintro e w28 ⟨v194, rfl, ho0, hb⟩; refine ⟨_, rfl, ?_⟩; have n0_ := Aside0.mk (Kd.R_below (by (with_reducible repeat (first | apply Kd.R_alloc | apply Kd.R_drewN | apply Kd.R_drew)); exact HO189.out) hb); have n1_ := Aside0.mk (Kd.R_below (by (with_reducible repeat (first | apply Kd.R_alloc | apply Kd.R_drewN | apply Kd.R_drew)); exact HO192.out) hb); have n2_ := Aside0.mk (Kd.R_lower ho0 (below_size (hb_ HB.out))); have n3_ := Aside0.mk (below_step (hb_ HB.out) hb); clear HO189; clear HO192; clear HB; have HO189 := n0_; have HO192 := n1_; have HO195 := n2_; have HB := n3_; clear n0_ n1_ n2_ n3_; (try clear hb); (try clear hb2); (try clear hk); (try clear hi); (try clear ho0)) | ((with_reducible refine gate_callee (f := 11) rfl ?_); refine goesL_ (some 30) rfl rfl Try.func11 (by kernel_rfl) rfl #[.slice A0 l0.length c0] rfl arr_ ?_; (with_reducible refine (laws_toHeardS.calls k _ _ l0 t196 _ ?side1 ?side2 A10.out).mono ?_); (case side1 => exact kc_ (Kd.C_below HR0.out HB.out)); (case side2 => exact HC0.out); rintro e w29 ⟨v197, rfl, ho0, hb⟩; refine ⟨_, rfl, ?_⟩; have n0_ := Aside0.mk (Kd.R_elder' (by (with_reducible repeat (first | apply Kd.R_alloc | apply Kd.R_drewN | apply Kd.R_drew)); exact HO189.out) (Kd.R_base ho0) hb); have n1_ := Aside0.mk (Kd.R_elder' (by (with_reducible repeat (first | apply Kd.R_alloc | apply Kd.R_drewN | apply Kd.R_drew)); exact HO192.out) (Kd.R_base ho0) hb); have n2_ := Aside0.mk (Kd.R_below (by (with_reducible repeat (first | apply Kd.R_alloc | apply Kd.R_drewN | apply Kd.R_drew)); exact HO195.out) hb); have n3_ := Aside0.mk (Kd.R_lower (Kd.R_new' (Kd.R_new' ho0 (Kd.R_lt (by (with_reducible repeat (first | apply Kd.R_alloc | apply Kd.R_drewN | apply Kd.R_drew)); exact HO189.out))) (Kd.R_lt (by (with_reducible repeat (first | apply Kd.R_alloc | apply Kd.R_drewN | apply Kd.R_drew)); exact HO192.out))) (below_size (hb_ HB.out))); have n4_ := Aside0.mk (below_step (hb_ HB.out) hb); clear HO189; clear HO192; clear HO195; clear HB; have HO189 := n0_; have HO192 := n1_; have HO195 := n2_; have HO198 := n3_; have HB := n4_; clear n0_ n1_ n2_ n3_ n4_; (try clear hb); (try clear hb2); (try clear hk); (try clear hi); (try clear ho0)) | ((with_reducible refine gate_callee (f := 11) rfl ?_); refine goesL_ (some 32) rfl rfl Try.func11 (by kernel_rfl) rfl #[.slice A1 l1.length c1] rfl arr_ ?_; (with_reducible refine (laws_toHeardS.calls k _ _ l1 t199 _ ?side1 ?side2 A11.out).mono ?_); (case side1 => exact kc_ (Kd.C_below HR1.out HB.out)); (case side2 => exact HC1.out); rintro e w30 ⟨v200, rfl, ho0, hb⟩; refine ⟨_, rfl, ?_⟩; have n0_ := Aside0.mk (Kd.R_elder' (by (with_reducible repeat (first | apply Kd.R_alloc | apply Kd.R_drewN | apply Kd.R_drew)); exact HO189.out) (Kd.R_base ho0) hb); have n1_ := Aside0.mk (Kd.R_elder' (by (with_reducible repeat (first | apply Kd.R_alloc | apply Kd.R_drewN | apply Kd.R_drew)); exact HO192.out) (Kd.R_base ho0) hb); have n2_ := Aside0.mk (Kd.R_below (by (with_reducible repeat (first | apply Kd.R_alloc | apply Kd.R_drewN | apply Kd.R_drew)); exact HO195.out) hb); have n3_ := Aside0.mk (Kd.R_elder' (by (with_reducible repeat (first | apply Kd.R_alloc | apply Kd.R_drewN | apply Kd.R_drew)); exact HO198.out) (Kd.R_base ho0) hb); have n4_ := Aside0.mk (Kd.R_lower (Kd.R_new' (Kd.R_new' (Kd.R_new' ho0 (Kd.R_lt (by (with_reducible repeat (first | apply Kd.R_alloc | apply Kd.R_drewN | apply Kd.R_drew)); exact HO189.out))) (Kd.R_lt (by (with_reducible repeat (first | apply Kd.R_alloc | apply Kd.R_drewN | apply Kd.R_drew)); exact HO192.out))) (Kd.R_lt (by (with_reducible repeat (first | apply Kd.R_alloc | apply Kd.R_drewN | apply Kd.R_drew)); exact HO198.out))) (below_size (hb_ HB.out))); have n5_ := Aside0.mk (below_step (hb_ HB.out) hb); clear HO189; clear HO192; clear HO195; clear HO198; clear HB; have HO189 := n0_; have HO192 := n1_; have HO195 := n2_; have HO198 := n3_; have HO201 := n4_; have HB := n5_; clear n0_ n1_ n2_ n3_ n4_ n5_; (try clear hb); (try clear hb2); (try clear hk); (try clear hi); (try clear ho0); obtain ⟨Ao31, co31, eo31⟩ := Kd.R_slice HO198.out; subst eo31; obtain ⟨Ao32, co32, eo32⟩ := Kd.R_slice HO201.out; subst eo32) | ((with_reducible refine gate_callee (f := 12) rfl ?_); refine goesL_ (some 35) rfl rfl Try.func12 (by kernel_rfl) rfl #[.slice Ao31 t196.length co31, .slice Ao32 t199.length co32] rfl arr_ ?_; (with_reducible refine (impl_HeardUnlike.calls k _ _ t196 _ _ t199 t202 _ ?side1 ?side2 ?side3 ?side4 A12.out).mono ?_); (case side1 => repeat (first | exact (Kd.R_reads' HO198.out).2.2 | (with_reducible refine Kd.C_alloc ?_ _) | (with_reducible refine Kd.C_drewN ?_ _) | (with_reducible refine Kd.C_drew ?_))); (case side2 => exact (Kd.R_reads' HO198.out).2.1); (case side3 => repeat (first | exact (Kd.R_reads' HO201.out).2.2 | (with_reducible refine Kd.C_alloc ?_ _) | (with_reducible refine Kd.C_drewN ?_ _) | (with_reducible refine Kd.C_drew ?_))); (case side4 => exact (Kd.R_reads' HO201.out).2.1); rintro e w33 ⟨v203, rfl, ho0, hb⟩; refine ⟨_, rfl, ?_⟩; have n0_ := Aside0.mk (Kd.R_below (by (with_reducible repeat (first | apply Kd.R_alloc | apply Kd.R_drewN | apply Kd.R_drew)); exact HO189.out) hb); have n1_ := Aside0.mk (Kd.R_below (by (with_reducible repeat (first | apply Kd.R_alloc | apply Kd.R_drewN | apply Kd.R_drew)); exact HO192.out) hb); have n2_ := Aside0.mk (Kd.R_elder' (by (with_reducible repeat (first | apply Kd.R_alloc | apply Kd.R_drewN | apply Kd.R_drew)); exact HO195.out) (Kd.R_base ho0) hb); have n3_ := Aside0.mk (Kd.R_below (by (with_reducible repeat (first | apply Kd.R_alloc | apply Kd.R_drewN | apply Kd.R_drew)); exact HO198.out) hb); have n4_ := Aside0.mk (Kd.R_below (by (with_reducible repeat (first | apply Kd.R_alloc | apply Kd.R_drewN | apply Kd.R_drew)); exact HO201.out) hb); have n5_ := Aside0.mk (Kd.R_lower (Kd.R_new' ho0 (Kd.R_lt (by (with_reducible repeat (first | apply Kd.R_alloc | apply Kd.R_drewN | apply Kd.R_drew)); exact HO195.out))) (below_size (hb_ HB.out))); have n6_ := Aside0.mk (below_step (hb_ HB.out) hb); clear HO189; clear HO192; clear HO195; clear HO198; clear HO201; clear HB; have HO189 := n0_; have HO192 := n1_; have HO195 := n2_; have HO198 := n3_; have HO201 := n4_; have HO204 := n5_; have HB := n6_; clear n0_ n1_ n2_ n3_ n4_ n5_ n6_; (try clear hb); (try clear hb2); (try clear hk); (try clear hi); (try clear ho0); obtain ⟨Ao34, co34, eo34⟩ := Kd.R_slice HO204.out; subst eo34; obtain ⟨Ao35, co35, eo35⟩ := Kd.R_slice HO195.out; subst eo35) | ((with_reducible refine gate_callee (f := 13) rfl ?_); refine goesL_ (some 38) rfl rfl Try.func13 (by kernel_rfl) rfl #[.slice Ao34 t202.length co34, .slice Ao35 t193.length co35] rfl arr_ ?_; (with_reducible refine (laws_eqIntS.calls k _ _ t202 _ _ t193 true _ ?side1 ?side2 ?side3 ?side4 A13.out).mono ?_); (case side1 => repeat (first | exact (Kd.R_reads' HO204.out).2.2 | (with_reducible refine Kd.C_alloc ?_ _) | (with_reducible refine Kd.C_drewN ?_ _) | (with_reducible refine Kd.C_drew ?_))); (case side2 => exact (Kd.R_reads' HO204.out).2.1); (case side3 => repeat (first | exact (Kd.R_reads' HO195.out).2.2 | (with_reducible refine Kd.C_alloc ?_ _) | (with_reducible refine Kd.C_drewN ?_ _) | (with_reducible refine Kd.C_drew ?_))); (case side4 => exact (Kd.R_reads' HO195.out).2.1); rintro e w' ⟨rfl, ⟨nd, rfl⟩⟩; refine ⟨_, rfl, ?_⟩) | ((with_reducible refine gate_callee (f := 11) rfl ?_); refine goesL_ (some 42) rfl rfl Try.func11 (by kernel_rfl) rfl #[.slice A0 l0.length c0] rfl arr_ ?_; (with_reducible refine (laws_toHeardS.calls k _ _ l0 t206 _ ?side1 ?side2 A15.out).mono ?_); (case side1 => repeat (first | exact (Kd.C_below HR0.out (hb_ HB.out)) | (with_reducible refine Kd.C_alloc ?_ _) | (with_reducible refine Kd.C_drewN ?_ _) | (with_reducible refine Kd.C_drew ?_))); (case side2 => exact HC0.out); rintro e w36 ⟨v207, rfl, ho0, hb⟩; refine ⟨_, rfl, ?_⟩; have n0_ := Aside0.mk (Kd.R_elder' (by (with_reducible repeat (first | apply Kd.R_alloc | apply Kd.R_drewN | apply Kd.R_drew)); exact HO189.out) (Kd.R_base ho0) hb); have n1_ := Aside0.mk (Kd.R_elder' (by (with_reducible repeat (first | apply Kd.R_alloc | apply Kd.R_drewN | apply Kd.R_drew)); exact HO192.out) (Kd.R_base ho0) hb); have n2_ := Aside0.mk (Kd.R_below (by (with_reducible repeat (first | apply Kd.R_alloc | apply Kd.R_drewN | apply Kd.R_drew)); exact HO195.out) hb); have n3_ := Aside0.mk (Kd.R_elder' (by (with_reducible repeat (first | apply Kd.R_alloc | apply Kd.R_drewN | apply Kd.R_drew)); exact HO198.out) (Kd.R_base ho0) hb); have n4_ := Aside0.mk (Kd.R_elder' (by (with_reducible repeat (first | apply Kd.R_alloc | apply Kd.R_drewN | apply Kd.R_drew)); exact HO201.out) (Kd.R_base ho0) hb); have n5_ := Aside0.mk (Kd.R_below (by (with_reducible repeat (first | apply Kd.R_alloc | apply Kd.R_drewN | apply Kd.R_drew)); exact HO204.out) hb); have n6_ := Aside0.mk (Kd.R_lower (Kd.R_new' (Kd.R_new' (Kd.R_new' (Kd.R_new' ho0 (Kd.R_lt (by (with_reducible repeat (first | apply Kd.R_alloc | apply Kd.R_drewN | apply Kd.R_drew)); exact HO189.out))) (Kd.R_lt (by (with_reducible repeat (first | apply Kd.R_alloc | apply Kd.R_drewN | apply Kd.R_drew)); exact HO192.out))) (Kd.R_lt (by (with_reducible repeat (first | apply Kd.R_alloc | apply Kd.R_drewN | apply Kd.R_drew)); exact HO198.out))) (Kd.R_lt (by (with_reducible repeat (first | apply Kd.R_alloc | apply Kd.R_drewN | apply Kd.R_drew)); exact HO201.out))) (below_size (hb_ HB.out))); have n7_ := Aside0.mk (below_step (hb_ HB.out) hb); clear HO189; clear HO192; clear HO195; clear HO198; clear HO201; clear HO204; clear HB; have HO189 := n0_; have HO192 := n1_; have HO195 := n2_; have HO198 := n3_; have HO201 := n4_; have HO204 := n5_; have HO208 := n6_; have HB := n7_; clear n0_ n1_ n2_ n3_ n4_ n5_ n6_ n7_; (try clear hb); (try clear hb2); (try clear hk); (try clear hi); (try clear ho0); obtain ⟨Ao37, co37, eo37⟩ := Kd.R_slice HO208.out; subst eo37) | ((with_reducible refine gate_callee (f := 14) rfl ?_); refine goesL_ (some 43) rfl rfl Try.func14 (by kernel_rfl) rfl #[.slice Ao31 t196.length co31, .slice Ao37 t206.length co37] rfl arr_ ?_; (with_reducible refine (laws_eqHeardS.calls k _ _ t196 _ _ t206 true _ ?side1 ?side2 ?side3 ?side4 A16.out).mono ?_); (case side1 => repeat (first | exact (Kd.R_reads' HO198.out).2.2 | (with_reducible refine Kd.C_alloc ?_ _) | (with_reducible refine Kd.C_drewN ?_ _) | (with_reducible refine Kd.C_drew ?_))); (case side2 => exact (Kd.R_reads' HO198.out).2.1); (case side3 => repeat (first | exact (Kd.R_reads' HO208.out).2.2 | (with_reducible refine Kd.C_alloc ?_ _) | (with_reducible refine Kd.C_drewN ?_ _) | (with_reducible refine Kd.C_drew ?_))); (case side4 => exact (Kd.R_reads' HO208.out).2.1); rintro e w38 ⟨rfl, hb⟩; refine ⟨_, rfl, ?_⟩; have n0_ := Aside0.mk (Kd.R_below (by (with_reducible repeat (first | apply Kd.R_alloc | apply Kd.R_drewN | apply Kd.R_drew)); exact HO189.out) hb); have n1_ := Aside0.mk (Kd.R_below (by (with_reducible repeat (first | apply Kd.R_alloc | apply Kd.R_drewN | apply Kd.R_drew)); exact HO192.out) hb); have n2_ := Aside0.mk (Kd.R_below (by (with_reducible repeat (first | apply Kd.R_alloc | apply Kd.R_drewN | apply Kd.R_drew)); exact HO195.out) hb); have n3_ := Aside0.mk (Kd.R_below (by (with_reducible repeat (first | apply Kd.R_alloc | apply Kd.R_drewN | apply Kd.R_drew)); exact HO198.out) hb); have n4_ := Aside0.mk (Kd.R_below (by (with_reducible repeat (first | apply Kd.R_alloc | apply Kd.R_drewN | apply Kd.R_drew)); exact HO201.out) hb); have n5_ := Aside0.mk (Kd.R_below (by (with_reducible repeat (first | apply Kd.R_alloc | apply Kd.R_drewN | apply Kd.R_drew)); exact HO204.out) hb); have n6_ := Aside0.mk (Kd.R_below (by (with_reducible repeat (first | apply Kd.R_alloc | apply Kd.R_drewN | apply Kd.R_drew)); exact HO208.out) hb); have n7_ := Aside0.mk (below_step (hb_ HB.out) hb); clear HO189; clear HO192; clear HO195; clear HO198; clear HO201; clear HO204; clear HO208; clear HB; have HO189 := n0_; have HO192 := n1_; have HO195 := n2_; have HO198 := n3_; have HO201 := n4_; have HO204 := n5_; have HO208 := n6_; have HB := n7_; clear n0_ n1_ n2_ n3_ n4_ n5_ n6_ n7_; (try clear hb); (try clear hb2); (try clear hk); (try clear hi)) | ((with_reducible refine gate_callee (f := 11) rfl ?_); refine goesL_ (some 47) rfl rfl Try.func11 (by kernel_rfl) rfl #[.slice A1 l1.length c1] rfl arr_ ?_; (with_reducible refine (laws_toHeardS.calls k _ _ l1 t210 _ ?side1 ?side2 A18.out).mono ?_); (case side1 => exact kc_ (Kd.C_below HR1.out HB.out)); (case side2 => exact HC1.out); rintro e w39 ⟨v211, rfl, ho0, hb⟩; refine ⟨_, rfl, ?_⟩; have n0_ := Aside0.mk (Kd.R_elder' (by (with_reducible repeat (first | apply Kd.R_alloc | apply Kd.R_drewN | apply Kd.R_drew)); exact HO189.out) (Kd.R_base ho0) hb); have n1_ := Aside0.mk (Kd.R_elder' (by (with_reducible repeat (first | apply Kd.R_alloc | apply Kd.R_drewN | apply Kd.R_drew)); exact HO192.out) (Kd.R_base ho0) hb); have n2_ := Aside0.mk (Kd.R_below (by (with_reducible repeat (first | apply Kd.R_alloc | apply Kd.R_drewN | apply Kd.R_drew)); exact HO195.out) hb); have n3_ := Aside0.mk (Kd.R_elder' (by (with_reducible repeat (first | apply Kd.R_alloc | apply Kd.R_drewN | apply Kd.R_drew)); exact HO198.out) (Kd.R_base ho0) hb); have n4_ := Aside0.mk (Kd.R_elder' (by (with_reducible repeat (first | apply Kd.R_alloc | apply Kd.R_drewN | apply Kd.R_drew)); exact HO201.out) (Kd.R_base ho0) hb); have n5_ := Aside0.mk (Kd.R_below (by (with_reducible repeat (first | apply Kd.R_alloc | apply Kd.R_drewN | apply Kd.R_drew)); exact HO204.out) hb); have n6_ := Aside0.mk (Kd.R_elder' (by (with_reducible repeat (first | apply Kd.R_alloc | apply Kd.R_drewN | apply Kd.R_drew)); exact HO208.out) (Kd.R_base ho0) hb); have n7_ := Aside0.mk (Kd.R_lower (Kd.R_new' (Kd.R_new' (Kd.R_new' (Kd.R_new' (Kd.R_new' ho0 (Kd.R_lt (by (with_reducible repeat (first | apply Kd.R_alloc | apply Kd.R_drewN | apply Kd.R_drew)); exact HO189.out))) (Kd.R_lt (by (with_reducible repeat (first | apply Kd.R_alloc | apply Kd.R_drewN | apply Kd.R_drew)); exact HO192.out))) (Kd.R_lt (by (with_reducible repeat (first | apply Kd.R_alloc | apply Kd.R_drewN | apply Kd.R_drew)); exact HO198.out))) (Kd.R_lt (by (with_reducible repeat (first | apply Kd.R_alloc | apply Kd.R_drewN | apply Kd.R_drew)); exact HO201.out))) (Kd.R_lt (by (with_reducible repeat (first | apply Kd.R_alloc | apply Kd.R_drewN | apply Kd.R_drew)); exact HO208.out))) (below_size (hb_ HB.out))); have n8_ := Aside0.mk (below_step (hb_ HB.out) hb); clear HO189; clear HO192; clear HO195; clear HO198; clear HO201; clear HO204; clear HO208; clear HB; have HO189 := n0_; have HO192 := n1_; have HO195 := n2_; have HO198 := n3_; have HO201 := n4_; have HO204 := n5_; have HO208 := n6_; have HO212 := n7_; have HB := n8_; clear n0_ n1_ n2_ n3_ n4_ n5_ n6_ n7_ n8_; (try clear hb); (try clear hb2); (try clear hk); (try clear hi); (try clear ho0); obtain ⟨Ao40, co40, eo40⟩ := Kd.R_slice HO212.out; subst eo40) | ((with_reducible refine gate_callee (f := 14) rfl ?_); refine goesL_ (some 48) rfl rfl Try.func14 (by kernel_rfl) rfl #[.slice Ao32 t199.length co32, .slice Ao40 t210.length co40] rfl arr_ ?_; (with_reducible refine (laws_eqHeardS.calls k _ _ t199 _ _ t210 true _ ?side1 ?side2 ?side3 ?side4 A19.out).mono ?_); (case side1 => repeat (first | exact (Kd.R_reads' HO201.out).2.2 | (with_reducible refine Kd.C_alloc ?_ _) | (with_reducible refine Kd.C_drewN ?_ _) | (with_reducible refine Kd.C_drew ?_))); (case side2 => exact (Kd.R_reads' HO201.out).2.1); (case side3 => repeat (first | exact (Kd.R_reads' HO212.out).2.2 | (with_reducible refine Kd.C_alloc ?_ _) | (with_reducible refine Kd.C_drewN ?_ _) | (with_reducible refine Kd.C_drew ?_))); (case side4 => exact (Kd.R_reads' HO212.out).2.1); rintro e w41 ⟨rfl, hb⟩; refine ⟨_, rfl, ?_⟩; have n0_ := Aside0.mk (Kd.R_below (by (with_reducible repeat (first | apply Kd.R_alloc | apply Kd.R_drewN | apply Kd.R_drew)); exact HO189.out) hb); have n1_ := Aside0.mk (Kd.R_below (by (with_reducible repeat (first | apply Kd.R_alloc | apply Kd.R_drewN | apply Kd.R_drew)); exact HO192.out) hb); have n2_ := Aside0.mk (Kd.R_below (by (with_reducible repeat (first | apply Kd.R_alloc | apply Kd.R_drewN | apply Kd.R_drew)); exact HO195.out) hb); have n3_ := Aside0.mk (Kd.R_below (by (with_reducible repeat (first | apply Kd.R_alloc | apply Kd.R_drewN | apply Kd.R_drew)); exact HO198.out) hb); have n4_ := Aside0.mk (Kd.R_below (by (with_reducible repeat (first | apply Kd.R_alloc | apply Kd.R_drewN | apply Kd.R_drew)); exact HO201.out) hb); have n5_ := Aside0.mk (Kd.R_below (by (with_reducible repeat (first | apply Kd.R_alloc | apply Kd.R_drewN | apply Kd.R_drew)); exact HO204.out) hb); have n6_ := Aside0.mk (Kd.R_below (by (with_reducible repeat (first | apply Kd.R_alloc | apply Kd.R_drewN | apply Kd.R_drew)); exact HO208.out) hb); have n7_ := Aside0.mk (Kd.R_below (by (with_reducible repeat (first | apply Kd.R_alloc | apply Kd.R_drewN | apply Kd.R_drew)); exact HO212.out) hb); have n8_ := Aside0.mk (below_step (hb_ HB.out) hb); clear HO189; clear HO192; clear HO195; clear HO198; clear HO201; clear HO204; clear HO208; clear HO212; clear HB; have HO189 := n0_; have HO192 := n1_; have HO195 := n2_; have HO198 := n3_; have HO201 := n4_; have HO204 := n5_; have HO208 := n6_; have HO212 := n7_; have HB := n8_; clear n0_ n1_ n2_ n3_ n4_ n5_ n6_ n7_ n8_; (try clear hb); (try clear hb2); (try clear hk); (try clear hi)) | ((with_reducible refine gate_callee (f := 15) rfl ?_); refine goesL_ (some 52) rfl rfl Try.func15 (by kernel_rfl) rfl #[.slice Ao31 t196.length co31, .int .i64 1] rfl arr_ ?_; (with_reducible refine (laws_markHeardS.calls k (fun k_ => some k_ = (.slice Ao31 t196.length co31 : Value).ownBlock) (.slice Ao31 t196.length co31) t196 1 t214 t215 w _ ?side1 ?side2 A21.out).mono ?_); (case side1 => repeat (first | (with_reducible first | exact HB.out | apply below_alloc | apply pw_below_drewN | apply below_drew1) | exact HB.out)); (case side2 => exact Kd.R_tight rfl HO198.out); rintro e w42 ⟨rfl, hy0, hb, hkp⟩; refine ⟨_, rfl, ?_⟩; have n0_ := Aside0.mk (Kd.R_mono (ok' := fun k_ => some k_ ≠ (.slice Ao27 t190.length co27 : Value).ownBlock ∧ some k_ ≠ (.slice Ao31 t196.length co31 : Value).ownBlock ∧ some k_ ≠ (.slice Ao32 t199.length co32 : Value).ownBlock ∧ some k_ ≠ (.slice Ao37 t206.length co37 : Value).ownBlock ∧ some k_ ≠ (.slice Ao40 t210.length co40 : Value).ownBlock) (Kd.R_keptB (HO189.out) hkp (fun k_ hk_ hs_ => (hk_.1.1.1.2) hs_)) (fun k_ hk_ => ⟨hk_.1.1.1.1.1.2, hk_.1.1.1.1.2, hk_.1.1.1.2, hk_.1.1.2, hk_.1.2⟩)); have n1_ := Aside0.mk (Kd.R_mono (ok' := fun k_ => some k_ ≠ (.slice Ao26 t187.length co26 : Value).ownBlock ∧ some k_ ≠ (.slice Ao31 t196.length co31 : Value).ownBlock ∧ some k_ ≠ (.slice Ao32 t199.length co32 : Value).ownBlock ∧ some k_ ≠ (.slice Ao37 t206.length co37 : Value).ownBlock ∧ some k_ ≠ (.slice Ao40 t210.length co40 : Value).ownBlock) (Kd.R_keptB (HO192.out) hkp (fun k_ hk_ hs_ => (hk_.1.1.1.2) hs_)) (fun k_ hk_ => ⟨hk_.1.1.1.1.1.2, hk_.1.1.1.1.2, hk_.1.1.1.2, hk_.1.1.2, hk_.1.2⟩)); have n2_ := Aside0.mk (Kd.R_mono (ok' := fun k_ => some k_ ≠ (.slice Ao34 t202.length co34 : Value).ownBlock) (Kd.R_keptB ((Kd.R_apart' HO195.out (Kd.R_typed HO198.out) (by decide))) hkp (fun k_ hk_ hs_ => (hk_.2) hs_)) (fun k_ hk_ => hk_.1.1.2)); have n3_ := Aside0.mk (Kd.R_reok rfl hy0 (fun k_ e_ => HO198.out.1 k_ e_)); have n4_ := Aside0.mk (Kd.R_mono (ok' := fun k_ => some k_ ≠ (.slice Ao26 t187.length co26 : Value).ownBlock ∧ some k_ ≠ (.slice Ao27 t190.length co27 : Value).ownBlock ∧ some k_ ≠ (.slice Ao31 t196.length co31 : Value).ownBlock ∧ some k_ ≠ (.slice Ao37 t206.length co37 : Value).ownBlock ∧ some k_ ≠ (.slice Ao40 t210.length co40 : Value).ownBlock) (Kd.R_keptB (HO201.out) hkp (fun k_ hk_ hs_ => (hk_.1.1.2) hs_)) (fun k_ hk_ => ⟨hk_.1.1.1.1.1.2, hk_.1.1.1.1.2, hk_.1.1.1.2, hk_.1.1.2, hk_.1.2⟩)); have n5_ := Aside0.mk (Kd.R_mono (ok' := fun k_ => some k_ ≠ (.slice Ao35 t193.length co35 : Value).ownBlock) (Kd.R_keptB ((Kd.R_apart' HO204.out (Kd.R_typed HO198.out) (by decide))) hkp (fun k_ hk_ hs_ => (hk_.2) hs_)) (fun k_ hk_ => hk_.1.1.2)); have n6_ := Aside0.mk (Kd.R_mono (ok' := fun k_ => some k_ ≠ (.slice Ao26 t187.length co26 : Value).ownBlock ∧ some k_ ≠ (.slice Ao27 t190.length co27 : Value).ownBlock ∧ some k_ ≠ (.slice Ao31 t196.length co31 : Value).ownBlock ∧ some k_ ≠ (.slice Ao32 t199.length co32 : Value).ownBlock ∧ some k_ ≠ (.slice Ao40 t210.length co40 : Value).ownBlock) (Kd.R_keptB (HO208.out) hkp (fun k_ hk_ hs_ => (hk_.1.1.2) hs_)) (fun k_ hk_ => ⟨hk_.1.1.1.1.1.2, hk_.1.1.1.1.2, hk_.1.1.1.2, hk_.1.1.2, hk_.1.2⟩)); have n7_ := Aside0.mk (Kd.R_mono (ok' := fun k_ => some k_ ≠ (.slice Ao26 t187.length co26 : Value).ownBlock ∧ some k_ ≠ (.slice Ao27 t190.length co27 : Value).ownBlock ∧ some k_ ≠ (.slice Ao31 t196.length co31 : Value).ownBlock ∧ some k_ ≠ (.slice Ao32 t199.length co32 : Value).ownBlock ∧ some k_ ≠ (.slice Ao37 t206.length co37 : Value).ownBlock) (Kd.R_keptB (HO212.out) hkp (fun k_ hk_ hs_ => (hk_.1.1.2) hs_)) (fun k_ hk_ => ⟨hk_.1.1.1.1.1.2, hk_.1.1.1.1.2, hk_.1.1.1.2, hk_.1.1.2, hk_.1.2⟩)); have n8_ := Aside0.mk (hb); clear HO189; clear HO192; clear HO195; clear HO198; clear HO201; clear HO204; clear HO208; clear HO212; clear HB; have HO189 := n0_; have HO192 := n1_; have HO195 := n2_; have HO198 := n3_; have HO201 := n4_; have HO204 := n5_; have HO208 := n6_; have HO212 := n7_; have HB := n8_; clear n0_ n1_ n2_ n3_ n4_ n5_ n6_ n7_ n8_; (try clear hb); (try clear hkp); (try clear hy0)) | ((with_reducible refine gate_callee (f := 15) rfl ?_); refine goesL_ (some 55) rfl rfl Try.func15 (by kernel_rfl) rfl #[.slice Ao32 t199.length co32, .int .i64 t214] rfl arr_ ?_; (with_reducible refine (laws_markHeardS.calls k (fun k_ => some k_ = (.slice Ao32 t199.length co32 : Value).ownBlock) (.slice Ao32 t199.length co32) t199 t214 t216 t217 w _ ?side1 ?side2 A22.out).mono ?_); (case side1 => repeat (first | (with_reducible first | exact HB.out | apply below_alloc | apply pw_below_drewN | apply below_drew1) | exact HB.out)); (case side2 => exact Kd.R_tight rfl HO201.out); rintro e w43 ⟨rfl, hy0, hb, hkp⟩; refine ⟨_, rfl, ?_⟩; have n0_ := Aside0.mk (Kd.R_mono (ok' := fun k_ => some k_ ≠ (.slice Ao27 t190.length co27 : Value).ownBlock ∧ some k_ ≠ (.slice Ao31 t196.length co31 : Value).ownBlock ∧ some k_ ≠ (.slice Ao32 t199.length co32 : Value).ownBlock ∧ some k_ ≠ (.slice Ao37 t206.length co37 : Value).ownBlock ∧ some k_ ≠ (.slice Ao40 t210.length co40 : Value).ownBlock) (Kd.R_keptB (HO189.out) hkp (fun k_ hk_ hs_ => (hk_.2.2.1) hs_)) (fun k_ hk_ => ⟨hk_.1.1, hk_.1.2.1, hk_.1.2.2.1, hk_.1.2.2.2.1, hk_.1.2.2.2.2⟩)); have n1_ := Aside0.mk (Kd.R_mono (ok' := fun k_ => some k_ ≠ (.slice Ao26 t187.length co26 : Value).ownBlock ∧ some k_ ≠ (.slice Ao31 t196.length co31 : Value).ownBlock ∧ some k_ ≠ (.slice Ao32 t199.length co32 : Value).ownBlock ∧ some k_ ≠ (.slice Ao37 t206.length co37 : Value).ownBlock ∧ some k_ ≠ (.slice Ao40 t210.length co40 : Value).ownBlock) (Kd.R_keptB (HO192.out) hkp (fun k_ hk_ hs_ => (hk_.2.2.1) hs_)) (fun k_ hk_ => ⟨hk_.1.1, hk_.1.2.1, hk_.1.2.2.1, hk_.1.2.2.2.1, hk_.1.2.2.2.2⟩)); have n2_ := Aside0.mk (Kd.R_mono (ok' := fun k_ => some k_ ≠ (.slice Ao34 t202.length co34 : Value).ownBlock) (Kd.R_keptB ((Kd.R_apart' HO195.out (Kd.R_typed HO201.out) (by decide))) hkp (fun k_ hk_ hs_ => (hk_.2) hs_)) (fun k_ hk_ => hk_.1.1)); have n3_ := Aside0.mk (Kd.R_mono (ok' := fun k_ => some k_ ≠ (.slice Ao26 t187.length co26 : Value).ownBlock ∧ some k_ ≠ (.slice Ao27 t190.length co27 : Value).ownBlock ∧ some k_ ≠ (.slice Ao32 t199.length co32 : Value).ownBlock ∧ some k_ ≠ (.slice Ao37 t206.length co37 : Value).ownBlock ∧ some k_ ≠ (.slice Ao40 t210.length co40 : Value).ownBlock) (Kd.R_keptB (HO198.out) hkp (fun k_ hk_ hs_ => (hk_.1.1.2) hs_)) (fun k_ hk_ => ⟨hk_.1.1.1.1.1.2, hk_.1.1.1.1.2, hk_.1.1.1.2, hk_.1.1.2, hk_.1.2⟩)); have n4_ := Aside0.mk (Kd.R_reok rfl hy0 (fun k_ e_ => HO201.out.1 k_ e_)); have n5_ := Aside0.mk (Kd.R_mono (ok' := fun k_ => some k_ ≠ (.slice Ao35 t193.length co35 : Value).ownBlock) (Kd.R_keptB ((Kd.R_apart' HO204.out (Kd.R_typed HO201.out) (by decide))) hkp (fun k_ hk_ hs_ => (hk_.2) hs_)) (fun k_ hk_ => hk_.1.1)); have n6_ := Aside0.mk (Kd.R_mono (ok' := fun k_ => some k_ ≠ (.slice Ao26 t187.length co26 : Value).ownBlock ∧ some k_ ≠ (.slice Ao27 t190.length co27 : Value).ownBlock ∧ some k_ ≠ (.slice Ao31 t196.length co31 : Value).ownBlock ∧ some k_ ≠ (.slice Ao32 t199.length co32 : Value).ownBlock ∧ some k_ ≠ (.slice Ao40 t210.length co40 : Value).ownBlock) (Kd.R_keptB (HO208.out) hkp (fun k_ hk_ hs_ => (hk_.2.2.2.1) hs_)) (fun k_ hk_ => ⟨hk_.1.1, hk_.1.2.1, hk_.1.2.2.1, hk_.1.2.2.2.1, hk_.1.2.2.2.2⟩)); have n7_ := Aside0.mk (Kd.R_mono (ok' := fun k_ => some k_ ≠ (.slice Ao26 t187.length co26 : Value).ownBlock ∧ some k_ ≠ (.slice Ao27 t190.length co27 : Value).ownBlock ∧ some k_ ≠ (.slice Ao31 t196.length co31 : Value).ownBlock ∧ some k_ ≠ (.slice Ao32 t199.length co32 : Value).ownBlock ∧ some k_ ≠ (.slice Ao37 t206.length co37 : Value).ownBlock) (Kd.R_keptB (HO212.out) hkp (fun k_ hk_ hs_ => (hk_.2.2.2.1) hs_)) (fun k_ hk_ => ⟨hk_.1.1, hk_.1.2.1, hk_.1.2.2.1, hk_.1.2.2.2.1, hk_.1.2.2.2.2⟩)); have n8_ := Aside0.mk (hb); clear HO189; clear HO192; clear HO195; clear HO198; clear HO201; clear HO204; clear HO208; clear HO212; clear HB; have HO189 := n0_; have HO192 := n1_; have HO195 := n2_; have HO198 := n3_; have HO201 := n4_; have HO204 := n5_; have HO208 := n6_; have HO212 := n7_; have HB := n8_; clear n0_ n1_ n2_ n3_ n4_ n5_ n6_ n7_ n8_; (try clear hb); (try clear hkp); (try clear hy0)))
            (try simp only [Act.put, List.setIfInBounds_toArray, List.set_cons_zero, List.set_cons_succ])
            go_cut [63] (fun v63 wc => ∃ (kq : Nat) (x63_22 : Bool), v63 = .bool x63_22 ∧ Aside0 (laws_FnExactHeardUnlike.j0 kq l0 l1 t193 t202 x63_22 = some r) ∧ Aside0 (kq ≤ k) ∧ Aside0 (Kd.R (Kd.int .i64) 3 wc w.heap.size (fun k_ => some k_ ≠ ((.slice Ao34 t202.length co34) : Value).ownBlock) (.slice Ao35 t193.length co35) t193) ∧ Aside0 (Kd.R (Kd.int .i64) 3 wc w.heap.size (fun k_ => some k_ ≠ ((.slice Ao35 t193.length co35) : Value).ownBlock) (.slice Ao34 t202.length co34) t202) ∧ Aside0 (Below w.heap.size w wc))
            case first =>
              have H := HC23.out
              clear HC23
              by_cases c44 : t216 < 0
              · rw [if_pos c44] at H
                have c44b0 : decide (t216 < 0) = true := decide_eq_true c44
                clear c44
                (first | rw [c44b0] | (simp only [i64_w, i32_w]; rw [c44b0]) | skip)
                have H' := Aside0.mk H
                clear H
                go_wp2
                go_meet
                case rel => exact ⟨_, (true), (by first | rfl | (simp; done) | (simp [*]; done)), H', ⟨by first | omega | exact Nat.le_refl _⟩, ⟨by (with_reducible repeat (first | apply Kd.R_alloc | apply Kd.R_drewN | apply Kd.R_drew)); exact HO195.out⟩, ⟨by (with_reducible repeat (first | apply Kd.R_alloc | apply Kd.R_drewN | apply Kd.R_drew)); exact HO204.out⟩, ⟨hb_ HB.out⟩⟩
              · rw [if_neg c44] at H
                have c44b0 : decide (t216 < 0) = false := decide_eq_false c44
                clear c44
                (first | rw [c44b0] | (simp only [i64_w, i32_w]; rw [c44b0]) | skip)
                replace H := Option.bind_eq_some_iff.mp H
                obtain ⟨t218, A450, H⟩ := H
                replace H : (laws_FnExactHeardUnlike.j0 k l0 l1 t193 t202 (!t218)) = some r := H
                have A45 := Aside0.mk A450
                clear A450
                have H' := Aside0.mk H
                clear H
                go_wp2_with (first | (go_at_call 13; (with_reducible refine (laws_eqIntS.calls k _ _ t202 _ _ t193 t218 _ ?side1 ?side2 ?side3 ?side4 A45.out).mono ?_); (case side1 => repeat (first | exact (Kd.R_reads' HO204.out).2.2 | (with_reducible refine Kd.C_alloc ?_ _) | (with_reducible refine Kd.C_drewN ?_ _) | (with_reducible refine Kd.C_drew ?_))); (case side2 => exact (Kd.R_reads' HO204.out).2.1); (case side3 => repeat (first | exact (Kd.R_reads' HO195.out).2.2 | (with_reducible refine Kd.C_alloc ?_ _) | (with_reducible refine Kd.C_drewN ?_ _) | (with_reducible refine Kd.C_drew ?_))); (case side4 => exact (Kd.R_reads' HO195.out).2.1); rintro e w' ⟨rfl, ⟨nd, rfl⟩⟩))
                go_meet
                case rel => exact ⟨_, (!t218), (by first | rfl | (simp; done) | (simp [*]; done)), H', ⟨by first | omega | exact Nat.le_refl _⟩, ⟨by (with_reducible repeat (first | apply Kd.R_alloc | apply Kd.R_drewN | apply Kd.R_drew)); exact HO195.out⟩, ⟨by (with_reducible repeat (first | apply Kd.R_alloc | apply Kd.R_drewN | apply Kd.R_drew)); exact HO204.out⟩, ⟨hb_ HB.out⟩⟩
            case rest =>
              clear HC23
              try clear c1
              try clear c2
              try clear p2
              try clear c3
              try clear c4
              try clear c4b0
              try clear c6
              try clear c6b0
              try clear c9
              try clear c10
              try clear c11
              try clear c12
              try clear c13
              try clear c14
              try clear c15
              try clear c17
              try clear c20
              try clear c44
              try clear c44b0
              obtain ⟨kq, x63_22, rfl, HA, HJ22, HO_6, HO_9, HB⟩ := hcut
              cases kq with
              | zero => exact absurd HA.out (by simp [laws_FnExactHeardUnlike.j0])
              | succ kj22 =>
                have H := HA.out
                clear HA
                simp only [laws_FnExactHeardUnlike.j0] at H
                by_cases c46 : x63_22 = true
                · subst c46
                  have H1 : (some false) = some r := by rw [if_pos rfl] at H; exact H
                  clear H
                  have H := H1
                  clear H1
                  obtain rfl := Option.some.inj H
                  exact absurd hr_ (by decide)
                · replace c46 := Bool.eq_false_iff.mpr c46
                  subst c46
                  have H1 : ((laws_markIntS.f kj22 t202 1).bind fun bt219 => ((laws_heldIntS.f kj22 bt219.2 1).bind fun t221 => (if t221 < 0 then (some false) else (if t221 = bt219.1 then ((laws_toHeardS.f kj22 l0).bind fun t222 => ((laws_toHeardS.f kj22 l1).bind fun t225 => ((impl_HeardUnlike.f kj22 t222 t225).bind fun t228 => ((laws_eqIntS.f kj22 t228 t193).bind fun t231 => (if t231 = true then ((laws_heldIntS.f kj22 bt219.2 1).bind fun t232 => (if t232 < 0 then (some false) else (if t232 = bt219.1 then (some true) else (some false)))) else (some false)))))) else (some false))))) = some r := by rw [if_neg (show ¬ (false = true) by decide)] at H; exact H
                  clear H
                  have H := H1
                  clear H1
                  replace H := Option.bind_eq_some_iff.mp H
                  obtain ⟨⟨t219, t220⟩, A470, H⟩ := H
                  replace H : ((laws_heldIntS.f kj22 t220 1).bind fun t221 => (if t221 < 0 then (some false) else (if t221 = t219 then ((laws_toHeardS.f kj22 l0).bind fun t222 => ((laws_toHeardS.f kj22 l1).bind fun t225 => ((impl_HeardUnlike.f kj22 t222 t225).bind fun t228 => ((laws_eqIntS.f kj22 t228 t193).bind fun t231 => (if t231 = true then ((laws_heldIntS.f kj22 t220 1).bind fun t232 => (if t232 < 0 then (some false) else (if t232 = t219 then (some true) else (some false)))) else (some false)))))) else (some false)))) = some r := H
                  have A47 := Aside0.mk A470
                  clear A470
                  replace H := Option.bind_eq_some_iff.mp H
                  obtain ⟨t221, A480, H⟩ := H
                  replace H : (if t221 < 0 then (some false) else (if t221 = t219 then ((laws_toHeardS.f kj22 l0).bind fun t222 => ((laws_toHeardS.f kj22 l1).bind fun t225 => ((impl_HeardUnlike.f kj22 t222 t225).bind fun t228 => ((laws_eqIntS.f kj22 t228 t193).bind fun t231 => (if t231 = true then ((laws_heldIntS.f kj22 t220 1).bind fun t232 => (if t232 < 0 then (some false) else (if t232 = t219 then (some true) else (some false)))) else (some false)))))) else (some false))) = some r := H
                  have A48 := Aside0.mk A480
                  clear A480
                  by_cases c49 : t221 < 0
                  · rw [if_pos c49] at H
                    have c49b0 : decide (t221 < 0) = true := decide_eq_true c49
                    clear c49
                    obtain rfl := Option.some.inj H
                    exact absurd hr_ (by decide)
                  · rw [if_neg c49] at H
                    have c49b0 : decide (t221 < 0) = false := decide_eq_false c49
                    clear c49
                    by_cases c50 : t221 = t219
                    · rw [if_pos c50] at H
                      have c50b0 : (t221 == t219) = true := beq_iff_eq.mpr c50
                      have c50b1 : (t221 != t219) = false := bne_eq_false_iff_eq.mpr c50
                      clear c50
                      replace H := Option.bind_eq_some_iff.mp H
                      obtain ⟨t222, A510, H⟩ := H
                      replace H : ((laws_toHeardS.f kj22 l1).bind fun t225 => ((impl_HeardUnlike.f kj22 t222 t225).bind fun t228 => ((laws_eqIntS.f kj22 t228 t193).bind fun t231 => (if t231 = true then ((laws_heldIntS.f kj22 t220 1).bind fun t232 => (if t232 < 0 then (some false) else (if t232 = t219 then (some true) else (some false)))) else (some false))))) = some r := H
                      have A51 := Aside0.mk A510
                      clear A510
                      replace H := Option.bind_eq_some_iff.mp H
                      obtain ⟨t225, A520, H⟩ := H
                      replace H : ((impl_HeardUnlike.f kj22 t222 t225).bind fun t228 => ((laws_eqIntS.f kj22 t228 t193).bind fun t231 => (if t231 = true then ((laws_heldIntS.f kj22 t220 1).bind fun t232 => (if t232 < 0 then (some false) else (if t232 = t219 then (some true) else (some false)))) else (some false)))) = some r := H
                      have A52 := Aside0.mk A520
                      clear A520
                      replace H := Option.bind_eq_some_iff.mp H
                      obtain ⟨t228, A530, H⟩ := H
                      replace H : ((laws_eqIntS.f kj22 t228 t193).bind fun t231 => (if t231 = true then ((laws_heldIntS.f kj22 t220 1).bind fun t232 => (if t232 < 0 then (some false) else (if t232 = t219 then (some true) else (some false)))) else (some false))) = some r := H
                      have A53 := Aside0.mk A530
                      clear A530
                      replace H := Option.bind_eq_some_iff.mp H
                      obtain ⟨t231, A540, H⟩ := H
                      replace H : (if t231 = true then ((laws_heldIntS.f kj22 t220 1).bind fun t232 => (if t232 < 0 then (some false) else (if t232 = t219 then (some true) else (some false)))) else (some false)) = some r := H
                      have A54 := Aside0.mk A540
                      clear A540
                      by_cases c55 : t231 = true
                      · subst c55
                        have H1 : ((laws_heldIntS.f kj22 t220 1).bind fun t232 => (if t232 < 0 then (some false) else (if t232 = t219 then (some true) else (some false)))) = some r := by rw [if_pos rfl] at H; exact H
                        clear H
                        have H := H1
                        clear H1
                        replace H := Option.bind_eq_some_iff.mp H
                        obtain ⟨t232, A560, H⟩ := H
                        replace H : (if t232 < 0 then (some false) else (if t232 = t219 then (some true) else (some false))) = some r := H
                        have A56 := Aside0.mk A560
                        clear A560
                        by_cases c57 : t232 < 0
                        · rw [if_pos c57] at H
                          have c57b0 : decide (t232 < 0) = true := decide_eq_true c57
                          clear c57
                          obtain rfl := Option.some.inj H
                          exact absurd hr_ (by decide)
                        · rw [if_neg c57] at H
                          have c57b0 : decide (t232 < 0) = false := decide_eq_false c57
                          clear c57
                          by_cases c58 : t232 = t219
                          · rw [if_pos c58] at H
                            have c58b0 : (t232 == t219) = true := beq_iff_eq.mpr c58
                            have c58b1 : (t232 != t219) = false := bne_eq_false_iff_eq.mpr c58
                            clear c58
                            obtain rfl := Option.some.inj H
                            go_wp2_with (first | ((with_reducible refine gate_callee (f := 16) rfl ?_); refine goesL_ (some 66) rfl rfl Try.func16 (by kernel_rfl) rfl #[.slice Ao34 t202.length co34, .int .i64 1] rfl arr_ ?_; (with_reducible refine (laws_markIntS.calls kj22 (fun k_ => some k_ = (.slice Ao34 t202.length co34 : Value).ownBlock) (.slice Ao34 t202.length co34) t202 1 t219 t220 w _ ?side1 ?side2 A47.out).mono ?_); (case side1 => repeat (first | (with_reducible first | exact HB.out | apply below_alloc | apply pw_below_drewN | apply below_drew1) | exact HB.out)); (case side2 => exact Kd.R_tight rfl HO_9.out); rintro e w59 ⟨rfl, hy0, hb, hkp⟩; refine ⟨_, rfl, ?_⟩; have n0_ := Aside0.mk (Kd.R_mono (ok' := fun k_ => some k_ ≠ (.slice Ao34 t202.length co34 : Value).ownBlock) (Kd.R_keptB (HO_6.out) hkp (fun k_ hk_ hs_ => (hk_) hs_)) (fun k_ hk_ => hk_.1)); have n1_ := Aside0.mk (Kd.R_reok rfl hy0 (fun k_ e_ => HO_9.out.1 k_ e_)); have n2_ := Aside0.mk (hb); clear HO_6; clear HO_9; clear HB; have HO_6 := n0_; have HO_9 := n1_; have HB := n2_; clear n0_ n1_ n2_; (try clear hb); (try clear hkp); (try clear hy0)) | ((with_reducible refine gate_callee (f := 17) rfl ?_); refine goesL_ (some 69) rfl rfl Try.func17 (by kernel_rfl) rfl #[.slice Ao34 t220.length co34, .int .i64 1] rfl (by (try simp only [List.map_toArray, List.map_cons, List.map_nil]); first | done | (rw [show t220.length = t202.length from (Kd.R_reads' HO_9.out).1.symm] <;> rfl) | rfl | (simp only [List.length_drop, List.length_take]; rfl)) ?_; (with_reducible refine (laws_heldIntS.calls kj22 _ _ t220 1 t221 _ ?side1 ?side2 A48.out).mono ?_); (case side1 => repeat (first | exact (Kd.R_reads' HO_9.out).2.2 | (with_reducible refine Kd.C_alloc ?_ _) | (with_reducible refine Kd.C_drewN ?_ _) | (with_reducible refine Kd.C_drew ?_))); (case side2 => rw [show t220.length = t202.length from (Kd.R_reads' HO_9.out).1.symm]; exact (Kd.R_reads' HO_9.out).2.1); rintro e w' ⟨rfl, ⟨nd, rfl⟩⟩; refine ⟨_, rfl, ?_⟩) | ((with_reducible refine gate_callee (f := 11) rfl ?_); refine goesL_ (some 76) rfl rfl Try.func11 (by kernel_rfl) rfl #[.slice A0 l0.length c0] rfl arr_ ?_; (with_reducible refine (laws_toHeardS.calls kj22 _ _ l0 t222 _ ?side1 ?side2 A51.out).mono ?_); (case side1 => repeat (first | exact (Kd.C_below HR0.out (hb_ HB.out)) | (with_reducible refine Kd.C_alloc ?_ _) | (with_reducible refine Kd.C_drewN ?_ _) | (with_reducible refine Kd.C_drew ?_))); (case side2 => exact HC0.out); rintro e w60 ⟨v223, rfl, ho0, hb⟩; refine ⟨_, rfl, ?_⟩; have n0_ := Aside0.mk (Kd.R_below (by (with_reducible repeat (first | apply Kd.R_alloc | apply Kd.R_drewN | apply Kd.R_drew)); exact HO_6.out) hb); have n1_ := Aside0.mk (Kd.R_below (by (with_reducible repeat (first | apply Kd.R_alloc | apply Kd.R_drewN | apply Kd.R_drew)); exact HO_9.out) hb); have n2_ := Aside0.mk (Kd.R_lower ho0 (below_size (hb_ HB.out))); have n3_ := Aside0.mk (below_step (hb_ HB.out) hb); clear HO_6; clear HO_9; clear HB; have HO_6 := n0_; have HO_9 := n1_; have HO224 := n2_; have HB := n3_; clear n0_ n1_ n2_ n3_; (try clear hb); (try clear hb2); (try clear hk); (try clear hi); (try clear ho0)) | ((with_reducible refine gate_callee (f := 11) rfl ?_); refine goesL_ (some 78) rfl rfl Try.func11 (by kernel_rfl) rfl #[.slice A1 l1.length c1] rfl arr_ ?_; (with_reducible refine (laws_toHeardS.calls kj22 _ _ l1 t225 _ ?side1 ?side2 A52.out).mono ?_); (case side1 => exact kc_ (Kd.C_below HR1.out HB.out)); (case side2 => exact HC1.out); rintro e w61 ⟨v226, rfl, ho0, hb⟩; refine ⟨_, rfl, ?_⟩; have n0_ := Aside0.mk (Kd.R_below (by (with_reducible repeat (first | apply Kd.R_alloc | apply Kd.R_drewN | apply Kd.R_drew)); exact HO_6.out) hb); have n1_ := Aside0.mk (Kd.R_below (by (with_reducible repeat (first | apply Kd.R_alloc | apply Kd.R_drewN | apply Kd.R_drew)); exact HO_9.out) hb); have n2_ := Aside0.mk (Kd.R_elder' (by (with_reducible repeat (first | apply Kd.R_alloc | apply Kd.R_drewN | apply Kd.R_drew)); exact HO224.out) (Kd.R_base ho0) hb); have n3_ := Aside0.mk (Kd.R_lower (Kd.R_new' ho0 (Kd.R_lt (by (with_reducible repeat (first | apply Kd.R_alloc | apply Kd.R_drewN | apply Kd.R_drew)); exact HO224.out))) (below_size (hb_ HB.out))); have n4_ := Aside0.mk (below_step (hb_ HB.out) hb); clear HO_6; clear HO_9; clear HO224; clear HB; have HO_6 := n0_; have HO_9 := n1_; have HO224 := n2_; have HO227 := n3_; have HB := n4_; clear n0_ n1_ n2_ n3_ n4_; (try clear hb); (try clear hb2); (try clear hk); (try clear hi); (try clear ho0); obtain ⟨Ao62, co62, eo62⟩ := Kd.R_slice HO224.out; subst eo62; obtain ⟨Ao63, co63, eo63⟩ := Kd.R_slice HO227.out; subst eo63) | ((with_reducible refine gate_callee (f := 12) rfl ?_); refine goesL_ (some 79) rfl rfl Try.func12 (by kernel_rfl) rfl #[.slice Ao62 t222.length co62, .slice Ao63 t225.length co63] rfl arr_ ?_; (with_reducible refine (impl_HeardUnlike.calls kj22 _ _ t222 _ _ t225 t228 _ ?side1 ?side2 ?side3 ?side4 A53.out).mono ?_); (case side1 => repeat (first | exact (Kd.R_reads' HO224.out).2.2 | (with_reducible refine Kd.C_alloc ?_ _) | (with_reducible refine Kd.C_drewN ?_ _) | (with_reducible refine Kd.C_drew ?_))); (case side2 => exact (Kd.R_reads' HO224.out).2.1); (case side3 => repeat (first | exact (Kd.R_reads' HO227.out).2.2 | (with_reducible refine Kd.C_alloc ?_ _) | (with_reducible refine Kd.C_drewN ?_ _) | (with_reducible refine Kd.C_drew ?_))); (case side4 => exact (Kd.R_reads' HO227.out).2.1); rintro e w64 ⟨v229, rfl, ho0, hb⟩; refine ⟨_, rfl, ?_⟩; have n0_ := Aside0.mk (Kd.R_elder' (by (with_reducible repeat (first | apply Kd.R_alloc | apply Kd.R_drewN | apply Kd.R_drew)); exact HO_6.out) (Kd.R_base ho0) hb); have n1_ := Aside0.mk (Kd.R_elder' (by (with_reducible repeat (first | apply Kd.R_alloc | apply Kd.R_drewN | apply Kd.R_drew)); exact HO_9.out) (Kd.R_base ho0) hb); have n2_ := Aside0.mk (Kd.R_below (by (with_reducible repeat (first | apply Kd.R_alloc | apply Kd.R_drewN | apply Kd.R_drew)); exact HO224.out) hb); have n3_ := Aside0.mk (Kd.R_below (by (with_reducible repeat (first | apply Kd.R_alloc | apply Kd.R_drewN | apply Kd.R_drew)); exact HO227.out) hb); have n4_ := Aside0.mk (Kd.R_lower (Kd.R_new' (Kd.R_new' ho0 (Kd.R_lt (by (with_reducible repeat (first | apply Kd.R_alloc | apply Kd.R_drewN | apply Kd.R_drew)); exact HO_6.out))) (Kd.R_lt (by (with_reducible repeat (first | apply Kd.R_alloc | apply Kd.R_drewN | apply Kd.R_drew)); exact HO_9.out))) (below_size (hb_ HB.out))); have n5_ := Aside0.mk (below_step (hb_ HB.out) hb); clear HO_6; clear HO_9; clear HO224; clear HO227; clear HB; have HO_6 := n0_; have HO_9 := n1_; have HO224 := n2_; have HO227 := n3_; have HO230 := n4_; have HB := n5_; clear n0_ n1_ n2_ n3_ n4_ n5_; (try clear hb); (try clear hb2); (try clear hk); (try clear hi); (try clear ho0); obtain ⟨Ao65, co65, eo65⟩ := Kd.R_slice HO230.out; subst eo65) | ((with_reducible refine gate_callee (f := 13) rfl ?_); refine goesL_ (some 82) rfl rfl Try.func13 (by kernel_rfl) rfl #[.slice Ao65 t228.length co65, .slice Ao35 t193.length co35] rfl arr_ ?_; (with_reducible refine (laws_eqIntS.calls kj22 _ _ t228 _ _ t193 true _ ?side1 ?side2 ?side3 ?side4 A54.out).mono ?_); (case side1 => repeat (first | exact (Kd.R_reads' HO230.out).2.2 | (with_reducible refine Kd.C_alloc ?_ _) | (with_reducible refine Kd.C_drewN ?_ _) | (with_reducible refine Kd.C_drew ?_))); (case side2 => exact (Kd.R_reads' HO230.out).2.1); (case side3 => repeat (first | exact (Kd.R_reads' HO_6.out).2.2 | (with_reducible refine Kd.C_alloc ?_ _) | (with_reducible refine Kd.C_drewN ?_ _) | (with_reducible refine Kd.C_drew ?_))); (case side4 => exact (Kd.R_reads' HO_6.out).2.1); rintro e w' ⟨rfl, ⟨nd, rfl⟩⟩; refine ⟨_, rfl, ?_⟩) | ((with_reducible refine gate_callee (f := 17) rfl ?_); refine goesL_ (some 86) rfl rfl Try.func17 (by kernel_rfl) rfl #[.slice Ao34 t220.length co34, .int .i64 1] rfl (by (try simp only [List.map_toArray, List.map_cons, List.map_nil]); first | done | (rw [show t220.length = t202.length from (Kd.R_reads' HO_9.out).1.symm] <;> rfl) | rfl | (simp only [List.length_drop, List.length_take]; rfl)) ?_; (with_reducible refine (laws_heldIntS.calls kj22 _ _ t220 1 t232 _ ?side1 ?side2 A56.out).mono ?_); (case side1 => repeat (first | exact (Kd.R_reads' HO_9.out).2.2 | (with_reducible refine Kd.C_alloc ?_ _) | (with_reducible refine Kd.C_drewN ?_ _) | (with_reducible refine Kd.C_drew ?_))); (case side2 => rw [show t220.length = t202.length from (Kd.R_reads' HO_9.out).1.symm]; exact (Kd.R_reads' HO_9.out).2.1); rintro e w' ⟨rfl, ⟨nd, rfl⟩⟩; refine ⟨_, rfl, ?_⟩))
                            go_ret
                            exact ⟨er_, hb_ HB.out⟩
                          · rw [if_neg c58] at H
                            have c58b0 : (t232 == t219) = false := beq_eq_false_iff_ne.mpr c58
                            have c58b1 : (t232 != t219) = true := bne_iff_ne.mpr c58
                            obtain rfl := Option.some.inj H
                            exact absurd hr_ (by decide)
                      · replace c55 := Bool.eq_false_iff.mpr c55
                        subst c55
                        have H1 : (some false) = some r := by rw [if_neg (show ¬ (false = true) by decide)] at H; exact H
                        clear H
                        have H := H1
                        clear H1
                        obtain rfl := Option.some.inj H
                        exact absurd hr_ (by decide)
                    · rw [if_neg c50] at H
                      have c50b0 : (t221 == t219) = false := beq_eq_false_iff_ne.mpr c50
                      have c50b1 : (t221 != t219) = true := bne_iff_ne.mpr c50
                      obtain rfl := Option.some.inj H
                      exact absurd hr_ (by decide)
          · replace c20 := Bool.eq_false_iff.mpr c20
            subst c20
            have H1 : (some false) = some r := by rw [if_neg (show ¬ (false = true) by decide)] at H; exact H
            clear H
            have H := H1
            clear H1
            obtain rfl := Option.some.inj H
            exact absurd hr_ (by decide)
        · replace c17 := Bool.eq_false_iff.mpr c17
          subst c17
          have H1 : (some false) = some r := by rw [if_neg (show ¬ (false = true) by decide)] at H; exact H
          clear H
          have H := H1
          clear H1
          obtain rfl := Option.some.inj H
          exact absurd hr_ (by decide)
      · replace c14 := Bool.eq_false_iff.mpr c14
        subst c14
        have H1 : (some false) = some r := by rw [if_neg (show ¬ (false = true) by decide)] at H; exact H
        clear H
        have H := H1
        clear H1
        obtain rfl := Option.some.inj H
        exact absurd hr_ (by decide)
end Go.Proofs.Ytknckcakcknbbaa.P
namespace Go.Proofs.Ytknckcakcknbbaa.V
open Go.RowKit Go.Proofs.Ytknckcakcknbbaa.P Go.Proofs.Ytknckcakcknbbaa.C Go.Proofs.Ytknckcakcknbbaa.G
theorem FnExactHeardUnlike : ∀ (l0 : List (S75)) (l1 : List (S75)), (l0.length ≤ 9223372036854775807 ∧ ∀ y ∈ l0, ((Lit.int .i64 y.f0).wf = true ∧ (Lit.int .i64 y.f1).wf = true)) → (l1.length ≤ 9223372036854775807 ∧ ∀ y ∈ l1, ((Lit.int .i64 y.f0).wf = true ∧ (Lit.int .i64 y.f1).wf = true)) → ∃ k, laws_FnExactHeardUnlike.f k l0 l1 = some true := by
  intro l m ⟨hl, _⟩ ⟨hl2, _⟩
  refine ⟨2200000, ?_⟩
  unfold laws_FnExactHeardUnlike.f
  rcases szHeardS l hl 1048576 (by omega) with h | ⟨h, hs⟩
  · rw [h]; simp
  rw [h, Option.bind_some, if_neg (by omega)]
  rcases szHeardS m hl2 (1048576 - l.length) (by omega) with h2 | ⟨h2, hs2⟩
  · rw [h2]; simp
  rw [h2, Option.bind_some, if_neg (by omega)]
  have e1 : (l.map toH).length = l.length := by simp
  have e2 : (m.map toH).length = m.length := by simp
  have hu := unlike_len (l.map toH) (m.map toH)
  have hj : ∀ k, 2100000 ≤ k → laws_FnExactHeardUnlike.j0 k l m (unlike (l.map toH) (m.map toH)) (unlike (l.map toH) (m.map toH)) false = some true := by
    intro k hk
    obtain ⟨k, rfl⟩ : ∃ j, k = j + 1 := ⟨k - 1, by omega⟩
    simp only [laws_FnExactHeardUnlike.j0]
    rw [if_neg (by decide), markIntS _ (by omega) 1 (by omega) k (by omega)]
    simp only [Option.bind_some]
    rw [heldIntS _ (by omega) 1 (by omega) k (by omega)]
    simp only [Option.bind_some]
    rw [if_neg (by omega), if_pos trivial, toHeardS l (by omega) k (by omega), toHeardS m (by omega) k (by omega)]
    simp only [Option.bind_some]
    rw [iUnlike _ _ (by omega) (by omega) k (by omega)]
    simp only [Option.bind_some]
    rw [eqIntS _ (by omega) k (by omega)]
    simp only [Option.bind_some]
    rw [if_pos (by trivial), if_neg (by omega), if_pos (by trivial)]
  rw [toHeardS l (by omega) _ (by omega), toHeardS m (by omega) _ (by omega)]
  simp only [Option.bind_some]
  rw [sUnlike _ _ (by omega) (by omega) _ (by omega), iUnlike _ _ (by omega) (by omega) _ (by omega)]
  simp only [Option.bind_some]
  rw [eqIntS _ (by omega) _ (by omega), eqHeardS _ (by omega) _ (by omega), eqHeardS _ (by omega) _ (by omega)]
  simp only [Option.bind_some, if_true]
  rw [markHeardS _ (by omega) 1 (by omega) _ (by omega)]
  simp only [Option.bind_some]
  rw [markHeardS _ (by omega) _ (by omega) _ (by omega)]
  simp only [Option.bind_some, Bool.not_true]
  rw [if_neg (by omega)]
  exact hj _ (by omega)
end Go.Proofs.Ytknckcakcknbbaa.V
