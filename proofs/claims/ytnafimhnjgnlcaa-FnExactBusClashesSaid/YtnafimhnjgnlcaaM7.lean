/- Texts of the seat's proofs, part 7: functions of the program told as plain functions, with their contracts, and what is shown of them. No condition. -/
import Derived.Test.YtnafimhnjgnlcaaU
import Derived.Test.YtnafimhnjgnlcaaM1
import Derived.Test.YtnafimhnjgnlcaaM2
import Derived.Test.YtnafimhnjgnlcaaM4
import Derived.Test.YtnafimhnjgnlcaaM5
import Derived.Test.YtnafimhnjgnlcaaM6
set_option linter.unusedVariables false
set_option linter.unusedSimpArgs false
namespace Go.Proofs.Ytnafimhnjgnlcaa.P
open Go.RowKit Go.Proofs.YtnafimhnjgnlcaaW.PrintWords Go.Proofs.YtnafimhnjgnlcaaW.PrintLast Go.Proofs.YtnafimhnjgnlcaaW.PrintMore
attribute [local go_sem] max2_int min2_int max_two min_two max_three min_three max_four min_four
set_option linter.unusedVariables false
set_option linter.unusedSimpArgs false
def laws_FnExactBusClashes.j0 : Nat → List (S36) → List (S57) → List (S57) → Bool → Option (Bool)
  | 0, _, _, _, _ => none
  | k + 1, x0, x4, x6, x42 => if x42 = true then (some false) else ((laws_markClashS.f k x6 1).bind fun bt362 => ((laws_heldClashS.f k bt362.2 1).bind fun t364 => (if t364 < 0 then (some false) else (if t364 = bt362.1 then ((laws_toFrameS.f k x0).bind fun t365 => ((impl_BusClashes.f k t365).bind fun t368 => ((laws_eqClashS.f k t368 x4).bind fun t371 => (if t371 = true then ((laws_heldClashS.f k bt362.2 1).bind fun t372 => (if t372 < 0 then (some false) else (if t372 = bt362.1 then (some true) else (some false)))) else (some false))))) else (some false)))))
def laws_FnExactBusClashes.f (k : Nat) (l0 : List (S36)) : Option (Bool) := (laws_szFrameS.f k l0 1048576).bind fun t341 => (if t341 < 0 then (some true) else ((laws_toFrameS.f k l0).bind fun t342 => ((spec_BusClashes.f k t342).bind fun t345 => ((laws_toFrameS.f k l0).bind fun t348 => ((impl_BusClashes.f k t348).bind fun t351 => ((laws_eqClashS.f k t351 t345).bind fun t354 => (if t354 = true then ((laws_toFrameS.f k l0).bind fun t355 => ((laws_eqFrameS.f k t348 t355).bind fun t358 => (if t358 = true then ((laws_markFrameS.f k t348 1).bind fun bt359 => (if bt359.1 < 0 then (laws_FnExactBusClashes.j0 k l0 t345 t351 true) else ((laws_eqClashS.f k t351 t345).bind fun t361 => (laws_FnExactBusClashes.j0 k l0 t345 t351 (!t361))))) else (some false)))) else (some false))))))))
theorem laws_FnExactBusClashes.mono_l : ∀ k, (∀ y0 y1 y2 y3, LeO (laws_FnExactBusClashes.j0 k y0 y1 y2 y3) (laws_FnExactBusClashes.j0 (k + 1) y0 y1 y2 y3))
  | 0 => fun _ _ _ _ r h => by simp [laws_FnExactBusClashes.j0] at h
  | k + 1 => by
    have ih0 := laws_FnExactBusClashes.mono_l k
    · intro y0 y1 y2 y3
      unfold laws_FnExactBusClashes.j0
      repeat' first
      | (with_reducible exact ih0 _ _ _ _)
      | (with_reducible exact impl_BusClashes.mono _ _)
      | (with_reducible exact laws_eqClashS.mono _ _ _)
      | (with_reducible exact laws_eqFrameS.mono _ _ _)
      | (with_reducible exact laws_heldClashS.mono _ _ _)
      | (with_reducible exact laws_markClashS.mono _ _ _)
      | (with_reducible exact laws_markFrameS.mono _ _ _)
      | (with_reducible exact laws_szFrameS.mono _ _ _)
      | (with_reducible exact laws_toFrameS.mono _ _)
      | (with_reducible exact spec_BusClashes.mono _ _)
      | (with_reducible exact LeO.refl _)
      | (with_reducible exact LeO.none _)
      | (with_reducible refine LeO.ite ?_ ?_)
      | (with_reducible refine LeO.bind ?_ (fun _ => ?_))
      | exact ih0 _ _ _ _
      | exact impl_BusClashes.mono _ _
      | exact laws_eqClashS.mono _ _ _
      | exact laws_eqFrameS.mono _ _ _
      | exact laws_heldClashS.mono _ _ _
      | exact laws_markClashS.mono _ _ _
      | exact laws_markFrameS.mono _ _ _
      | exact laws_szFrameS.mono _ _ _
      | exact laws_toFrameS.mono _ _
      | exact spec_BusClashes.mono _ _
      | exact LeO.none _
      | refine LeO.ite ?_ ?_
      | refine LeO.bind ?_ (fun _ => ?_)
theorem laws_FnExactBusClashes.mono : ∀ a0 k, LeO (laws_FnExactBusClashes.f k a0) (laws_FnExactBusClashes.f (k + 1) a0) := by
  intro a0 k
  have ih0 := laws_FnExactBusClashes.mono_l k
  unfold laws_FnExactBusClashes.f
  repeat' first
      | (with_reducible exact ih0 _ _ _ _)
      | (with_reducible exact impl_BusClashes.mono _ _)
      | (with_reducible exact laws_eqClashS.mono _ _ _)
      | (with_reducible exact laws_eqFrameS.mono _ _ _)
      | (with_reducible exact laws_heldClashS.mono _ _ _)
      | (with_reducible exact laws_markClashS.mono _ _ _)
      | (with_reducible exact laws_markFrameS.mono _ _ _)
      | (with_reducible exact laws_szFrameS.mono _ _ _)
      | (with_reducible exact laws_toFrameS.mono _ _)
      | (with_reducible exact spec_BusClashes.mono _ _)
      | (with_reducible exact LeO.refl _)
      | (with_reducible exact LeO.none _)
      | (with_reducible refine LeO.ite ?_ ?_)
      | (with_reducible refine LeO.bind ?_ (fun _ => ?_))
      | exact ih0 _ _ _ _
      | exact impl_BusClashes.mono _ _
      | exact laws_eqClashS.mono _ _ _
      | exact laws_eqFrameS.mono _ _ _
      | exact laws_heldClashS.mono _ _ _
      | exact laws_markClashS.mono _ _ _
      | exact laws_markFrameS.mono _ _ _
      | exact laws_szFrameS.mono _ _ _
      | exact laws_toFrameS.mono _ _
      | exact spec_BusClashes.mono _ _
      | exact LeO.none _
      | refine LeO.ite ?_ ?_
      | refine LeO.bind ?_ (fun _ => ?_)
set_option maxHeartbeats 8000000 in
set_option maxRecDepth 100000 in
theorem laws_FnExactBusClashes.calls (k : Nat) (A0 : Option Addr) (c0 : Nat) (l0 : List (S36)) (r : Bool) (w : World) (hr0 : Kd.C k36 w A0 l0.length l0) (hc0 : l0.length ≤ c0) (hr_ : r = true) (h : laws_FnExactBusClashes.f k l0 = some r) :
    Calls Try.prog 7 #[.slice A0 l0.length c0] w fun e w' => e = .returned (.bool r) ∧ Below w.heap.size w w' := by
  have HR0 := Aside0.mk hr0
  have HC0 := Aside0.mk hc0
  clear hr0 hc0
  have HB := Aside0.mk (Below.refl w.heap.size w)
  have H : ((laws_szFrameS.f k l0 1048576).bind fun t341 => (if t341 < 0 then (some true) else ((laws_toFrameS.f k l0).bind fun t342 => ((spec_BusClashes.f k t342).bind fun t345 => ((laws_toFrameS.f k l0).bind fun t348 => ((impl_BusClashes.f k t348).bind fun t351 => ((laws_eqClashS.f k t351 t345).bind fun t354 => (if t354 = true then ((laws_toFrameS.f k l0).bind fun t355 => ((laws_eqFrameS.f k t348 t355).bind fun t358 => (if t358 = true then ((laws_markFrameS.f k t348 1).bind fun bt359 => (if bt359.1 < 0 then (laws_FnExactBusClashes.j0 k l0 t345 t351 true) else ((laws_eqClashS.f k t351 t345).bind fun t361 => (laws_FnExactBusClashes.j0 k l0 t345 t351 (!t361))))) else (some false)))) else (some false))))))))) = some r := h
  clear h
  replace H := Option.bind_eq_some_iff.mp H
  obtain ⟨t341, A20, H⟩ := H
  replace H : (if t341 < 0 then (some true) else ((laws_toFrameS.f k l0).bind fun t342 => ((spec_BusClashes.f k t342).bind fun t345 => ((laws_toFrameS.f k l0).bind fun t348 => ((impl_BusClashes.f k t348).bind fun t351 => ((laws_eqClashS.f k t351 t345).bind fun t354 => (if t354 = true then ((laws_toFrameS.f k l0).bind fun t355 => ((laws_eqFrameS.f k t348 t355).bind fun t358 => (if t358 = true then ((laws_markFrameS.f k t348 1).bind fun bt359 => (if bt359.1 < 0 then (laws_FnExactBusClashes.j0 k l0 t345 t351 true) else ((laws_eqClashS.f k t351 t345).bind fun t361 => (laws_FnExactBusClashes.j0 k l0 t345 t351 (!t361))))) else (some false)))) else (some false)))))))) = some r := H
  have A2 := Aside0.mk A20
  clear A20
  by_cases c3 : t341 < 0
  · rw [if_pos c3] at H
    have c3b0 : decide (t341 < 0) = true := decide_eq_true c3
    clear c3
    obtain rfl := Option.some.inj H
    go_enter Try.func7, Try.ntmps7
    go_wp2_with (first | ((with_reducible refine gate_callee (f := 11) rfl ?_); refine goesL_ (some 13) rfl rfl Try.func11 (by kernel_rfl) rfl #[.slice A0 l0.length c0, .int .i64 1048576] rfl arr_ ?_; (with_reducible refine (laws_szFrameS.calls k _ _ l0 1048576 t341 _ ?side1 ?side2 A2.out).mono ?_); (case side1 => repeat (first | exact HR0.out | (with_reducible refine Kd.C_alloc ?_ _) | (with_reducible refine Kd.C_drewN ?_ _) | (with_reducible refine Kd.C_drew ?_))); (case side2 => exact HC0.out); rintro e w4 ⟨rfl, hb⟩; refine ⟨_, rfl, ?_⟩; have n0_ := Aside0.mk (below_step (hb_ HB.out) hb); clear HB; have HB := n0_; clear n0_; (try clear hb); (try clear hb2); (try clear hk); (try clear hi)))
    go_ret
    exact ⟨er_, hb_ HB.out⟩
  · rw [if_neg c3] at H
    have c3b0 : decide (t341 < 0) = false := decide_eq_false c3
    clear c3
    replace H := Option.bind_eq_some_iff.mp H
    obtain ⟨t342, A50, H⟩ := H
    replace H : ((spec_BusClashes.f k t342).bind fun t345 => ((laws_toFrameS.f k l0).bind fun t348 => ((impl_BusClashes.f k t348).bind fun t351 => ((laws_eqClashS.f k t351 t345).bind fun t354 => (if t354 = true then ((laws_toFrameS.f k l0).bind fun t355 => ((laws_eqFrameS.f k t348 t355).bind fun t358 => (if t358 = true then ((laws_markFrameS.f k t348 1).bind fun bt359 => (if bt359.1 < 0 then (laws_FnExactBusClashes.j0 k l0 t345 t351 true) else ((laws_eqClashS.f k t351 t345).bind fun t361 => (laws_FnExactBusClashes.j0 k l0 t345 t351 (!t361))))) else (some false)))) else (some false)))))) = some r := H
    have A5 := Aside0.mk A50
    clear A50
    replace H := Option.bind_eq_some_iff.mp H
    obtain ⟨t345, A60, H⟩ := H
    replace H : ((laws_toFrameS.f k l0).bind fun t348 => ((impl_BusClashes.f k t348).bind fun t351 => ((laws_eqClashS.f k t351 t345).bind fun t354 => (if t354 = true then ((laws_toFrameS.f k l0).bind fun t355 => ((laws_eqFrameS.f k t348 t355).bind fun t358 => (if t358 = true then ((laws_markFrameS.f k t348 1).bind fun bt359 => (if bt359.1 < 0 then (laws_FnExactBusClashes.j0 k l0 t345 t351 true) else ((laws_eqClashS.f k t351 t345).bind fun t361 => (laws_FnExactBusClashes.j0 k l0 t345 t351 (!t361))))) else (some false)))) else (some false))))) = some r := H
    have A6 := Aside0.mk A60
    clear A60
    replace H := Option.bind_eq_some_iff.mp H
    obtain ⟨t348, A70, H⟩ := H
    replace H : ((impl_BusClashes.f k t348).bind fun t351 => ((laws_eqClashS.f k t351 t345).bind fun t354 => (if t354 = true then ((laws_toFrameS.f k l0).bind fun t355 => ((laws_eqFrameS.f k t348 t355).bind fun t358 => (if t358 = true then ((laws_markFrameS.f k t348 1).bind fun bt359 => (if bt359.1 < 0 then (laws_FnExactBusClashes.j0 k l0 t345 t351 true) else ((laws_eqClashS.f k t351 t345).bind fun t361 => (laws_FnExactBusClashes.j0 k l0 t345 t351 (!t361))))) else (some false)))) else (some false)))) = some r := H
    have A7 := Aside0.mk A70
    clear A70
    replace H := Option.bind_eq_some_iff.mp H
    obtain ⟨t351, A80, H⟩ := H
    replace H : ((laws_eqClashS.f k t351 t345).bind fun t354 => (if t354 = true then ((laws_toFrameS.f k l0).bind fun t355 => ((laws_eqFrameS.f k t348 t355).bind fun t358 => (if t358 = true then ((laws_markFrameS.f k t348 1).bind fun bt359 => (if bt359.1 < 0 then (laws_FnExactBusClashes.j0 k l0 t345 t351 true) else ((laws_eqClashS.f k t351 t345).bind fun t361 => (laws_FnExactBusClashes.j0 k l0 t345 t351 (!t361))))) else (some false)))) else (some false))) = some r := H
    have A8 := Aside0.mk A80
    clear A80
    replace H := Option.bind_eq_some_iff.mp H
    obtain ⟨t354, A90, H⟩ := H
    replace H : (if t354 = true then ((laws_toFrameS.f k l0).bind fun t355 => ((laws_eqFrameS.f k t348 t355).bind fun t358 => (if t358 = true then ((laws_markFrameS.f k t348 1).bind fun bt359 => (if bt359.1 < 0 then (laws_FnExactBusClashes.j0 k l0 t345 t351 true) else ((laws_eqClashS.f k t351 t345).bind fun t361 => (laws_FnExactBusClashes.j0 k l0 t345 t351 (!t361))))) else (some false)))) else (some false)) = some r := H
    have A9 := Aside0.mk A90
    clear A90
    by_cases c10 : t354 = true
    · subst c10
      have H1 : ((laws_toFrameS.f k l0).bind fun t355 => ((laws_eqFrameS.f k t348 t355).bind fun t358 => (if t358 = true then ((laws_markFrameS.f k t348 1).bind fun bt359 => (if bt359.1 < 0 then (laws_FnExactBusClashes.j0 k l0 t345 t351 true) else ((laws_eqClashS.f k t351 t345).bind fun t361 => (laws_FnExactBusClashes.j0 k l0 t345 t351 (!t361))))) else (some false)))) = some r := by rw [if_pos rfl] at H; exact H
      clear H
      have H := H1
      clear H1
      replace H := Option.bind_eq_some_iff.mp H
      obtain ⟨t355, A110, H⟩ := H
      replace H : ((laws_eqFrameS.f k t348 t355).bind fun t358 => (if t358 = true then ((laws_markFrameS.f k t348 1).bind fun bt359 => (if bt359.1 < 0 then (laws_FnExactBusClashes.j0 k l0 t345 t351 true) else ((laws_eqClashS.f k t351 t345).bind fun t361 => (laws_FnExactBusClashes.j0 k l0 t345 t351 (!t361))))) else (some false))) = some r := H
      have A11 := Aside0.mk A110
      clear A110
      replace H := Option.bind_eq_some_iff.mp H
      obtain ⟨t358, A120, H⟩ := H
      replace H : (if t358 = true then ((laws_markFrameS.f k t348 1).bind fun bt359 => (if bt359.1 < 0 then (laws_FnExactBusClashes.j0 k l0 t345 t351 true) else ((laws_eqClashS.f k t351 t345).bind fun t361 => (laws_FnExactBusClashes.j0 k l0 t345 t351 (!t361))))) else (some false)) = some r := H
      have A12 := Aside0.mk A120
      clear A120
      by_cases c13 : t358 = true
      · subst c13
        have H1 : ((laws_markFrameS.f k t348 1).bind fun bt359 => (if bt359.1 < 0 then (laws_FnExactBusClashes.j0 k l0 t345 t351 true) else ((laws_eqClashS.f k t351 t345).bind fun t361 => (laws_FnExactBusClashes.j0 k l0 t345 t351 (!t361))))) = some r := by rw [if_pos rfl] at H; exact H
        clear H
        have H := H1
        clear H1
        replace H := Option.bind_eq_some_iff.mp H
        obtain ⟨⟨t359, t360⟩, A140, H⟩ := H
        replace H : (if t359 < 0 then (laws_FnExactBusClashes.j0 k l0 t345 t351 true) else ((laws_eqClashS.f k t351 t345).bind fun t361 => (laws_FnExactBusClashes.j0 k l0 t345 t351 (!t361)))) = some r := H
        have A14 := Aside0.mk A140
        clear A140
        have HC15 := Aside0.mk H
        clear H
        go_enter Try.func7, Try.ntmps7
        go_upto_region 14 with (first | ((with_reducible refine gate_callee (f := 11) rfl ?_); refine goesL_ (some 13) rfl rfl Try.func11 (by kernel_rfl) rfl #[.slice A0 l0.length c0, .int .i64 1048576] rfl arr_ ?_; (with_reducible refine (laws_szFrameS.calls k _ _ l0 1048576 t341 _ ?side1 ?side2 A2.out).mono ?_); (case side1 => repeat (first | exact HR0.out | (with_reducible refine Kd.C_alloc ?_ _) | (with_reducible refine Kd.C_drewN ?_ _) | (with_reducible refine Kd.C_drew ?_))); (case side2 => exact HC0.out); rintro e w16 ⟨rfl, hb⟩; refine ⟨_, rfl, ?_⟩; have n0_ := Aside0.mk (below_step (hb_ HB.out) hb); clear HB; have HB := n0_; clear n0_; (try clear hb); (try clear hb2); (try clear hk); (try clear hi)) | ((with_reducible refine gate_callee (f := 13) rfl ?_); refine goesL_ (some 17) rfl rfl Try.func13 (by kernel_rfl) rfl #[.slice A0 l0.length c0] rfl arr_ ?_; (with_reducible refine (laws_toFrameS.calls k _ _ l0 t342 _ ?side1 ?side2 A5.out).mono ?_); (case side1 => exact kc_ (Kd.C_below HR0.out HB.out)); (case side2 => exact HC0.out); rintro e w17 ⟨v343, rfl, ho0, hb⟩; refine ⟨_, rfl, ?_⟩; have n0_ := Aside0.mk (Kd.R_lower ho0 (below_size (hb_ HB.out))); have n1_ := Aside0.mk (below_step (hb_ HB.out) hb); clear HB; have HO344 := n0_; have HB := n1_; clear n0_ n1_; (try clear hb); (try clear hb2); (try clear hk); (try clear hi); (try clear ho0); obtain ⟨Ao18, co18, eo18⟩ := Kd.R_slice HO344.out; subst eo18) | ((with_reducible refine gate_callee (f := 29) rfl ?_); refine goesL_ (some 18) rfl rfl Try.func29 (by kernel_rfl) rfl #[.slice Ao18 t342.length co18] rfl arr_ ?_; (with_reducible refine (spec_BusClashes.calls k _ _ t342 t345 _ ?side1 ?side2 A6.out).mono ?_); (case side1 => repeat (first | exact (Kd.R_reads' HO344.out).2.2 | (with_reducible refine Kd.C_alloc ?_ _) | (with_reducible refine Kd.C_drewN ?_ _) | (with_reducible refine Kd.C_drew ?_))); (case side2 => exact (Kd.R_reads' HO344.out).2.1); rintro e w19 ⟨v346, rfl, ho0, hb⟩; refine ⟨_, rfl, ?_⟩; have n0_ := Aside0.mk (Kd.R_below (by (with_reducible repeat (first | apply Kd.R_alloc | apply Kd.R_drewN | apply Kd.R_drew)); exact HO344.out) hb); have n1_ := Aside0.mk (Kd.R_lower ho0 (below_size (hb_ HB.out))); have n2_ := Aside0.mk (below_step (hb_ HB.out) hb); clear HO344; clear HB; have HO344 := n0_; have HO347 := n1_; have HB := n2_; clear n0_ n1_ n2_; (try clear hb); (try clear hb2); (try clear hk); (try clear hi); (try clear ho0)) | ((with_reducible refine gate_callee (f := 13) rfl ?_); refine goesL_ (some 20) rfl rfl Try.func13 (by kernel_rfl) rfl #[.slice A0 l0.length c0] rfl arr_ ?_; (with_reducible refine (laws_toFrameS.calls k _ _ l0 t348 _ ?side1 ?side2 A7.out).mono ?_); (case side1 => exact kc_ (Kd.C_below HR0.out HB.out)); (case side2 => exact HC0.out); rintro e w20 ⟨v349, rfl, ho0, hb⟩; refine ⟨_, rfl, ?_⟩; have n0_ := Aside0.mk (Kd.R_elder' (by (with_reducible repeat (first | apply Kd.R_alloc | apply Kd.R_drewN | apply Kd.R_drew)); exact HO344.out) (Kd.R_base ho0) hb); have n1_ := Aside0.mk (Kd.R_below (by (with_reducible repeat (first | apply Kd.R_alloc | apply Kd.R_drewN | apply Kd.R_drew)); exact HO347.out) hb); have n2_ := Aside0.mk (Kd.R_lower (Kd.R_new' ho0 (Kd.R_lt (by (with_reducible repeat (first | apply Kd.R_alloc | apply Kd.R_drewN | apply Kd.R_drew)); exact HO344.out))) (below_size (hb_ HB.out))); have n3_ := Aside0.mk (below_step (hb_ HB.out) hb); clear HO344; clear HO347; clear HB; have HO344 := n0_; have HO347 := n1_; have HO350 := n2_; have HB := n3_; clear n0_ n1_ n2_ n3_; (try clear hb); (try clear hb2); (try clear hk); (try clear hi); (try clear ho0); obtain ⟨Ao21, co21, eo21⟩ := Kd.R_slice HO350.out; subst eo21) | ((with_reducible refine gate_callee (f := 30) rfl ?_); refine goesL_ (some 22) rfl rfl Try.func30 (by kernel_rfl) rfl #[.slice Ao21 t348.length co21] rfl arr_ ?_; (with_reducible refine (impl_BusClashes.calls k _ _ t348 t351 _ ?side1 ?side2 A8.out).mono ?_); (case side1 => repeat (first | exact (Kd.R_reads' HO350.out).2.2 | (with_reducible refine Kd.C_alloc ?_ _) | (with_reducible refine Kd.C_drewN ?_ _) | (with_reducible refine Kd.C_drew ?_))); (case side2 => exact (Kd.R_reads' HO350.out).2.1); rintro e w22 ⟨v352, rfl, ho0, hb⟩; refine ⟨_, rfl, ?_⟩; have n0_ := Aside0.mk (Kd.R_below (by (with_reducible repeat (first | apply Kd.R_alloc | apply Kd.R_drewN | apply Kd.R_drew)); exact HO344.out) hb); have n1_ := Aside0.mk (Kd.R_elder' (by (with_reducible repeat (first | apply Kd.R_alloc | apply Kd.R_drewN | apply Kd.R_drew)); exact HO347.out) (Kd.R_base ho0) hb); have n2_ := Aside0.mk (Kd.R_below (by (with_reducible repeat (first | apply Kd.R_alloc | apply Kd.R_drewN | apply Kd.R_drew)); exact HO350.out) hb); have n3_ := Aside0.mk (Kd.R_lower (Kd.R_new' ho0 (Kd.R_lt (by (with_reducible repeat (first | apply Kd.R_alloc | apply Kd.R_drewN | apply Kd.R_drew)); exact HO347.out))) (below_size (hb_ HB.out))); have n4_ := Aside0.mk (below_step (hb_ HB.out) hb); clear HO344; clear HO347; clear HO350; clear HB; have HO344 := n0_; have HO347 := n1_; have HO350 := n2_; have HO353 := n3_; have HB := n4_; clear n0_ n1_ n2_ n3_ n4_; (try clear hb); (try clear hb2); (try clear hk); (try clear hi); (try clear ho0); obtain ⟨Ao23, co23, eo23⟩ := Kd.R_slice HO353.out; subst eo23; obtain ⟨Ao24, co24, eo24⟩ := Kd.R_slice HO347.out; subst eo24) | ((with_reducible refine gate_callee (f := 31) rfl ?_); refine goesL_ (some 25) rfl rfl Try.func31 (by kernel_rfl) rfl #[.slice Ao23 t351.length co23, .slice Ao24 t345.length co24] rfl arr_ ?_; (with_reducible refine (laws_eqClashS.calls k _ _ t351 _ _ t345 true _ ?side1 ?side2 ?side3 ?side4 A9.out).mono ?_); (case side1 => repeat (first | exact (Kd.R_reads' HO353.out).2.2 | (with_reducible refine Kd.C_alloc ?_ _) | (with_reducible refine Kd.C_drewN ?_ _) | (with_reducible refine Kd.C_drew ?_))); (case side2 => exact (Kd.R_reads' HO353.out).2.1); (case side3 => repeat (first | exact (Kd.R_reads' HO347.out).2.2 | (with_reducible refine Kd.C_alloc ?_ _) | (with_reducible refine Kd.C_drewN ?_ _) | (with_reducible refine Kd.C_drew ?_))); (case side4 => exact (Kd.R_reads' HO347.out).2.1); rintro e w25 ⟨rfl, hb⟩; refine ⟨_, rfl, ?_⟩; have n0_ := Aside0.mk (Kd.R_below (by (with_reducible repeat (first | apply Kd.R_alloc | apply Kd.R_drewN | apply Kd.R_drew)); exact HO344.out) hb); have n1_ := Aside0.mk (Kd.R_below (by (with_reducible repeat (first | apply Kd.R_alloc | apply Kd.R_drewN | apply Kd.R_drew)); exact HO347.out) hb); have n2_ := Aside0.mk (Kd.R_below (by (with_reducible repeat (first | apply Kd.R_alloc | apply Kd.R_drewN | apply Kd.R_drew)); exact HO350.out) hb); have n3_ := Aside0.mk (Kd.R_below (by (with_reducible repeat (first | apply Kd.R_alloc | apply Kd.R_drewN | apply Kd.R_drew)); exact HO353.out) hb); have n4_ := Aside0.mk (below_step (hb_ HB.out) hb); clear HO344; clear HO347; clear HO350; clear HO353; clear HB; have HO344 := n0_; have HO347 := n1_; have HO350 := n2_; have HO353 := n3_; have HB := n4_; clear n0_ n1_ n2_ n3_ n4_; (try clear hb); (try clear hb2); (try clear hk); (try clear hi)) | ((with_reducible refine gate_callee (f := 13) rfl ?_); refine goesL_ (some 29) rfl rfl Try.func13 (by kernel_rfl) rfl #[.slice A0 l0.length c0] rfl arr_ ?_; (with_reducible refine (laws_toFrameS.calls k _ _ l0 t355 _ ?side1 ?side2 A11.out).mono ?_); (case side1 => exact kc_ (Kd.C_below HR0.out HB.out)); (case side2 => exact HC0.out); rintro e w26 ⟨v356, rfl, ho0, hb⟩; refine ⟨_, rfl, ?_⟩; have n0_ := Aside0.mk (Kd.R_elder' (by (with_reducible repeat (first | apply Kd.R_alloc | apply Kd.R_drewN | apply Kd.R_drew)); exact HO344.out) (Kd.R_base ho0) hb); have n1_ := Aside0.mk (Kd.R_below (by (with_reducible repeat (first | apply Kd.R_alloc | apply Kd.R_drewN | apply Kd.R_drew)); exact HO347.out) hb); have n2_ := Aside0.mk (Kd.R_elder' (by (with_reducible repeat (first | apply Kd.R_alloc | apply Kd.R_drewN | apply Kd.R_drew)); exact HO350.out) (Kd.R_base ho0) hb); have n3_ := Aside0.mk (Kd.R_below (by (with_reducible repeat (first | apply Kd.R_alloc | apply Kd.R_drewN | apply Kd.R_drew)); exact HO353.out) hb); have n4_ := Aside0.mk (Kd.R_lower (Kd.R_new' (Kd.R_new' ho0 (Kd.R_lt (by (with_reducible repeat (first | apply Kd.R_alloc | apply Kd.R_drewN | apply Kd.R_drew)); exact HO344.out))) (Kd.R_lt (by (with_reducible repeat (first | apply Kd.R_alloc | apply Kd.R_drewN | apply Kd.R_drew)); exact HO350.out))) (below_size (hb_ HB.out))); have n5_ := Aside0.mk (below_step (hb_ HB.out) hb); clear HO344; clear HO347; clear HO350; clear HO353; clear HB; have HO344 := n0_; have HO347 := n1_; have HO350 := n2_; have HO353 := n3_; have HO357 := n4_; have HB := n5_; clear n0_ n1_ n2_ n3_ n4_ n5_; (try clear hb); (try clear hb2); (try clear hk); (try clear hi); (try clear ho0); obtain ⟨Ao27, co27, eo27⟩ := Kd.R_slice HO357.out; subst eo27) | ((with_reducible refine gate_callee (f := 15) rfl ?_); refine goesL_ (some 30) rfl rfl Try.func15 (by kernel_rfl) rfl #[.slice Ao21 t348.length co21, .slice Ao27 t355.length co27] rfl arr_ ?_; (with_reducible refine (laws_eqFrameS.calls k _ _ t348 _ _ t355 true _ ?side1 ?side2 ?side3 ?side4 A12.out).mono ?_); (case side1 => repeat (first | exact (Kd.R_reads' HO350.out).2.2 | (with_reducible refine Kd.C_alloc ?_ _) | (with_reducible refine Kd.C_drewN ?_ _) | (with_reducible refine Kd.C_drew ?_))); (case side2 => exact (Kd.R_reads' HO350.out).2.1); (case side3 => repeat (first | exact (Kd.R_reads' HO357.out).2.2 | (with_reducible refine Kd.C_alloc ?_ _) | (with_reducible refine Kd.C_drewN ?_ _) | (with_reducible refine Kd.C_drew ?_))); (case side4 => exact (Kd.R_reads' HO357.out).2.1); rintro e w28 ⟨rfl, hb⟩; refine ⟨_, rfl, ?_⟩; have n0_ := Aside0.mk (Kd.R_below (by (with_reducible repeat (first | apply Kd.R_alloc | apply Kd.R_drewN | apply Kd.R_drew)); exact HO344.out) hb); have n1_ := Aside0.mk (Kd.R_below (by (with_reducible repeat (first | apply Kd.R_alloc | apply Kd.R_drewN | apply Kd.R_drew)); exact HO347.out) hb); have n2_ := Aside0.mk (Kd.R_below (by (with_reducible repeat (first | apply Kd.R_alloc | apply Kd.R_drewN | apply Kd.R_drew)); exact HO350.out) hb); have n3_ := Aside0.mk (Kd.R_below (by (with_reducible repeat (first | apply Kd.R_alloc | apply Kd.R_drewN | apply Kd.R_drew)); exact HO353.out) hb); have n4_ := Aside0.mk (Kd.R_below (by (with_reducible repeat (first | apply Kd.R_alloc | apply Kd.R_drewN | apply Kd.R_drew)); exact HO357.out) hb); have n5_ := Aside0.mk (below_step (hb_ HB.out) hb); clear HO344; clear HO347; clear HO350; clear HO353; clear HO357; clear HB; have HO344 := n0_; have HO347 := n1_; have HO350 := n2_; have HO353 := n3_; have HO357 := n4_; have HB := n5_; clear n0_ n1_ n2_ n3_ n4_ n5_; (try clear hb); (try clear hb2); (try clear hk); (try clear hi)) | ((with_reducible refine gate_callee (f := 19) rfl ?_); refine goesL_ (some 34) rfl rfl Try.func19 (by kernel_rfl) rfl #[.slice Ao21 t348.length co21, .int .i64 1] rfl arr_ ?_; (with_reducible refine (laws_markFrameS.calls k (fun k_ => some k_ = (.slice Ao21 t348.length co21 : Value).ownBlock) (.slice Ao21 t348.length co21) t348 1 t359 t360 w _ ?side1 ?side2 A14.out).mono ?_); (case side1 => repeat (first | (with_reducible first | exact HB.out | apply below_alloc | apply pw_below_drewN | apply below_drew1) | exact HB.out)); (case side2 => exact Kd.R_tight rfl HO350.out); rintro e w29 ⟨rfl, hy0, hb, hkp⟩; refine ⟨_, rfl, ?_⟩; have n0_ := Aside0.mk (Kd.R_mono (ok' := fun k_ => some k_ ≠ (.slice Ao21 t348.length co21 : Value).ownBlock ∧ some k_ ≠ (.slice Ao27 t355.length co27 : Value).ownBlock) (Kd.R_keptB (HO344.out) hkp (fun k_ hk_ hs_ => (hk_.1.2) hs_)) (fun k_ hk_ => ⟨hk_.1.1.2, hk_.1.2⟩)); have n1_ := Aside0.mk (Kd.R_mono (ok' := fun k_ => some k_ ≠ (.slice Ao23 t351.length co23 : Value).ownBlock) (Kd.R_keptB ((Kd.R_apart' HO347.out (Kd.R_typed HO350.out) (by decide))) hkp (fun k_ hk_ hs_ => (hk_.2) hs_)) (fun k_ hk_ => hk_.1.1.2)); have n2_ := Aside0.mk (Kd.R_reok rfl hy0 (fun k_ e_ => HO350.out.1 k_ e_)); have n3_ := Aside0.mk (Kd.R_mono (ok' := fun k_ => some k_ ≠ (.slice Ao24 t345.length co24 : Value).ownBlock) (Kd.R_keptB ((Kd.R_apart' HO353.out (Kd.R_typed HO350.out) (by decide))) hkp (fun k_ hk_ hs_ => (hk_.2) hs_)) (fun k_ hk_ => hk_.1.1.2)); have n4_ := Aside0.mk (Kd.R_mono (ok' := fun k_ => some k_ ≠ (.slice Ao18 t342.length co18 : Value).ownBlock ∧ some k_ ≠ (.slice Ao21 t348.length co21 : Value).ownBlock) (Kd.R_keptB (HO357.out) hkp (fun k_ hk_ hs_ => (hk_.2) hs_)) (fun k_ hk_ => ⟨hk_.1.1.2, hk_.1.2⟩)); have n5_ := Aside0.mk (hb); clear HO344; clear HO347; clear HO350; clear HO353; clear HO357; clear HB; have HO344 := n0_; have HO347 := n1_; have HO350 := n2_; have HO353 := n3_; have HO357 := n4_; have HB := n5_; clear n0_ n1_ n2_ n3_ n4_ n5_; (try clear hb); (try clear hkp); (try clear hy0)))
        (try simp only [Act.put, List.setIfInBounds_toArray, List.set_cons_zero, List.set_cons_succ])
        go_cut [42] (fun v42 wc => ∃ (kq : Nat) (x42_14 : Bool), v42 = .bool x42_14 ∧ Aside0 (laws_FnExactBusClashes.j0 kq l0 t345 t351 x42_14 = some r) ∧ Aside0 (kq ≤ k) ∧ Aside0 (Kd.R k57 57 wc w.heap.size (fun k_ => some k_ ≠ ((.slice Ao23 t351.length co23) : Value).ownBlock) (.slice Ao24 t345.length co24) t345) ∧ Aside0 (Kd.R k57 57 wc w.heap.size (fun k_ => some k_ ≠ ((.slice Ao24 t345.length co24) : Value).ownBlock) (.slice Ao23 t351.length co23) t351) ∧ Aside0 (Below w.heap.size w wc))
        case first =>
          have H := HC15.out
          clear HC15
          by_cases c30 : t359 < 0
          · rw [if_pos c30] at H
            have c30b0 : decide (t359 < 0) = true := decide_eq_true c30
            clear c30
            (first | rw [c30b0] | (simp only [i64_w, i32_w]; rw [c30b0]) | skip)
            have H' := Aside0.mk H
            clear H
            go_wp2
            go_meet
            case rel => exact ⟨_, (true), (by first | rfl | (simp; done) | (simp [*]; done)), H', ⟨by first | omega | exact Nat.le_refl _⟩, ⟨by (with_reducible repeat (first | apply Kd.R_alloc | apply Kd.R_drewN | apply Kd.R_drew)); exact HO347.out⟩, ⟨by (with_reducible repeat (first | apply Kd.R_alloc | apply Kd.R_drewN | apply Kd.R_drew)); exact HO353.out⟩, ⟨hb_ HB.out⟩⟩
          · rw [if_neg c30] at H
            have c30b0 : decide (t359 < 0) = false := decide_eq_false c30
            clear c30
            (first | rw [c30b0] | (simp only [i64_w, i32_w]; rw [c30b0]) | skip)
            replace H := Option.bind_eq_some_iff.mp H
            obtain ⟨t361, A310, H⟩ := H
            replace H : (laws_FnExactBusClashes.j0 k l0 t345 t351 (!t361)) = some r := H
            have A31 := Aside0.mk A310
            clear A310
            have H' := Aside0.mk H
            clear H
            go_wp2_with (first | (go_at_call 31; (with_reducible refine (laws_eqClashS.calls k _ _ t351 _ _ t345 t361 _ ?side1 ?side2 ?side3 ?side4 A31.out).mono ?_); (case side1 => repeat (first | exact (Kd.R_reads' HO353.out).2.2 | (with_reducible refine Kd.C_alloc ?_ _) | (with_reducible refine Kd.C_drewN ?_ _) | (with_reducible refine Kd.C_drew ?_))); (case side2 => exact (Kd.R_reads' HO353.out).2.1); (case side3 => repeat (first | exact (Kd.R_reads' HO347.out).2.2 | (with_reducible refine Kd.C_alloc ?_ _) | (with_reducible refine Kd.C_drewN ?_ _) | (with_reducible refine Kd.C_drew ?_))); (case side4 => exact (Kd.R_reads' HO347.out).2.1); rintro e w32 ⟨rfl, hb⟩; have n0_ := Aside0.mk (Kd.R_below (by (with_reducible repeat (first | apply Kd.R_alloc | apply Kd.R_drewN | apply Kd.R_drew)); exact HO344.out) hb); have n1_ := Aside0.mk (Kd.R_below (by (with_reducible repeat (first | apply Kd.R_alloc | apply Kd.R_drewN | apply Kd.R_drew)); exact HO347.out) hb); have n2_ := Aside0.mk (Kd.R_below (by (with_reducible repeat (first | apply Kd.R_alloc | apply Kd.R_drewN | apply Kd.R_drew)); exact HO350.out) hb); have n3_ := Aside0.mk (Kd.R_below (by (with_reducible repeat (first | apply Kd.R_alloc | apply Kd.R_drewN | apply Kd.R_drew)); exact HO353.out) hb); have n4_ := Aside0.mk (Kd.R_below (by (with_reducible repeat (first | apply Kd.R_alloc | apply Kd.R_drewN | apply Kd.R_drew)); exact HO357.out) hb); have n5_ := Aside0.mk (below_step (hb_ HB.out) hb); clear HO344; clear HO347; clear HO350; clear HO353; clear HO357; clear HB; have HO344 := n0_; have HO347 := n1_; have HO350 := n2_; have HO353 := n3_; have HO357 := n4_; have HB := n5_; clear n0_ n1_ n2_ n3_ n4_ n5_; (try clear hb); (try clear hb2); (try clear hk); (try clear hi)))
            go_meet
            case rel => exact ⟨_, (!t361), (by first | rfl | (simp; done) | (simp [*]; done)), H', ⟨by first | omega | exact Nat.le_refl _⟩, ⟨by (with_reducible repeat (first | apply Kd.R_alloc | apply Kd.R_drewN | apply Kd.R_drew)); exact HO347.out⟩, ⟨by (with_reducible repeat (first | apply Kd.R_alloc | apply Kd.R_drewN | apply Kd.R_drew)); exact HO353.out⟩, ⟨hb_ HB.out⟩⟩
        case rest =>
          clear HC15
          try clear c1
          try clear c2
          try clear p2
          try clear c3
          try clear c3b0
          try clear c7
          try clear c10
          try clear c11
          try clear c13
          try clear c15
          try clear c19
          try clear c29
          try clear c30
          try clear c30b0
          try clear c31
          obtain ⟨kq, x42_14, rfl, HA, HJ14, HO_4, HO_6, HB⟩ := hcut
          cases kq with
          | zero => exact absurd HA.out (by simp [laws_FnExactBusClashes.j0])
          | succ kj14 =>
            have H := HA.out
            clear HA
            simp only [laws_FnExactBusClashes.j0] at H
            by_cases c33 : x42_14 = true
            · subst c33
              have H1 : (some false) = some r := by rw [if_pos rfl] at H; exact H
              clear H
              have H := H1
              clear H1
              obtain rfl := Option.some.inj H
              exact absurd hr_ (by decide)
            · replace c33 := Bool.eq_false_iff.mpr c33
              subst c33
              have H1 : ((laws_markClashS.f kj14 t351 1).bind fun bt362 => ((laws_heldClashS.f kj14 bt362.2 1).bind fun t364 => (if t364 < 0 then (some false) else (if t364 = bt362.1 then ((laws_toFrameS.f kj14 l0).bind fun t365 => ((impl_BusClashes.f kj14 t365).bind fun t368 => ((laws_eqClashS.f kj14 t368 t345).bind fun t371 => (if t371 = true then ((laws_heldClashS.f kj14 bt362.2 1).bind fun t372 => (if t372 < 0 then (some false) else (if t372 = bt362.1 then (some true) else (some false)))) else (some false))))) else (some false))))) = some r := by rw [if_neg (show ¬ (false = true) by decide)] at H; exact H
              clear H
              have H := H1
              clear H1
              replace H := Option.bind_eq_some_iff.mp H
              obtain ⟨⟨t362, t363⟩, A340, H⟩ := H
              replace H : ((laws_heldClashS.f kj14 t363 1).bind fun t364 => (if t364 < 0 then (some false) else (if t364 = t362 then ((laws_toFrameS.f kj14 l0).bind fun t365 => ((impl_BusClashes.f kj14 t365).bind fun t368 => ((laws_eqClashS.f kj14 t368 t345).bind fun t371 => (if t371 = true then ((laws_heldClashS.f kj14 t363 1).bind fun t372 => (if t372 < 0 then (some false) else (if t372 = t362 then (some true) else (some false)))) else (some false))))) else (some false)))) = some r := H
              have A34 := Aside0.mk A340
              clear A340
              replace H := Option.bind_eq_some_iff.mp H
              obtain ⟨t364, A350, H⟩ := H
              replace H : (if t364 < 0 then (some false) else (if t364 = t362 then ((laws_toFrameS.f kj14 l0).bind fun t365 => ((impl_BusClashes.f kj14 t365).bind fun t368 => ((laws_eqClashS.f kj14 t368 t345).bind fun t371 => (if t371 = true then ((laws_heldClashS.f kj14 t363 1).bind fun t372 => (if t372 < 0 then (some false) else (if t372 = t362 then (some true) else (some false)))) else (some false))))) else (some false))) = some r := H
              have A35 := Aside0.mk A350
              clear A350
              by_cases c36 : t364 < 0
              · rw [if_pos c36] at H
                have c36b0 : decide (t364 < 0) = true := decide_eq_true c36
                clear c36
                obtain rfl := Option.some.inj H
                exact absurd hr_ (by decide)
              · rw [if_neg c36] at H
                have c36b0 : decide (t364 < 0) = false := decide_eq_false c36
                clear c36
                by_cases c37 : t364 = t362
                · rw [if_pos c37] at H
                  have c37b0 : (t364 == t362) = true := beq_iff_eq.mpr c37
                  have c37b1 : (t364 != t362) = false := bne_eq_false_iff_eq.mpr c37
                  clear c37
                  replace H := Option.bind_eq_some_iff.mp H
                  obtain ⟨t365, A380, H⟩ := H
                  replace H : ((impl_BusClashes.f kj14 t365).bind fun t368 => ((laws_eqClashS.f kj14 t368 t345).bind fun t371 => (if t371 = true then ((laws_heldClashS.f kj14 t363 1).bind fun t372 => (if t372 < 0 then (some false) else (if t372 = t362 then (some true) else (some false)))) else (some false)))) = some r := H
                  have A38 := Aside0.mk A380
                  clear A380
                  replace H := Option.bind_eq_some_iff.mp H
                  obtain ⟨t368, A390, H⟩ := H
                  replace H : ((laws_eqClashS.f kj14 t368 t345).bind fun t371 => (if t371 = true then ((laws_heldClashS.f kj14 t363 1).bind fun t372 => (if t372 < 0 then (some false) else (if t372 = t362 then (some true) else (some false)))) else (some false))) = some r := H
                  have A39 := Aside0.mk A390
                  clear A390
                  replace H := Option.bind_eq_some_iff.mp H
                  obtain ⟨t371, A400, H⟩ := H
                  replace H : (if t371 = true then ((laws_heldClashS.f kj14 t363 1).bind fun t372 => (if t372 < 0 then (some false) else (if t372 = t362 then (some true) else (some false)))) else (some false)) = some r := H
                  have A40 := Aside0.mk A400
                  clear A400
                  by_cases c41 : t371 = true
                  · subst c41
                    have H1 : ((laws_heldClashS.f kj14 t363 1).bind fun t372 => (if t372 < 0 then (some false) else (if t372 = t362 then (some true) else (some false)))) = some r := by rw [if_pos rfl] at H; exact H
                    clear H
                    have H := H1
                    clear H1
                    replace H := Option.bind_eq_some_iff.mp H
                    obtain ⟨t372, A420, H⟩ := H
                    replace H : (if t372 < 0 then (some false) else (if t372 = t362 then (some true) else (some false))) = some r := H
                    have A42 := Aside0.mk A420
                    clear A420
                    by_cases c43 : t372 < 0
                    · rw [if_pos c43] at H
                      have c43b0 : decide (t372 < 0) = true := decide_eq_true c43
                      clear c43
                      obtain rfl := Option.some.inj H
                      exact absurd hr_ (by decide)
                    · rw [if_neg c43] at H
                      have c43b0 : decide (t372 < 0) = false := decide_eq_false c43
                      clear c43
                      by_cases c44 : t372 = t362
                      · rw [if_pos c44] at H
                        have c44b0 : (t372 == t362) = true := beq_iff_eq.mpr c44
                        have c44b1 : (t372 != t362) = false := bne_eq_false_iff_eq.mpr c44
                        clear c44
                        obtain rfl := Option.some.inj H
                        go_wp2_with (first | ((with_reducible refine gate_callee (f := 32) rfl ?_); refine goesL_ (some 45) rfl rfl Try.func32 (by kernel_rfl) rfl #[.slice Ao23 t351.length co23, .int .i64 1] rfl arr_ ?_; (with_reducible refine (laws_markClashS.calls kj14 (fun k_ => some k_ = (.slice Ao23 t351.length co23 : Value).ownBlock) (.slice Ao23 t351.length co23) t351 1 t362 t363 w _ ?side1 ?side2 A34.out).mono ?_); (case side1 => repeat (first | (with_reducible first | exact HB.out | apply below_alloc | apply pw_below_drewN | apply below_drew1) | exact HB.out)); (case side2 => exact Kd.R_tight rfl HO_6.out); rintro e w45 ⟨rfl, hy0, hb, hkp⟩; refine ⟨_, rfl, ?_⟩; have n0_ := Aside0.mk (Kd.R_mono (ok' := fun k_ => some k_ ≠ (.slice Ao23 t351.length co23 : Value).ownBlock) (Kd.R_keptB (HO_4.out) hkp (fun k_ hk_ hs_ => (hk_) hs_)) (fun k_ hk_ => hk_.1)); have n1_ := Aside0.mk (Kd.R_reok rfl hy0 (fun k_ e_ => HO_6.out.1 k_ e_)); have n2_ := Aside0.mk (hb); clear HO_4; clear HO_6; clear HB; have HO_4 := n0_; have HO_6 := n1_; have HB := n2_; clear n0_ n1_ n2_; (try clear hb); (try clear hkp); (try clear hy0)) | ((with_reducible refine gate_callee (f := 33) rfl ?_); refine goesL_ (some 48) rfl rfl Try.func33 (by kernel_rfl) rfl #[.slice Ao23 t363.length co23, .int .i64 1] rfl (by (try simp only [List.map_toArray, List.map_cons, List.map_nil]); first | done | (rw [show t363.length = t351.length from (Kd.R_reads' HO_6.out).1.symm] <;> rfl) | rfl | (simp only [List.length_drop, List.length_take]; rfl)) ?_; (with_reducible refine (laws_heldClashS.calls kj14 _ _ t363 1 t364 _ ?side1 ?side2 A35.out).mono ?_); (case side1 => repeat (first | exact (Kd.R_reads' HO_6.out).2.2 | (with_reducible refine Kd.C_alloc ?_ _) | (with_reducible refine Kd.C_drewN ?_ _) | (with_reducible refine Kd.C_drew ?_))); (case side2 => rw [show t363.length = t351.length from (Kd.R_reads' HO_6.out).1.symm]; exact (Kd.R_reads' HO_6.out).2.1); rintro e w' ⟨rfl, ⟨nd, rfl⟩⟩; refine ⟨_, rfl, ?_⟩) | ((with_reducible refine gate_callee (f := 13) rfl ?_); refine goesL_ (some 55) rfl rfl Try.func13 (by kernel_rfl) rfl #[.slice A0 l0.length c0] rfl arr_ ?_; (with_reducible refine (laws_toFrameS.calls kj14 _ _ l0 t365 _ ?side1 ?side2 A38.out).mono ?_); (case side1 => repeat (first | exact (Kd.C_below HR0.out (hb_ HB.out)) | (with_reducible refine Kd.C_alloc ?_ _) | (with_reducible refine Kd.C_drewN ?_ _) | (with_reducible refine Kd.C_drew ?_))); (case side2 => exact HC0.out); rintro e w46 ⟨v366, rfl, ho0, hb⟩; refine ⟨_, rfl, ?_⟩; have n0_ := Aside0.mk (Kd.R_below (by (with_reducible repeat (first | apply Kd.R_alloc | apply Kd.R_drewN | apply Kd.R_drew)); exact HO_4.out) hb); have n1_ := Aside0.mk (Kd.R_below (by (with_reducible repeat (first | apply Kd.R_alloc | apply Kd.R_drewN | apply Kd.R_drew)); exact HO_6.out) hb); have n2_ := Aside0.mk (Kd.R_lower ho0 (below_size (hb_ HB.out))); have n3_ := Aside0.mk (below_step (hb_ HB.out) hb); clear HO_4; clear HO_6; clear HB; have HO_4 := n0_; have HO_6 := n1_; have HO367 := n2_; have HB := n3_; clear n0_ n1_ n2_ n3_; (try clear hb); (try clear hb2); (try clear hk); (try clear hi); (try clear ho0); obtain ⟨Ao47, co47, eo47⟩ := Kd.R_slice HO367.out; subst eo47) | ((with_reducible refine gate_callee (f := 30) rfl ?_); refine goesL_ (some 56) rfl rfl Try.func30 (by kernel_rfl) rfl #[.slice Ao47 t365.length co47] rfl arr_ ?_; (with_reducible refine (impl_BusClashes.calls kj14 _ _ t365 t368 _ ?side1 ?side2 A39.out).mono ?_); (case side1 => repeat (first | exact (Kd.R_reads' HO367.out).2.2 | (with_reducible refine Kd.C_alloc ?_ _) | (with_reducible refine Kd.C_drewN ?_ _) | (with_reducible refine Kd.C_drew ?_))); (case side2 => exact (Kd.R_reads' HO367.out).2.1); rintro e w48 ⟨v369, rfl, ho0, hb⟩; refine ⟨_, rfl, ?_⟩; have n0_ := Aside0.mk (Kd.R_elder' (by (with_reducible repeat (first | apply Kd.R_alloc | apply Kd.R_drewN | apply Kd.R_drew)); exact HO_4.out) (Kd.R_base ho0) hb); have n1_ := Aside0.mk (Kd.R_elder' (by (with_reducible repeat (first | apply Kd.R_alloc | apply Kd.R_drewN | apply Kd.R_drew)); exact HO_6.out) (Kd.R_base ho0) hb); have n2_ := Aside0.mk (Kd.R_below (by (with_reducible repeat (first | apply Kd.R_alloc | apply Kd.R_drewN | apply Kd.R_drew)); exact HO367.out) hb); have n3_ := Aside0.mk (Kd.R_lower (Kd.R_new' (Kd.R_new' ho0 (Kd.R_lt (by (with_reducible repeat (first | apply Kd.R_alloc | apply Kd.R_drewN | apply Kd.R_drew)); exact HO_4.out))) (Kd.R_lt (by (with_reducible repeat (first | apply Kd.R_alloc | apply Kd.R_drewN | apply Kd.R_drew)); exact HO_6.out))) (below_size (hb_ HB.out))); have n4_ := Aside0.mk (below_step (hb_ HB.out) hb); clear HO_4; clear HO_6; clear HO367; clear HB; have HO_4 := n0_; have HO_6 := n1_; have HO367 := n2_; have HO370 := n3_; have HB := n4_; clear n0_ n1_ n2_ n3_ n4_; (try clear hb); (try clear hb2); (try clear hk); (try clear hi); (try clear ho0); obtain ⟨Ao49, co49, eo49⟩ := Kd.R_slice HO370.out; subst eo49) | ((with_reducible refine gate_callee (f := 31) rfl ?_); refine goesL_ (some 59) rfl rfl Try.func31 (by kernel_rfl) rfl #[.slice Ao49 t368.length co49, .slice Ao24 t345.length co24] rfl arr_ ?_; (with_reducible refine (laws_eqClashS.calls kj14 _ _ t368 _ _ t345 true _ ?side1 ?side2 ?side3 ?side4 A40.out).mono ?_); (case side1 => repeat (first | exact (Kd.R_reads' HO370.out).2.2 | (with_reducible refine Kd.C_alloc ?_ _) | (with_reducible refine Kd.C_drewN ?_ _) | (with_reducible refine Kd.C_drew ?_))); (case side2 => exact (Kd.R_reads' HO370.out).2.1); (case side3 => repeat (first | exact (Kd.R_reads' HO_4.out).2.2 | (with_reducible refine Kd.C_alloc ?_ _) | (with_reducible refine Kd.C_drewN ?_ _) | (with_reducible refine Kd.C_drew ?_))); (case side4 => exact (Kd.R_reads' HO_4.out).2.1); rintro e w50 ⟨rfl, hb⟩; refine ⟨_, rfl, ?_⟩; have n0_ := Aside0.mk (Kd.R_below (by (with_reducible repeat (first | apply Kd.R_alloc | apply Kd.R_drewN | apply Kd.R_drew)); exact HO_4.out) hb); have n1_ := Aside0.mk (Kd.R_below (by (with_reducible repeat (first | apply Kd.R_alloc | apply Kd.R_drewN | apply Kd.R_drew)); exact HO_6.out) hb); have n2_ := Aside0.mk (Kd.R_below (by (with_reducible repeat (first | apply Kd.R_alloc | apply Kd.R_drewN | apply Kd.R_drew)); exact HO367.out) hb); have n3_ := Aside0.mk (Kd.R_below (by (with_reducible repeat (first | apply Kd.R_alloc | apply Kd.R_drewN | apply Kd.R_drew)); exact HO370.out) hb); have n4_ := Aside0.mk (below_step (hb_ HB.out) hb); clear HO_4; clear HO_6; clear HO367; clear HO370; clear HB; have HO_4 := n0_; have HO_6 := n1_; have HO367 := n2_; have HO370 := n3_; have HB := n4_; clear n0_ n1_ n2_ n3_ n4_; (try clear hb); (try clear hb2); (try clear hk); (try clear hi)) | ((with_reducible refine gate_callee (f := 33) rfl ?_); refine goesL_ (some 63) rfl rfl Try.func33 (by kernel_rfl) rfl #[.slice Ao23 t363.length co23, .int .i64 1] rfl (by (try simp only [List.map_toArray, List.map_cons, List.map_nil]); first | done | (rw [show t363.length = t351.length from (Kd.R_reads' HO_6.out).1.symm] <;> rfl) | rfl | (simp only [List.length_drop, List.length_take]; rfl)) ?_; (with_reducible refine (laws_heldClashS.calls kj14 _ _ t363 1 t372 _ ?side1 ?side2 A42.out).mono ?_); (case side1 => repeat (first | exact (Kd.R_reads' HO_6.out).2.2 | (with_reducible refine Kd.C_alloc ?_ _) | (with_reducible refine Kd.C_drewN ?_ _) | (with_reducible refine Kd.C_drew ?_))); (case side2 => rw [show t363.length = t351.length from (Kd.R_reads' HO_6.out).1.symm]; exact (Kd.R_reads' HO_6.out).2.1); rintro e w' ⟨rfl, ⟨nd, rfl⟩⟩; refine ⟨_, rfl, ?_⟩))
                        go_ret
                        exact ⟨er_, hb_ HB.out⟩
                      · rw [if_neg c44] at H
                        have c44b0 : (t372 == t362) = false := beq_eq_false_iff_ne.mpr c44
                        have c44b1 : (t372 != t362) = true := bne_iff_ne.mpr c44
                        obtain rfl := Option.some.inj H
                        exact absurd hr_ (by decide)
                  · replace c41 := Bool.eq_false_iff.mpr c41
                    subst c41
                    have H1 : (some false) = some r := by rw [if_neg (show ¬ (false = true) by decide)] at H; exact H
                    clear H
                    have H := H1
                    clear H1
                    obtain rfl := Option.some.inj H
                    exact absurd hr_ (by decide)
                · rw [if_neg c37] at H
                  have c37b0 : (t364 == t362) = false := beq_eq_false_iff_ne.mpr c37
                  have c37b1 : (t364 != t362) = true := bne_iff_ne.mpr c37
                  obtain rfl := Option.some.inj H
                  exact absurd hr_ (by decide)
      · replace c13 := Bool.eq_false_iff.mpr c13
        subst c13
        have H1 : (some false) = some r := by rw [if_neg (show ¬ (false = true) by decide)] at H; exact H
        clear H
        have H := H1
        clear H1
        obtain rfl := Option.some.inj H
        exact absurd hr_ (by decide)
    · replace c10 := Bool.eq_false_iff.mpr c10
      subst c10
      have H1 : (some false) = some r := by rw [if_neg (show ¬ (false = true) by decide)] at H; exact H
      clear H
      have H := H1
      clear H1
      obtain rfl := Option.some.inj H
      exact absurd hr_ (by decide)
end Go.Proofs.Ytnafimhnjgnlcaa.P
namespace Go.Proofs.Ytnafimhnjgnlcaa.V
open Go.RowKit Go.Proofs.Ytnafimhnjgnlcaa.P Go.Proofs.Ytnafimhnjgnlcaa.C Go.Proofs.Ytnafimhnjgnlcaa.G
theorem FnExactBusClashes : ∀ (l0 : List (S36)), (l0.length ≤ 9223372036854775807 ∧ ∀ y ∈ l0, ((Lit.int .i64 y.f0).wf = true ∧ (Lit.int .i64 y.f1).wf = true ∧ (Lit.int .i64 y.f2).wf = true ∧ (Lit.int .i64 y.f3).wf = true ∧ (Lit.int .i64 y.f4).wf = true ∧ y.f5.size ≤ 9223372036854775807)) → ∃ k, laws_FnExactBusClashes.f k l0 = some true := by
  intro l ⟨hl, hb⟩
  refine ⟨2200100, ?_⟩
  unfold laws_FnExactBusClashes.f
  obtain ⟨r, h, hr⟩ := szFrameS l hl (fun y hy => (hb y hy).2.2.2.2.2) 1048576 (by omega) 2200100 (by omega)
  rw [h, Option.bind_some]
  by_cases h2 : r < 0
  · rw [if_pos h2]
  rw [if_neg h2]
  have hm : (l.map toFr).length = l.length := by simp
  have hq := clashes_len (l.map toFr)
  have hj : ∀ k, 2200000 ≤ k → laws_FnExactBusClashes.j0 k l (clashes (l.map toFr)) (clashes (l.map toFr)) false = some true := by
    intro k hk
    obtain ⟨k, rfl⟩ : ∃ j, k = j + 1 := ⟨k - 1, by omega⟩
    simp only [laws_FnExactBusClashes.j0]
    rw [if_neg (by decide), markClashS _ (by omega) 1 (by omega) k (by omega)]
    simp only [Option.bind_some]
    rw [heldClashS _ (by omega) 1 (by omega) k (by omega)]
    simp only [Option.bind_some]
    rw [if_neg (by omega), if_pos trivial, toFrameS l (by omega) k (by omega)]
    simp only [Option.bind_some]
    rw [iClashes _ (by omega) k (by omega)]
    simp only [Option.bind_some]
    rw [eqClashS _ (by omega) k (by omega)]
    simp only [Option.bind_some]
    rw [if_pos (by trivial), if_neg (by omega), if_pos (by trivial)]
  rw [toFrameS l (by omega) _ (by omega)]
  simp only [Option.bind_some]
  rw [sClashes _ (by omega) _ (by omega), iClashes _ (by omega) _ (by omega)]
  simp only [Option.bind_some]
  rw [eqClashS _ (by omega) _ (by omega), eqFrameS _ (by omega) _ (by omega)]
  simp only [Option.bind_some, if_true]
  rw [markFrameS _ (by omega) 1 (by omega) _ (by omega)]
  simp only [Option.bind_some, Bool.not_true]
  rw [if_neg (by omega)]
  exact hj _ (by omega)
end Go.Proofs.Ytnafimhnjgnlcaa.V
