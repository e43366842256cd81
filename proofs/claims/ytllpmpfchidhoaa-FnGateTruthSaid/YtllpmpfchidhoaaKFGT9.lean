/- Texts of the seat's proofs, part 9: functions of the program told as plain functions, with their contracts, and what is shown of them. No condition. -/
import Derived.Test.YtllpmpfchidhoaaUKFGT
import Derived.Test.YtllpmpfchidhoaaKFGT1
import Derived.Test.YtllpmpfchidhoaaKFGT5
import Derived.Test.YtllpmpfchidhoaaKFGT7
import Derived.Test.YtllpmpfchidhoaaKFGT8
import Derived.Test.YtllpmpfchidhoaaKFGT6
import Derived.Test.YtllpmpfchidhoaaKFGT2
import Derived.Test.YtllpmpfchidhoaaKFGT3
import Derived.Laws.Bits128
import Derived.Test.YtllpmpfchidhoaaKFGT4
set_option linter.unusedVariables false
set_option linter.unusedSimpArgs false
namespace Go.Proofs.Ytllpmpfchidhoaa.P
open Go.RowKit Go.Proofs.YtllpmpfchidhoaaW.PrintWords Go.Proofs.YtllpmpfchidhoaaW.PrintLast Go.Proofs.YtllpmpfchidhoaaW.PrintMore
attribute [local go_sem] max2_int min2_int max_two min_two max_three min_three max_four min_four
set_option linter.unusedVariables false
set_option linter.unusedSimpArgs false
def laws_FnGateTruth.f (k : Nat) (l0 : List Int) : Option (Bool) := (laws_big.f l0).bind fun t549 => (if t549 = true then (some true) else ((spec_DrawGateAsk.f k l0).bind fun bt550 => ((impl_GateAsk.f k bt550.1 bt550.2.1 bt550.2.2.1 bt550.2.2.2.1 bt550.2.2.2.2.1 bt550.2.2.2.2.2.1 bt550.2.2.2.2.2.2.1 bt550.2.2.2.2.2.2.2.1 bt550.2.2.2.2.2.2.2.2.1 bt550.2.2.2.2.2.2.2.2.2).bind fun bt565 => ((spec_GateAsk.f k bt550.1 bt550.2.1 bt550.2.2.1 bt550.2.2.2.1 bt550.2.2.2.2.1 bt550.2.2.2.2.2.1 bt550.2.2.2.2.2.2.1 bt550.2.2.2.2.2.2.2.1 bt550.2.2.2.2.2.2.2.2.1 bt550.2.2.2.2.2.2.2.2.2).bind fun bt568 => (if bt565.2.2 = bt568.2.2 then (if bt565.2.2 = 0 then ((impl_Occurrence.f k bt550.2.2.2.2.2.2.1 bt550.2.2.2.2.2.2.2.1 bt550.2.2.2.2.2.2.2.2.1 bt565.1 bt565.2.1).bind fun bt571 => ((spec_MostTime.f k bt550.2.2.2.1 bt550.2.2.2.2.1 bt550.2.2.2.2.2.1).bind fun bt575 => ((spec_LeastTime.f k bt550.2.2.2.1 bt550.2.2.2.2.1 bt550.2.2.2.2.2.1).bind fun bt577 => ((laws_at.f l0 1).bind fun t579 => ((spec_Wide.f bt550.1 bt550.2.1).bind fun t580 => (if (wrap64 (t580 + 1)) = 0 then (none) else ((laws_at.f l0 2).bind fun t581 => (if (wrap64 ((wrap64 (bt575.1 - bt577.1)) + 1)) = 0 then (none) else (if bt571.2.2 = true then (if 0 ≤ bt565.1 then (if bt565.1 < (bt550.2.2.2.2.2.2.2.2.1.length : Int) then (if ((rd_T42 bt550.2.2.2.2.2.2.2.2.1 bt565.1).f0) = bt550.2.2.2.2.2.2.2.2.2 then (if bt571.1 ≤ (wrap64 (bt550.1 + (Int.tmod t579 (wrap64 (t580 + 1))))) then (if (wrap64 ((wrap64 (bt550.1 + (Int.tmod t579 (wrap64 (t580 + 1))))) + (wrap64 (bt577.1 + (Int.tmod t581 (wrap64 ((wrap64 (bt575.1 - bt577.1)) + 1))))))) ≤ bt571.2.1 then (some (decide (bt571.2.1 ≤ (wrap64 (bt571.1 + ((rd_T42 bt550.2.2.2.2.2.2.2.2.1 bt565.1).f1)))))) else (some false)) else (some false)) else (some false)) else (none)) else (none)) else (some false)))))))))) else (if bt565.1 = 0 then (some (bt565.2.1 == 0)) else (some false))) else (some false))))))
def laws_FnGateTruth.T13 : Bool × List (List Nat × List Nat) := (true, [([], []), ([0], [0]), ([], []), ([2], [2]), ([], []), ([4, 3], [4]), ([5], [5]), ([3, 6], [3, 6]), ([1, 7], [1, 7]), ([8, 5, 0, 1, 2, 3, 4, 5, 6, 7, 8], [8])])
def laws_FnGateTruth.B13 : List Nat := [0, 1, 0, 4, 0, 28, 60, 124, 255, 511]
theorem laws_FnGateTruth.tab13 : rtab .any (opsOf Try.f3 13) = laws_FnGateTruth.T13 := by kernel_rfl
theorem laws_FnGateTruth.bits13 : waitsOk laws_FnGateTruth.T13.2 laws_FnGateTruth.B13 = true := by kernel_rfl
def laws_FnGateTruth.T15 : Bool × List (List Nat × List Nat) := (true, [([], []), ([0], [0]), ([1], [1]), ([2, 1], [1, 2]), ([1], [1]), ([3, 4, 1], [1, 3, 4]), ([5, 1], [1, 5]), ([6, 1], [1, 6]), ([1], [1]), ([7, 8, 1], [1, 7, 8]), ([1, 9], [1, 9]), ([10, 1], [10]), ([11], [11]), ([12, 11], [11, 12]), ([11], [11]), ([13, 14, 11], [11, 13, 14]), ([11, 15], [11, 15]), ([16, 11], [16]), ([17], [17]), ([17], [17]), ([18, 19, 17], [17, 18, 19]), ([17], [17]), ([21, 17], [17, 21]), ([20, 22, 17], [17, 20, 22]), ([17, 23], [17, 23]), ([24, 17], [24]), ([25], [25]), ([26, 25], [25, 26]), ([25], [25]), ([28, 25], [25, 28]), ([25], [25]), ([30, 25], [25, 30]), ([25], [25]), ([31, 32, 25], [25, 31, 32]), ([33, 25], [25, 33]), ([34, 25], [25, 34]), ([29, 35, 25], [25, 29, 35]), ([27, 36, 25], [25, 27, 36]), ([25, 37], [25, 37]), ([38, 25, 0, 1, 2, 3, 4, 5, 6, 7, 8, 9, 10, 11, 12, 13, 14, 15, 16, 17, 18, 19, 20, 21, 22, 23, 24, 25, 26, 27, 28, 29, 30, 31, 32, 33, 34, 35, 36, 37, 38], [38])])
def laws_FnGateTruth.B15 : List Nat := [0, 1, 3, 7, 3, 31, 63, 127, 3, 511, 1023, 2047, 4095, 8191, 4095, 32767, 65535, 131071, 262143, 262143, 1048575, 262143, 2359295, 8388607, 16777215, 33554431, 67108863, 134217727, 67108863, 335544319, 67108863, 1140850687, 67108863, 7583301631, 16173236223, 33353105407, 68518150143, 137438953471, 274877906943, 549755813887]
theorem laws_FnGateTruth.tab15 : rtab .any (opsOf Try.f3 15) = laws_FnGateTruth.T15 := by kernel_rfl
theorem laws_FnGateTruth.bits15 : waitsOk laws_FnGateTruth.T15.2 laws_FnGateTruth.B15 = true := by kernel_rfl
set_option maxHeartbeats 8000000 in
set_option maxRecDepth 100000 in
theorem laws_FnGateTruth.calls (k : Nat) (A0 : Option Addr) (c0 : Nat) (l0 : List Int) (r : Bool) (w : World) (hr0 : Kd.C (Kd.int .u8) w A0 l0.length l0) (hc0 : l0.length ≤ c0) (hr_ : r = true) (h : laws_FnGateTruth.f k l0 = some r) :
  Calls Try.prog 3 #[.slice A0 l0.length c0] w fun e w' => e = .returned (.bool r) ∧ Below w.heap.size w w' := by
 have hu25 := Try.underlying25
 have hu27 := Try.underlying27
 have hu30 := Try.underlying30
 have HR0 := Aside0.mk hr0
 have HC0 := Aside0.mk hc0
 clear hr0 hc0
 have HB := am_ (Below.refl w.heap.size w)
 have H : ((laws_big.f l0).bind fun t549 => (if t549 = true then (some true) else ((spec_DrawGateAsk.f k l0).bind fun bt550 => ((impl_GateAsk.f k bt550.1 bt550.2.1 bt550.2.2.1 bt550.2.2.2.1 bt550.2.2.2.2.1 bt550.2.2.2.2.2.1 bt550.2.2.2.2.2.2.1 bt550.2.2.2.2.2.2.2.1 bt550.2.2.2.2.2.2.2.2.1 bt550.2.2.2.2.2.2.2.2.2).bind fun bt565 => ((spec_GateAsk.f k bt550.1 bt550.2.1 bt550.2.2.1 bt550.2.2.2.1 bt550.2.2.2.2.1 bt550.2.2.2.2.2.1 bt550.2.2.2.2.2.2.1 bt550.2.2.2.2.2.2.2.1 bt550.2.2.2.2.2.2.2.2.1 bt550.2.2.2.2.2.2.2.2.2).bind fun bt568 => (if bt565.2.2 = bt568.2.2 then (if bt565.2.2 = 0 then ((impl_Occurrence.f k bt550.2.2.2.2.2.2.1 bt550.2.2.2.2.2.2.2.1 bt550.2.2.2.2.2.2.2.2.1 bt565.1 bt565.2.1).bind fun bt571 => ((spec_MostTime.f k bt550.2.2.2.1 bt550.2.2.2.2.1 bt550.2.2.2.2.2.1).bind fun bt575 => ((spec_LeastTime.f k bt550.2.2.2.1 bt550.2.2.2.2.1 bt550.2.2.2.2.2.1).bind fun bt577 => ((laws_at.f l0 1).bind fun t579 => ((spec_Wide.f bt550.1 bt550.2.1).bind fun t580 => (if (wrap64 (t580 + 1)) = 0 then (none) else ((laws_at.f l0 2).bind fun t581 => (if (wrap64 ((wrap64 (bt575.1 - bt577.1)) + 1)) = 0 then (none) else (if bt571.2.2 = true then (if 0 ≤ bt565.1 then (if bt565.1 < (bt550.2.2.2.2.2.2.2.2.1.length : Int) then (if ((rd_T42 bt550.2.2.2.2.2.2.2.2.1 bt565.1).f0) = bt550.2.2.2.2.2.2.2.2.2 then (if bt571.1 ≤ (wrap64 (bt550.1 + (Int.tmod t579 (wrap64 (t580 + 1))))) then (if (wrap64 ((wrap64 (bt550.1 + (Int.tmod t579 (wrap64 (t580 + 1))))) + (wrap64 (bt577.1 + (Int.tmod t581 (wrap64 ((wrap64 (bt575.1 - bt577.1)) + 1))))))) ≤ bt571.2.1 then (some (decide (bt571.2.1 ≤ (wrap64 (bt571.1 + ((rd_T42 bt550.2.2.2.2.2.2.2.2.1 bt565.1).f1)))))) else (some false)) else (some false)) else (some false)) else (none)) else (none)) else (some false)))))))))) else (if bt565.1 = 0 then (some (bt565.2.1 == 0)) else (some false))) else (some false))))))) = some r := h
 clear h
 replace H := Option.bind_eq_some_iff.mp H
 obtain ⟨t549, A20, H⟩ := H
 replace H : (if t549 = true then (some true) else ((spec_DrawGateAsk.f k l0).bind fun bt550 => ((impl_GateAsk.f k bt550.1 bt550.2.1 bt550.2.2.1 bt550.2.2.2.1 bt550.2.2.2.2.1 bt550.2.2.2.2.2.1 bt550.2.2.2.2.2.2.1 bt550.2.2.2.2.2.2.2.1 bt550.2.2.2.2.2.2.2.2.1 bt550.2.2.2.2.2.2.2.2.2).bind fun bt565 => ((spec_GateAsk.f k bt550.1 bt550.2.1 bt550.2.2.1 bt550.2.2.2.1 bt550.2.2.2.2.1 bt550.2.2.2.2.2.1 bt550.2.2.2.2.2.2.1 bt550.2.2.2.2.2.2.2.1 bt550.2.2.2.2.2.2.2.2.1 bt550.2.2.2.2.2.2.2.2.2).bind fun bt568 => (if bt565.2.2 = bt568.2.2 then (if bt565.2.2 = 0 then ((impl_Occurrence.f k bt550.2.2.2.2.2.2.1 bt550.2.2.2.2.2.2.2.1 bt550.2.2.2.2.2.2.2.2.1 bt565.1 bt565.2.1).bind fun bt571 => ((spec_MostTime.f k bt550.2.2.2.1 bt550.2.2.2.2.1 bt550.2.2.2.2.2.1).bind fun bt575 => ((spec_LeastTime.f k bt550.2.2.2.1 bt550.2.2.2.2.1 bt550.2.2.2.2.2.1).bind fun bt577 => ((laws_at.f l0 1).bind fun t579 => ((spec_Wide.f bt550.1 bt550.2.1).bind fun t580 => (if (wrap64 (t580 + 1)) = 0 then (none) else ((laws_at.f l0 2).bind fun t581 => (if (wrap64 ((wrap64 (bt575.1 - bt577.1)) + 1)) = 0 then (none) else (if bt571.2.2 = true then (if 0 ≤ bt565.1 then (if bt565.1 < (bt550.2.2.2.2.2.2.2.2.1.length : Int) then (if ((rd_T42 bt550.2.2.2.2.2.2.2.2.1 bt565.1).f0) = bt550.2.2.2.2.2.2.2.2.2 then (if bt571.1 ≤ (wrap64 (bt550.1 + (Int.tmod t579 (wrap64 (t580 + 1))))) then (if (wrap64 ((wrap64 (bt550.1 + (Int.tmod t579 (wrap64 (t580 + 1))))) + (wrap64 (bt577.1 + (Int.tmod t581 (wrap64 ((wrap64 (bt575.1 - bt577.1)) + 1))))))) ≤ bt571.2.1 then (some (decide (bt571.2.1 ≤ (wrap64 (bt571.1 + ((rd_T42 bt550.2.2.2.2.2.2.2.2.1 bt565.1).f1)))))) else (some false)) else (some false)) else (some false)) else (none)) else (none)) else (some false)))))))))) else (if bt565.1 = 0 then (some (bt565.2.1 == 0)) else (some false))) else (some false)))))) = some r := H
 have A2 := Aside0.mk A20
 clear A20
 by_cases c3 : t549 = true
 ·subst c3
  have H1 : (some true) = some r := by rw [if_pos rfl] at H; exact H
  clear H
  have H := H1
  clear H1
  obtain rfl := Option.some.inj H
  go_enter Try.func3, Try.ntmps3
  go_wp2_with (first | ((with_reducible refine gate_callee (f := 8) rfl ?_); refine gl_ Try.func8 #[.slice A0 l0.length c0] ?_; (with_reducible refine (laws_big.calls _ _ l0 true _ ?side1 ?side2 A2.out).mono ?_); (case side1 => repeat (first | exact HR0.out | (with_reducible refine Kd.C_alloc ?_ _) | (with_reducible refine Kd.C_drewN ?_ _) | (with_reducible refine Kd.C_drew ?_))); (case side2 => exact HC0.out); rintro e w' ⟨rfl, ⟨nd, rfl⟩⟩; refine ⟨_, rfl, ?_⟩))
  go_ret
  exact ⟨er_, hb_ HB.out⟩
 ·replace c3 := Bool.eq_false_iff.mpr c3
  subst c3
  have H1 : ((spec_DrawGateAsk.f k l0).bind fun bt550 => ((impl_GateAsk.f k bt550.1 bt550.2.1 bt550.2.2.1 bt550.2.2.2.1 bt550.2.2.2.2.1 bt550.2.2.2.2.2.1 bt550.2.2.2.2.2.2.1 bt550.2.2.2.2.2.2.2.1 bt550.2.2.2.2.2.2.2.2.1 bt550.2.2.2.2.2.2.2.2.2).bind fun bt565 => ((spec_GateAsk.f k bt550.1 bt550.2.1 bt550.2.2.1 bt550.2.2.2.1 bt550.2.2.2.2.1 bt550.2.2.2.2.2.1 bt550.2.2.2.2.2.2.1 bt550.2.2.2.2.2.2.2.1 bt550.2.2.2.2.2.2.2.2.1 bt550.2.2.2.2.2.2.2.2.2).bind fun bt568 => (if bt565.2.2 = bt568.2.2 then (if bt565.2.2 = 0 then ((impl_Occurrence.f k bt550.2.2.2.2.2.2.1 bt550.2.2.2.2.2.2.2.1 bt550.2.2.2.2.2.2.2.2.1 bt565.1 bt565.2.1).bind fun bt571 => ((spec_MostTime.f k bt550.2.2.2.1 bt550.2.2.2.2.1 bt550.2.2.2.2.2.1).bind fun bt575 => ((spec_LeastTime.f k bt550.2.2.2.1 bt550.2.2.2.2.1 bt550.2.2.2.2.2.1).bind fun bt577 => ((laws_at.f l0 1).bind fun t579 => ((spec_Wide.f bt550.1 bt550.2.1).bind fun t580 => (if (wrap64 (t580 + 1)) = 0 then (none) else ((laws_at.f l0 2).bind fun t581 => (if (wrap64 ((wrap64 (bt575.1 - bt577.1)) + 1)) = 0 then (none) else (if bt571.2.2 = true then (if 0 ≤ bt565.1 then (if bt565.1 < (bt550.2.2.2.2.2.2.2.2.1.length : Int) then (if ((rd_T42 bt550.2.2.2.2.2.2.2.2.1 bt565.1).f0) = bt550.2.2.2.2.2.2.2.2.2 then (if bt571.1 ≤ (wrap64 (bt550.1 + (Int.tmod t579 (wrap64 (t580 + 1))))) then (if (wrap64 ((wrap64 (bt550.1 + (Int.tmod t579 (wrap64 (t580 + 1))))) + (wrap64 (bt577.1 + (Int.tmod t581 (wrap64 ((wrap64 (bt575.1 - bt577.1)) + 1))))))) ≤ bt571.2.1 then (some (decide (bt571.2.1 ≤ (wrap64 (bt571.1 + ((rd_T42 bt550.2.2.2.2.2.2.2.2.1 bt565.1).f1)))))) else (some false)) else (some false)) else (some false)) else (none)) else (none)) else (some false)))))))))) else (if bt565.1 = 0 then (some (bt565.2.1 == 0)) else (some false))) else (some false))))) = some r := by rw [if_neg (show ¬ (false = true) by decide)] at H; exact H
  clear H
  have H := H1
  clear H1
  replace H := Option.bind_eq_some_iff.mp H
  obtain ⟨⟨t550, t551, t552, t553, t554, t555, t556, t557, t558, t561⟩, A40, H⟩ := H
  replace H : ((impl_GateAsk.f k t550 t551 t552 t553 t554 t555 t556 t557 t558 t561).bind fun bt565 => ((spec_GateAsk.f k t550 t551 t552 t553 t554 t555 t556 t557 t558 t561).bind fun bt568 => (if bt565.2.2 = bt568.2.2 then (if bt565.2.2 = 0 then ((impl_Occurrence.f k t556 t557 t558 bt565.1 bt565.2.1).bind fun bt571 => ((spec_MostTime.f k t553 t554 t555).bind fun bt575 => ((spec_LeastTime.f k t553 t554 t555).bind fun bt577 => ((laws_at.f l0 1).bind fun t579 => ((spec_Wide.f t550 t551).bind fun t580 => (if (wrap64 (t580 + 1)) = 0 then (none) else ((laws_at.f l0 2).bind fun t581 => (if (wrap64 ((wrap64 (bt575.1 - bt577.1)) + 1)) = 0 then (none) else (if bt571.2.2 = true then (if 0 ≤ bt565.1 then (if bt565.1 < (t558.length : Int) then (if ((rd_T42 t558 bt565.1).f0) = t561 then (if bt571.1 ≤ (wrap64 (t550 + (Int.tmod t579 (wrap64 (t580 + 1))))) then (if (wrap64 ((wrap64 (t550 + (Int.tmod t579 (wrap64 (t580 + 1))))) + (wrap64 (bt577.1 + (Int.tmod t581 (wrap64 ((wrap64 (bt575.1 - bt577.1)) + 1))))))) ≤ bt571.2.1 then (some (decide (bt571.2.1 ≤ (wrap64 (bt571.1 + ((rd_T42 t558 bt565.1).f1)))))) else (some false)) else (some false)) else (some false)) else (none)) else (none)) else (some false)))))))))) else (if bt565.1 = 0 then (some (bt565.2.1 == 0)) else (some false))) else (some false)))) = some r := H
  have A4 := Aside0.mk A40
  clear A40
  replace H := Option.bind_eq_some_iff.mp H
  obtain ⟨⟨t565, t566, t567⟩, A50, H⟩ := H
  replace H : ((spec_GateAsk.f k t550 t551 t552 t553 t554 t555 t556 t557 t558 t561).bind fun bt568 => (if t567 = bt568.2.2 then (if t567 = 0 then ((impl_Occurrence.f k t556 t557 t558 t565 t566).bind fun bt571 => ((spec_MostTime.f k t553 t554 t555).bind fun bt575 => ((spec_LeastTime.f k t553 t554 t555).bind fun bt577 => ((laws_at.f l0 1).bind fun t579 => ((spec_Wide.f t550 t551).bind fun t580 => (if (wrap64 (t580 + 1)) = 0 then (none) else ((laws_at.f l0 2).bind fun t581 => (if (wrap64 ((wrap64 (bt575.1 - bt577.1)) + 1)) = 0 then (none) else (if bt571.2.2 = true then (if 0 ≤ t565 then (if t565 < (t558.length : Int) then (if ((rd_T42 t558 t565).f0) = t561 then (if bt571.1 ≤ (wrap64 (t550 + (Int.tmod t579 (wrap64 (t580 + 1))))) then (if (wrap64 ((wrap64 (t550 + (Int.tmod t579 (wrap64 (t580 + 1))))) + (wrap64 (bt577.1 + (Int.tmod t581 (wrap64 ((wrap64 (bt575.1 - bt577.1)) + 1))))))) ≤ bt571.2.1 then (some (decide (bt571.2.1 ≤ (wrap64 (bt571.1 + ((rd_T42 t558 t565).f1)))))) else (some false)) else (some false)) else (some false)) else (none)) else (none)) else (some false)))))))))) else (if t565 = 0 then (some (t566 == 0)) else (some false))) else (some false))) = some r := H
  have A5 := Aside0.mk A50
  clear A50
  replace H := Option.bind_eq_some_iff.mp H
  obtain ⟨⟨t568, t569, t570⟩, A60, H⟩ := H
  replace H : (if t567 = t570 then (if t567 = 0 then ((impl_Occurrence.f k t556 t557 t558 t565 t566).bind fun bt571 => ((spec_MostTime.f k t553 t554 t555).bind fun bt575 => ((spec_LeastTime.f k t553 t554 t555).bind fun bt577 => ((laws_at.f l0 1).bind fun t579 => ((spec_Wide.f t550 t551).bind fun t580 => (if (wrap64 (t580 + 1)) = 0 then (none) else ((laws_at.f l0 2).bind fun t581 => (if (wrap64 ((wrap64 (bt575.1 - bt577.1)) + 1)) = 0 then (none) else (if bt571.2.2 = true then (if 0 ≤ t565 then (if t565 < (t558.length : Int) then (if ((rd_T42 t558 t565).f0) = t561 then (if bt571.1 ≤ (wrap64 (t550 + (Int.tmod t579 (wrap64 (t580 + 1))))) then (if (wrap64 ((wrap64 (t550 + (Int.tmod t579 (wrap64 (t580 + 1))))) + (wrap64 (bt577.1 + (Int.tmod t581 (wrap64 ((wrap64 (bt575.1 - bt577.1)) + 1))))))) ≤ bt571.2.1 then (some (decide (bt571.2.1 ≤ (wrap64 (bt571.1 + ((rd_T42 t558 t565).f1)))))) else (some false)) else (some false)) else (some false)) else (none)) else (none)) else (some false)))))))))) else (if t565 = 0 then (some (t566 == 0)) else (some false))) else (some false)) = some r := H
  have A6 := Aside0.mk A60
  clear A60
  by_cases c7 : t567 = t570
  ·rw [if_pos c7] at H
   have c7b0 : (t567 == t570) = true := beq_iff_eq.mpr c7
   have c7b1 : (t567 != t570) = false := bne_eq_false_iff_eq.mpr c7
   clear c7
   by_cases c8 : t567 = 0
   ·rw [if_pos c8] at H
    have c8b0 : (t567 == 0) = true := beq_iff_eq.mpr c8
    have c8b1 : (t567 != 0) = false := bne_eq_false_iff_eq.mpr c8
    clear c8
    replace H := Option.bind_eq_some_iff.mp H
    obtain ⟨⟨t571, t572, t573⟩, A90, H⟩ := H
    replace H : ((spec_MostTime.f k t553 t554 t555).bind fun bt575 => ((spec_LeastTime.f k t553 t554 t555).bind fun bt577 => ((laws_at.f l0 1).bind fun t579 => ((spec_Wide.f t550 t551).bind fun t580 => (if (wrap64 (t580 + 1)) = 0 then (none) else ((laws_at.f l0 2).bind fun t581 => (if (wrap64 ((wrap64 (bt575.1 - bt577.1)) + 1)) = 0 then (none) else (if t573 = true then (if 0 ≤ t565 then (if t565 < (t558.length : Int) then (if ((rd_T42 t558 t565).f0) = t561 then (if t571 ≤ (wrap64 (t550 + (Int.tmod t579 (wrap64 (t580 + 1))))) then (if (wrap64 ((wrap64 (t550 + (Int.tmod t579 (wrap64 (t580 + 1))))) + (wrap64 (bt577.1 + (Int.tmod t581 (wrap64 ((wrap64 (bt575.1 - bt577.1)) + 1))))))) ≤ t572 then (some (decide (t572 ≤ (wrap64 (t571 + ((rd_T42 t558 t565).f1)))))) else (some false)) else (some false)) else (some false)) else (none)) else (none)) else (some false))))))))) = some r := H
    have A9 := Aside0.mk A90
    clear A90
    replace H := Option.bind_eq_some_iff.mp H
    obtain ⟨⟨t575, t576⟩, A100, H⟩ := H
    replace H : ((spec_LeastTime.f k t553 t554 t555).bind fun bt577 => ((laws_at.f l0 1).bind fun t579 => ((spec_Wide.f t550 t551).bind fun t580 => (if (wrap64 (t580 + 1)) = 0 then (none) else ((laws_at.f l0 2).bind fun t581 => (if (wrap64 ((wrap64 (t575 - bt577.1)) + 1)) = 0 then (none) else (if t573 = true then (if 0 ≤ t565 then (if t565 < (t558.length : Int) then (if ((rd_T42 t558 t565).f0) = t561 then (if t571 ≤ (wrap64 (t550 + (Int.tmod t579 (wrap64 (t580 + 1))))) then (if (wrap64 ((wrap64 (t550 + (Int.tmod t579 (wrap64 (t580 + 1))))) + (wrap64 (bt577.1 + (Int.tmod t581 (wrap64 ((wrap64 (t575 - bt577.1)) + 1))))))) ≤ t572 then (some (decide (t572 ≤ (wrap64 (t571 + ((rd_T42 t558 t565).f1)))))) else (some false)) else (some false)) else (some false)) else (none)) else (none)) else (some false)))))))) = some r := H
    have A10 := Aside0.mk A100
    clear A100
    replace H := Option.bind_eq_some_iff.mp H
    obtain ⟨⟨t577, t578⟩, A110, H⟩ := H
    replace H : ((laws_at.f l0 1).bind fun t579 => ((spec_Wide.f t550 t551).bind fun t580 => (if (wrap64 (t580 + 1)) = 0 then (none) else ((laws_at.f l0 2).bind fun t581 => (if (wrap64 ((wrap64 (t575 - t577)) + 1)) = 0 then (none) else (if t573 = true then (if 0 ≤ t565 then (if t565 < (t558.length : Int) then (if ((rd_T42 t558 t565).f0) = t561 then (if t571 ≤ (wrap64 (t550 + (Int.tmod t579 (wrap64 (t580 + 1))))) then (if (wrap64 ((wrap64 (t550 + (Int.tmod t579 (wrap64 (t580 + 1))))) + (wrap64 (t577 + (Int.tmod t581 (wrap64 ((wrap64 (t575 - t577)) + 1))))))) ≤ t572 then (some (decide (t572 ≤ (wrap64 (t571 + ((rd_T42 t558 t565).f1)))))) else (some false)) else (some false)) else (some false)) else (none)) else (none)) else (some false))))))) = some r := H
    have A11 := Aside0.mk A110
    clear A110
    replace H := Option.bind_eq_some_iff.mp H
    obtain ⟨t579, A120, H⟩ := H
    replace H : ((spec_Wide.f t550 t551).bind fun t580 => (if (wrap64 (t580 + 1)) = 0 then (none) else ((laws_at.f l0 2).bind fun t581 => (if (wrap64 ((wrap64 (t575 - t577)) + 1)) = 0 then (none) else (if t573 = true then (if 0 ≤ t565 then (if t565 < (t558.length : Int) then (if ((rd_T42 t558 t565).f0) = t561 then (if t571 ≤ (wrap64 (t550 + (Int.tmod t579 (wrap64 (t580 + 1))))) then (if (wrap64 ((wrap64 (t550 + (Int.tmod t579 (wrap64 (t580 + 1))))) + (wrap64 (t577 + (Int.tmod t581 (wrap64 ((wrap64 (t575 - t577)) + 1))))))) ≤ t572 then (some (decide (t572 ≤ (wrap64 (t571 + ((rd_T42 t558 t565).f1)))))) else (some false)) else (some false)) else (some false)) else (none)) else (none)) else (some false)))))) = some r := H
    have A12 := Aside0.mk A120
    clear A120
    replace H := Option.bind_eq_some_iff.mp H
    obtain ⟨t580, A130, H⟩ := H
    replace H : (if (wrap64 (t580 + 1)) = 0 then (none) else ((laws_at.f l0 2).bind fun t581 => (if (wrap64 ((wrap64 (t575 - t577)) + 1)) = 0 then (none) else (if t573 = true then (if 0 ≤ t565 then (if t565 < (t558.length : Int) then (if ((rd_T42 t558 t565).f0) = t561 then (if t571 ≤ (wrap64 (t550 + (Int.tmod t579 (wrap64 (t580 + 1))))) then (if (wrap64 ((wrap64 (t550 + (Int.tmod t579 (wrap64 (t580 + 1))))) + (wrap64 (t577 + (Int.tmod t581 (wrap64 ((wrap64 (t575 - t577)) + 1))))))) ≤ t572 then (some (decide (t572 ≤ (wrap64 (t571 + ((rd_T42 t558 t565).f1)))))) else (some false)) else (some false)) else (some false)) else (none)) else (none)) else (some false))))) = some r := H
    have A13 := Aside0.mk A130
    clear A130
    by_cases c14 : (wrap64 (t580 + 1)) = 0
    ·rw [if_pos c14] at H
     exact absurd H (by simp)
    ·rw [if_neg c14] at H
     have c14b0 : ((wrap64 (t580 + 1)) == 0) = false := beq_eq_false_iff_ne.mpr c14
     have c14b1 : ((wrap64 (t580 + 1)) != 0) = true := bne_iff_ne.mpr c14
     replace H := Option.bind_eq_some_iff.mp H
     obtain ⟨t581, A150, H⟩ := H
     replace H : (if (wrap64 ((wrap64 (t575 - t577)) + 1)) = 0 then (none) else (if t573 = true then (if 0 ≤ t565 then (if t565 < (t558.length : Int) then (if ((rd_T42 t558 t565).f0) = t561 then (if t571 ≤ (wrap64 (t550 + (Int.tmod t579 (wrap64 (t580 + 1))))) then (if (wrap64 ((wrap64 (t550 + (Int.tmod t579 (wrap64 (t580 + 1))))) + (wrap64 (t577 + (Int.tmod t581 (wrap64 ((wrap64 (t575 - t577)) + 1))))))) ≤ t572 then (some (decide (t572 ≤ (wrap64 (t571 + ((rd_T42 t558 t565).f1)))))) else (some false)) else (some false)) else (some false)) else (none)) else (none)) else (some false))) = some r := H
     have A15 := Aside0.mk A150
     clear A150
     by_cases c16 : (wrap64 ((wrap64 (t575 - t577)) + 1)) = 0
     ·rw [if_pos c16] at H
      exact absurd H (by simp)
     ·rw [if_neg c16] at H
      have c16b0 : ((wrap64 ((wrap64 (t575 - t577)) + 1)) == 0) = false := beq_eq_false_iff_ne.mpr c16
      have c16b1 : ((wrap64 ((wrap64 (t575 - t577)) + 1)) != 0) = true := bne_iff_ne.mpr c16
      by_cases c17 : t573 = true
      ·subst c17
       have H1 : (if 0 ≤ t565 then (if t565 < (t558.length : Int) then (if ((rd_T42 t558 t565).f0) = t561 then (if t571 ≤ (wrap64 (t550 + (Int.tmod t579 (wrap64 (t580 + 1))))) then (if (wrap64 ((wrap64 (t550 + (Int.tmod t579 (wrap64 (t580 + 1))))) + (wrap64 (t577 + (Int.tmod t581 (wrap64 ((wrap64 (t575 - t577)) + 1))))))) ≤ t572 then (some (decide (t572 ≤ (wrap64 (t571 + ((rd_T42 t558 t565).f1)))))) else (some false)) else (some false)) else (some false)) else (none)) else (none)) = some r := by rw [if_pos rfl] at H; exact H
       clear H
       have H := H1
       clear H1
       by_cases c18 : 0 ≤ t565
       ·rw [if_pos c18] at H
        have c18b0 : decide (0 ≤ t565) = true := decide_eq_true c18
        clear c18
        by_cases c19 : t565 < (t558.length : Int)
        ·rw [if_pos c19] at H
         have c19b0 : decide (t565 < (t558.length : Int)) = true := decide_eq_true c19
         clear c19
         by_cases c20 : ((rd_T42 t558 t565).f0) = t561
         ·rw [if_pos c20] at H
          have c20b0 : (((rd_T42 t558 t565).f0) == t561) = true := beq_iff_eq.mpr c20
          have c20b1 : (((rd_T42 t558 t565).f0) != t561) = false := bne_eq_false_iff_eq.mpr c20
          clear c20
          by_cases c21 : t571 ≤ (wrap64 (t550 + (Int.tmod t579 (wrap64 (t580 + 1)))))
          ·rw [if_pos c21] at H
           have c21b0 : decide (t571 ≤ (wrap64 (t550 + (Int.tmod t579 (wrap64 (t580 + 1)))))) = true := decide_eq_true c21
           clear c21
           by_cases c22 : (wrap64 ((wrap64 (t550 + (Int.tmod t579 (wrap64 (t580 + 1))))) + (wrap64 (t577 + (Int.tmod t581 (wrap64 ((wrap64 (t575 - t577)) + 1))))))) ≤ t572
           ·rw [if_pos c22] at H
            have c22b0 : decide ((wrap64 ((wrap64 (t550 + (Int.tmod t579 (wrap64 (t580 + 1))))) + (wrap64 (t577 + (Int.tmod t581 (wrap64 ((wrap64 (t575 - t577)) + 1))))))) ≤ t572) = true := decide_eq_true c22
            clear c22
            obtain rfl := Option.some.inj H
            go_enter Try.func3, Try.ntmps3
            try go_wp2_with (first | ((with_reducible refine gate_callee (f := 8) rfl ?_); refine gl_ Try.func8 #[.slice A0 l0.length c0] ?_; (with_reducible refine (laws_big.calls _ _ l0 false _ ?side1 ?side2 A2.out).mono ?_); (case side1 => repeat (first | exact HR0.out | (with_reducible refine Kd.C_alloc ?_ _) | (with_reducible refine Kd.C_drewN ?_ _) | (with_reducible refine Kd.C_drew ?_))); (case side2 => exact HC0.out); rintro e w' ⟨rfl, ⟨nd, rfl⟩⟩; refine ⟨_, rfl, ?_⟩) | ((with_reducible refine gate_callee (f := 9) rfl ?_); refine gl_ Try.func9 #[.slice A0 l0.length c0] ?_; (with_reducible refine (spec_DrawGateAsk.calls k _ _ l0 t550 t551 t552 t553 t554 t555 t556 t557 t558 t561 _ ?side1 ?side2 A4.out).mono ?_); (case side1 => repeat (first | exact HR0.out | (with_reducible refine Kd.C_alloc ?_ _) | (with_reducible refine Kd.C_drewN ?_ _) | (with_reducible refine Kd.C_drew ?_))); (case side2 => exact HC0.out); rintro e w23 ⟨v559, rfl, ho0, hb⟩; refine ⟨_, rfl, ?_⟩; have HO560 := am_ (Kd.R_lower ho0 (below_size (hb_ HB.out))); replace HB := am_ (below_step (hb_ HB.out) hb); (try clear hb); (try clear hb2); (try clear hk); (try clear hi); (try clear ho0)) | ((with_reducible refine gate_dst (N := 3) rfl ?_); refine be_ (N := 3) (cs := #[.int .i64 0, .int .i64 0]) (t := 25) ?_; intro gb562 hg w24 hbox hb; have BK562 := am_ (hbox); have GW562 := am_ (hy_ hg (hb_ HB.out) : w.heap.size ≤ gb562); have GE562 := GW562; replace HO560 := am_ (Kd.R_below (by (with_reducible repeat (first | apply Kd.R_alloc | apply Kd.R_drewN | apply Kd.R_drew)); exact HO560.out) hb); replace HB := am_ (below_step (hb_ HB.out) hb); clear hb hbox hg) | ((with_reducible refine gate_dst (N := 5) rfl ?_); refine be_ (N := 5) (cs := #[.int .i64 0, .int .i64 0]) (t := 27) ?_; intro gb563 hg w25 hbox hb; have BK563 := am_ (hbox); have GW563 := am_ (hy_ hg (hb1_ HB.out GE562.out) : w.heap.size ≤ gb563); have GE563 := GW563; have NB562_563 := am_ (bl_ hg BK562.out : gb562 ≠ gb563); have NB563_562 := nb_ NB562_563; replace HO560 := am_ (Kd.R_below (by (with_reducible repeat (first | apply Kd.R_alloc | apply Kd.R_drewN | apply Kd.R_drew)); exact HO560.out) hb); replace BK562 := am_ (bb_ BK562.out hb); replace HB := am_ (below_step (hb1_ HB.out GE562.out) hb); clear hb hbox hg) | ((with_reducible refine gate_dst (N := 7) rfl ?_); refine be_ (N := 7) (cs := #[.int .i64 0, .int .i64 0, .slice none 0 0]) (t := 30) ?_; intro gb564 hg w26 hbox hb; have BK564 := am_ (hbox); have GW564 := am_ (hy_ hg (hb2_ HB.out GE562.out GE563.out) : w.heap.size ≤ gb564); have GE564 := GW564; have NB562_564 := am_ (bl_ hg BK562.out : gb562 ≠ gb564); have NB564_562 := nb_ NB562_564; have NB563_564 := am_ (bl_ hg BK563.out : gb563 ≠ gb564); have NB564_563 := nb_ NB563_564; replace HO560 := am_ (Kd.R_below (by (with_reducible repeat (first | apply Kd.R_alloc | apply Kd.R_drewN | apply Kd.R_drew)); exact HO560.out) hb); replace BK562 := am_ (bb_ BK562.out hb); replace BK563 := am_ (bb_ BK563.out hb); replace HB := am_ (below_step (hb2_ HB.out GE562.out GE563.out) hb); clear hb hbox hg; have hnb27 := NB562_563.out; have hnc27 := NB563_562.out; have hnb28 := NB562_564.out; have hnc28 := NB564_562.out; obtain ⟨hcz29_0, hcz29_1, hfz29_0, hfz29_1⟩ := bc2_ BK562.out; have hnb30 := NB563_564.out; have hnc30 := NB564_563.out; obtain ⟨hcz31_0, hcz31_1, hfz31_0, hfz31_1⟩ := bc2_ BK563.out; obtain ⟨hcz32_0, hcz32_1, hcz32_2, hfz32_0, hfz32_1, hfz32_2⟩ := bc3_ BK564.out; obtain ⟨Ao33, co33, eo33⟩ := Kd.R_slice HO560.out; subst eo33) | ((with_reducible refine gate_callee (f := 10) rfl ?_); refine gl_ Try.func10 #[.agg #[.int .i64 t550, .int .i64 t551], .bool t552, .agg #[.int .i64 t553, .int .i64 t554], .int .i64 t555, .agg #[.int .i64 t556, .int .i64 t557, .slice Ao33 t558.length co33], .int .i64 t561] ?_; (with_reducible refine (impl_GateAsk.calls k t550 t551 t552 t553 t554 t555 t556 t557 _ _ t558 t561 t565 t566 t567 _ ?side1 ?side2 A5.out).mono ?_); (case side1 => refine (Kd.R_reads' (e := 42) (base := w.heap.size) (ok := fun k_ => True) (n := t558.length) (c := co33) ?_).2.2; exact (by (with_reducible repeat (first | apply Kd.R_alloc | apply Kd.R_drewN | apply Kd.R_drew)); exact (Kd.R_mono (Kd.R_mono (Kd.R_mono (Kd.R_far (p := ⟨gb564, 2, none⟩) (Kd.R_far (p := ⟨gb564, 1, none⟩) (Kd.R_far (p := ⟨gb564, 0, none⟩) (Kd.R_far (p := ⟨gb563, 1, none⟩) (Kd.R_far (p := ⟨gb563, 0, none⟩) (Kd.R_far (p := ⟨gb562, 1, none⟩) (Kd.R_far (p := ⟨gb562, 0, none⟩) (Kd.R_types (Kd.R_types (Kd.R_types HO560.out BK562.out (by decide)) BK563.out (by decide)) BK564.out (by decide)) (fun _ hk => hk.1.1.2) (.int .i64 t550)) (fun _ hk => hk.1.1.2) (.int .i64 t551)) (fun _ hk => hk.1.2) (.int .i64 t553)) (fun _ hk => hk.1.2) (.int .i64 t554)) (fun _ hk => hk.2) (.int .i64 t556)) (fun _ hk => hk.2) (.int .i64 t557)) (fun _ hk => hk.2) (.slice Ao33 t558.length co33)) (fun _ h_ => h_.1)) (fun _ h_ => h_.1)) (fun _ h_ => h_.1)))); (case side2 => exact (Kd.R_reads' HO560.out).2.1); rintro e w34 ⟨rfl, hb⟩; refine ⟨_, rfl, ?_⟩; replace HO560 := am_ (Kd.R_below (by (with_reducible repeat (first | apply Kd.R_alloc | apply Kd.R_drewN | apply Kd.R_drew)); exact (Kd.R_mono (Kd.R_mono (Kd.R_mono (Kd.R_far (p := ⟨gb564, 2, none⟩) (Kd.R_far (p := ⟨gb564, 1, none⟩) (Kd.R_far (p := ⟨gb564, 0, none⟩) (Kd.R_far (p := ⟨gb563, 1, none⟩) (Kd.R_far (p := ⟨gb563, 0, none⟩) (Kd.R_far (p := ⟨gb562, 1, none⟩) (Kd.R_far (p := ⟨gb562, 0, none⟩) (Kd.R_types (Kd.R_types (Kd.R_types HO560.out BK562.out (by decide)) BK563.out (by decide)) BK564.out (by decide)) (fun _ hk => hk.1.1.2) (.int .i64 t550)) (fun _ hk => hk.1.1.2) (.int .i64 t551)) (fun _ hk => hk.1.2) (.int .i64 t553)) (fun _ hk => hk.1.2) (.int .i64 t554)) (fun _ hk => hk.2) (.int .i64 t556)) (fun _ hk => hk.2) (.int .i64 t557)) (fun _ hk => hk.2) (.slice Ao33 t558.length co33)) (fun _ h_ => h_.1)) (fun _ h_ => h_.1)) (fun _ h_ => h_.1))) hb); replace BK562 := am_ (blk_below (g := gb562) (o := .cells #[.int .i64 t550, .int .i64 t551] 25 (0, 0)) (by (with_reducible repeat (first | refine blk_drewN ?_ _ | refine blk_drew ?_ | refine blk_alloc ?_ _)); refine blk_far ?_ NB562_564.out _; (with_reducible repeat (first | refine blk_drewN ?_ _ | refine blk_drew ?_ | refine blk_alloc ?_ _)); refine blk_far ?_ NB562_564.out _; (with_reducible repeat (first | refine blk_drewN ?_ _ | refine blk_drew ?_ | refine blk_alloc ?_ _)); refine blk_far ?_ NB562_564.out _; (with_reducible repeat (first | refine blk_drewN ?_ _ | refine blk_drew ?_ | refine blk_alloc ?_ _)); refine blk_far ?_ NB562_563.out _; (with_reducible repeat (first | refine blk_drewN ?_ _ | refine blk_drew ?_ | refine blk_alloc ?_ _)); refine blk_far ?_ NB562_563.out _; (with_reducible repeat (first | refine blk_drewN ?_ _ | refine blk_drew ?_ | refine blk_alloc ?_ _)); refine blk_put (cs := #[.int .i64 t550, .int .i64 0]) ?_ 1 _ rfl; (with_reducible repeat (first | refine blk_drewN ?_ _ | refine blk_drew ?_ | refine blk_alloc ?_ _)); refine blk_put (cs := #[.int .i64 0, .int .i64 0]) ?_ 0 _ rfl; (with_reducible repeat (first | refine blk_drewN ?_ _ | refine blk_drew ?_ | refine blk_alloc ?_ _)); exact BK562.out) hb); replace BK563 := am_ (blk_below (g := gb563) (o := .cells #[.int .i64 t553, .int .i64 t554] 27 (0, 0)) (by (with_reducible repeat (first | refine blk_drewN ?_ _ | refine blk_drew ?_ | refine blk_alloc ?_ _)); refine blk_far ?_ NB563_564.out _; (with_reducible repeat (first | refine blk_drewN ?_ _ | refine blk_drew ?_ | refine blk_alloc ?_ _)); refine blk_far ?_ NB563_564.out _; (with_reducible repeat (first | refine blk_drewN ?_ _ | refine blk_drew ?_ | refine blk_alloc ?_ _)); refine blk_far ?_ NB563_564.out _; (with_reducible repeat (first | refine blk_drewN ?_ _ | refine blk_drew ?_ | refine blk_alloc ?_ _)); refine blk_put (cs := #[.int .i64 t553, .int .i64 0]) ?_ 1 _ rfl; (with_reducible repeat (first | refine blk_drewN ?_ _ | refine blk_drew ?_ | refine blk_alloc ?_ _)); refine blk_put (cs := #[.int .i64 0, .int .i64 0]) ?_ 0 _ rfl; (with_reducible repeat (first | refine blk_drewN ?_ _ | refine blk_drew ?_ | refine blk_alloc ?_ _)); refine blk_far ?_ NB563_562.out _; (with_reducible repeat (first | refine blk_drewN ?_ _ | refine blk_drew ?_ | refine blk_alloc ?_ _)); refine blk_far ?_ NB563_562.out _; (with_reducible repeat (first | refine blk_drewN ?_ _ | refine blk_drew ?_ | refine blk_alloc ?_ _)); exact BK563.out) hb); replace BK564 := am_ (blk_below (g := gb564) (o := .cells #[.int .i64 t556, .int .i64 t557, .slice Ao33 t558.length co33] 30 (0, 0)) (by (with_reducible repeat (first | refine blk_drewN ?_ _ | refine blk_drew ?_ | refine blk_alloc ?_ _)); refine blk_put (cs := #[.int .i64 t556, .int .i64 t557, .slice none 0 0]) ?_ 2 _ rfl; (with_reducible repeat (first | refine blk_drewN ?_ _ | refine blk_drew ?_ | refine blk_alloc ?_ _)); refine blk_put (cs := #[.int .i64 t556, .int .i64 0, .slice none 0 0]) ?_ 1 _ rfl; (with_reducible repeat (first | refine blk_drewN ?_ _ | refine blk_drew ?_ | refine blk_alloc ?_ _)); refine blk_put (cs := #[.int .i64 0, .int .i64 0, .slice none 0 0]) ?_ 0 _ rfl; (with_reducible repeat (first | refine blk_drewN ?_ _ | refine blk_drew ?_ | refine blk_alloc ?_ _)); refine blk_far ?_ NB564_563.out _; (with_reducible repeat (first | refine blk_drewN ?_ _ | refine blk_drew ?_ | refine blk_alloc ?_ _)); refine blk_far ?_ NB564_563.out _; (with_reducible repeat (first | refine blk_drewN ?_ _ | refine blk_drew ?_ | refine blk_alloc ?_ _)); refine blk_far ?_ NB564_562.out _; (with_reducible repeat (first | refine blk_drewN ?_ _ | refine blk_drew ?_ | refine blk_alloc ?_ _)); refine blk_far ?_ NB564_562.out _; (with_reducible repeat (first | refine blk_drewN ?_ _ | refine blk_drew ?_ | refine blk_alloc ?_ _)); exact BK564.out) hb); replace HB := am_ (below_step (hb3_ HB.out GE562.out GE563.out GE564.out) hb); (try clear hb); (try clear hb2); (try clear hk); (try clear hi); obtain ⟨hcz35_0, hcz35_1, hfz35_0, hfz35_1⟩ := bc2_ BK562.out; obtain ⟨hcz36_0, hcz36_1, hfz36_0, hfz36_1⟩ := bc2_ BK563.out; obtain ⟨hcz37_0, hcz37_1, hcz37_2, hfz37_0, hfz37_1, hfz37_2⟩ := bc3_ BK564.out) | ((with_reducible refine gate_callee (f := 11) rfl ?_); refine gl_ Try.func11 #[.agg #[.int .i64 t550, .int .i64 t551], .bool t552, .agg #[.int .i64 t553, .int .i64 t554], .int .i64 t555, .agg #[.int .i64 t556, .int .i64 t557, .slice Ao33 t558.length co33], .int .i64 t561] ?_; (with_reducible refine (spec_GateAsk.calls k t550 t551 t552 t553 t554 t555 t556 t557 _ _ t558 t561 t568 t569 t570 _ ?side1 ?side2 A6.out).mono ?_); (case side1 => repeat (first | exact (Kd.R_reads' HO560.out).2.2 | (with_reducible refine Kd.C_alloc ?_ _) | (with_reducible refine Kd.C_drewN ?_ _) | (with_reducible refine Kd.C_drew ?_))); (case side2 => exact (Kd.R_reads' HO560.out).2.1); rintro e w38 ⟨rfl, hb⟩; refine ⟨_, rfl, ?_⟩; replace HO560 := am_ (Kd.R_below (by (with_reducible repeat (first | apply Kd.R_alloc | apply Kd.R_drewN | apply Kd.R_drew)); exact HO560.out) hb); replace BK562 := am_ (bb_ BK562.out hb); replace BK563 := am_ (bb_ BK563.out hb); replace BK564 := am_ (bb_ BK564.out hb); replace HB := am_ (below_step (hb3_ HB.out GE562.out GE563.out GE564.out) hb); (try clear hb); (try clear hb2); (try clear hk); (try clear hi); obtain ⟨hcz39_0, hcz39_1, hcz39_2, hfz39_0, hfz39_1, hfz39_2⟩ := bc3_ BK564.out) | ((with_reducible refine gate_callee (f := 12) rfl ?_); refine gl_ Try.func12 #[.agg #[.int .i64 t556, .int .i64 t557, .slice Ao33 t558.length co33], .int .i64 t565, .int .i64 t566] ?_; (with_reducible refine (impl_Occurrence.calls k t556 t557 _ _ t558 t565 t566 t571 t572 true _ ?side1 ?side2 A9.out).mono ?_); (case side1 => repeat (first | exact (Kd.R_reads' HO560.out).2.2 | (with_reducible refine Kd.C_alloc ?_ _) | (with_reducible refine Kd.C_drewN ?_ _) | (with_reducible refine Kd.C_drew ?_))); (case side2 => exact (Kd.R_reads' HO560.out).2.1); rintro e w40 ⟨rfl, hb⟩; refine ⟨_, rfl, ?_⟩; replace HO560 := am_ (Kd.R_below (by (with_reducible repeat (first | apply Kd.R_alloc | apply Kd.R_drewN | apply Kd.R_drew)); exact HO560.out) hb); replace BK562 := am_ (bb_ BK562.out hb); replace BK563 := am_ (bb_ BK563.out hb); replace BK564 := am_ (bb_ BK564.out hb); replace HB := am_ (below_step (hb3_ HB.out GE562.out GE563.out GE564.out) hb); (try clear hb); (try clear hb2); (try clear hk); (try clear hi)) | ((with_reducible refine gate_dst (N := 15) rfl ?_); refine be_ (N := 15) (cs := #[.int .i64 0, .int .i64 0]) (t := 25) ?_; intro gb574 hg w41 hbox hb; have BK574 := am_ (hbox); have GW574 := am_ (hy_ hg (hb3_ HB.out GE562.out GE563.out GE564.out) : w.heap.size ≤ gb574); have GE574 := GW574; have NB562_574 := am_ (bl_ hg BK562.out : gb562 ≠ gb574); have NB574_562 := nb_ NB562_574; have NB563_574 := am_ (bl_ hg BK563.out : gb563 ≠ gb574); have NB574_563 := nb_ NB563_574; have NB564_574 := am_ (bl_ hg BK564.out : gb564 ≠ gb574); have NB574_564 := nb_ NB564_574; replace HO560 := am_ (Kd.R_below (by (with_reducible repeat (first | apply Kd.R_alloc | apply Kd.R_drewN | apply Kd.R_drew)); exact HO560.out) hb); replace BK562 := am_ (bb_ BK562.out hb); replace BK563 := am_ (bb_ BK563.out hb); replace BK564 := am_ (bb_ BK564.out hb); replace HB := am_ (below_step (hb3_ HB.out GE562.out GE563.out GE564.out) hb); clear hb hbox hg; have hnb42 := NB574_562.out; have hnc42 := NB562_574.out; have hnb43 := NB574_563.out; have hnc43 := NB563_574.out; have hnb44 := NB574_564.out; have hnc44 := NB564_574.out; obtain ⟨hcz45_0, hcz45_1, hfz45_0, hfz45_1⟩ := bc2_ BK574.out; obtain ⟨hcz46_0, hcz46_1, hfz46_0, hfz46_1⟩ := bc2_ BK563.out) | ((with_reducible refine gate_callee (f := 13) rfl ?_); refine gl_ Try.func13 #[.agg #[.int .i64 t553, .int .i64 t554], .int .i64 t555] ?_; (with_reducible refine (spec_MostTime.calls k t553 t554 t555 t575 t576 _ A10.out).mono ?_); rintro e w47 ⟨rfl, hb⟩; refine ⟨_, rfl, ?_⟩; replace HO560 := am_ (Kd.R_below (by (with_reducible repeat (first | apply Kd.R_alloc | apply Kd.R_drewN | apply Kd.R_drew)); exact (Kd.R_mono (Kd.R_far (p := ⟨gb574, 1, none⟩) (Kd.R_far (p := ⟨gb574, 0, none⟩) (Kd.R_types HO560.out BK574.out (by decide)) (fun _ hk => hk.2) (.int .i64 t571)) (fun _ hk => hk.2) (.int .i64 t572)) (fun _ h_ => h_.1))) hb); replace BK562 := am_ (blk_below (g := gb562) (o := .cells #[.int .i64 t550, .int .i64 t551] 25 (0, 0)) (by (with_reducible repeat (first | refine blk_drewN ?_ _ | refine blk_drew ?_ | refine blk_alloc ?_ _)); refine blk_far ?_ NB562_574.out _; (with_reducible repeat (first | refine blk_drewN ?_ _ | refine blk_drew ?_ | refine blk_alloc ?_ _)); refine blk_far ?_ NB562_574.out _; (with_reducible repeat (first | refine blk_drewN ?_ _ | refine blk_drew ?_ | refine blk_alloc ?_ _)); exact BK562.out) hb); replace BK563 := am_ (blk_below (g := gb563) (o := .cells #[.int .i64 t553, .int .i64 t554] 27 (0, 0)) (by (with_reducible repeat (first | refine blk_drewN ?_ _ | refine blk_drew ?_ | refine blk_alloc ?_ _)); refine blk_far ?_ NB563_574.out _; (with_reducible repeat (first | refine blk_drewN ?_ _ | refine blk_drew ?_ | refine blk_alloc ?_ _)); refine blk_far ?_ NB563_574.out _; (with_reducible repeat (first | refine blk_drewN ?_ _ | refine blk_drew ?_ | refine blk_alloc ?_ _)); exact BK563.out) hb); replace BK564 := am_ (blk_below (g := gb564) (o := .cells #[.int .i64 t556, .int .i64 t557, .slice Ao33 t558.length co33] 30 (0, 0)) (by (with_reducible repeat (first | refine blk_drewN ?_ _ | refine blk_drew ?_ | refine blk_alloc ?_ _)); refine blk_far ?_ NB564_574.out _; (with_reducible repeat (first | refine blk_drewN ?_ _ | refine blk_drew ?_ | refine blk_alloc ?_ _)); refine blk_far ?_ NB564_574.out _; (with_reducible repeat (first | refine blk_drewN ?_ _ | refine blk_drew ?_ | refine blk_alloc ?_ _)); exact BK564.out) hb); replace BK574 := am_ (blk_below (g := gb574) (o := .cells #[.int .i64 t571, .int .i64 t572] 25 (0, 0)) (by (with_reducible repeat (first | refine blk_drewN ?_ _ | refine blk_drew ?_ | refine blk_alloc ?_ _)); refine blk_put (cs := #[.int .i64 t571, .int .i64 0]) ?_ 1 _ rfl; (with_reducible repeat (first | refine blk_drewN ?_ _ | refine blk_drew ?_ | refine blk_alloc ?_ _)); refine blk_put (cs := #[.int .i64 0, .int .i64 0]) ?_ 0 _ rfl; (with_reducible repeat (first | refine blk_drewN ?_ _ | refine blk_drew ?_ | refine blk_alloc ?_ _)); exact BK574.out) hb); replace HB := am_ (below_step (hb4_ HB.out GE562.out GE563.out GE564.out GE574.out) hb); (try clear hb); (try clear hb2); (try clear hk); (try clear hi); obtain ⟨hcz48_0, hcz48_1, hfz48_0, hfz48_1⟩ := bc2_ BK563.out) | ((with_reducible refine gate_callee (f := 14) rfl ?_); refine gl_ Try.func14 #[.agg #[.int .i64 t553, .int .i64 t554], .int .i64 t555] ?_; (with_reducible refine (spec_LeastTime.calls k t553 t554 t555 t577 t578 _ A11.out).mono ?_); rintro e w49 ⟨rfl, hb⟩; refine ⟨_, rfl, ?_⟩; replace HO560 := am_ (Kd.R_below (by (with_reducible repeat (first | apply Kd.R_alloc | apply Kd.R_drewN | apply Kd.R_drew)); exact HO560.out) hb); replace BK562 := am_ (bb_ BK562.out hb); replace BK563 := am_ (bb_ BK563.out hb); replace BK564 := am_ (bb_ BK564.out hb); replace BK574 := am_ (bb_ BK574.out hb); replace HB := am_ (below_step (hb4_ HB.out GE562.out GE563.out GE564.out GE574.out) hb); (try clear hb); (try clear hb2); (try clear hk); (try clear hi)))
            have n0_ := am_ (Kd.R_drew HO560.out)
            have n1_ := am_ (blk_drew BK562.out)
            have n2_ := am_ (blk_drew BK563.out)
            have n3_ := am_ (blk_drew BK564.out)
            have n4_ := am_ (blk_drew BK574.out)
            have n5_ := am_ (below_drew1 HB.out)
            clear HO560
            clear BK562
            clear BK563
            clear BK564
            clear BK574
            clear HB
            have HO560 := n0_
            have BK562 := n1_
            have BK563 := n2_
            have BK564 := n3_
            have BK574 := n4_
            have HB := n5_
            clear n0_ n1_ n2_ n3_ n4_ n5_
            refine start_ (n := 10) (S := fun w' => w'.cell? ⟨gb562, 0, none⟩ = some (.int .i64 t550) ∧ w'.cell? ⟨gb562, 1, none⟩ = some (.int .i64 t551)) (ds := []) #[false, false, false, false, false, false, false, false, false, false] (by kernel_rfl) rfl rfl ⟨(blk_cell BK562.out 0).trans rfl, (blk_cell BK562.out 1).trans rfl⟩ (fun hHeld => ?_); refine with_tabW laws_FnGateTruth.tab13 laws_FnGateTruth.bits13 (fun HT_ HW_ => ?_)
            generalize w49.drew = w50 at HO560 BK562 BK563 BK564 BK574 HB hHeld ⊢
            refine pure_ (i := 0) (N := some 86) (v := ?_) (a' := ?_) #[true, false, false, false, false, false, false, false, false, false] rfl rfl (any_of HT_.out (by kernel_rfl)) (fun _ _ _ h => h) (Or.inl ⟨by rfl, ?_⟩) ?_ ?_
            rotate_left
            ·intro w'
             go_simp
             with_reducible rfl
            rotate_left
            ·simp only [Act.put, List.setIfInBounds_toArray, List.set_cons_zero, List.set_cons_succ, i64_w, i32_w]
             rfl
            refine pure_ (i := 2) (N := some 88) (v := ?_) (a' := ?_) #[true, false, true, false, false, false, false, false, false, false] rfl rfl (any_of HT_.out (by kernel_rfl)) (fun _ _ _ h => h) (Or.inl ⟨by rfl, ?_⟩) ?_ ?_
            rotate_left
            ·intro w'
             go_simp
             with_reducible rfl
            rotate_left
            ·simp only [Act.put, List.setIfInBounds_toArray, List.set_cons_zero, List.set_cons_succ, i64_w, i32_w]
             rfl
            refine take_ (i := 1) (N := some 87) (v := ?_) (a' := ?_) #[true, true, true, false, false, false, false, false, false, false] rfl rfl (take_ofW HT_.out HW_.out (by kernel_rfl)) (fun _ _ _ h => h) (Or.inl ⟨by rfl, ?_⟩) hHeld ?_ ?_
            rotate_left
            ·rintro w' ⟨s0, s1⟩
             go_simp
             with_reducible rfl
            rotate_left
            ·simp only [Act.put, List.setIfInBounds_toArray, List.set_cons_zero, List.set_cons_succ, i64_w, i32_w]
             rfl
            refine take_ (i := 4) (N := some 90) (v := ?_) (a' := ?_) #[true, true, true, false, true, false, false, false, false, false] rfl rfl (take_ofW HT_.out HW_.out (by kernel_rfl)) (fun _ _ _ h => h) (Or.inl ⟨by rfl, ?_⟩) hHeld ?_ ?_
            rotate_left
            ·rintro w' ⟨s0, s1⟩
             go_simp
             with_reducible rfl
            rotate_left
            ·simp only [Act.put, List.setIfInBounds_toArray, List.set_cons_zero, List.set_cons_succ, i64_w, i32_w]
             rfl
            refine one_ (i := 3) (N := some 89) #[true, true, true, true, true, false, false, false, false, false] rfl rfl (one_of HT_.out (by kernel_rfl)) (by decide) (fun K hK => ?_)
            refine goes_ Try.func15 (by kernel_rfl) rfl #[.slice A0 l0.length c0, .int .i64 1] (by rfl) rfl rfl arr_ ?_
            with_reducible refine (laws_at.calls _ _ l0 1 t579 _ ?side1 ?side2 A12.out).mono ?_
            (case side1 => exact kc_ (Kd.C_below HR0.out HB.out))
            (case side2 => exact HC0.out)
            rintro e w' ⟨rfl, ⟨nd, rfl⟩⟩
            refine ⟨_, rfl, ?_⟩
            refine hK.out _ _ ⟨(blk_cell BK562.out 0).trans rfl, (blk_cell BK562.out 1).trans rfl⟩ (fun hHeld => ?_)
            clear hK K
            refine norm_ (a' := ?_) ?_ ?_
            rotate_left
            ·show Act.put _ (some 89) _ = _
             simp only [Act.put, List.setIfInBounds_toArray, List.set_cons_zero, List.set_cons_succ, i64_w, i32_w]
             rfl
            refine one_ (i := 5) (N := some 91) #[true, true, true, true, true, true, false, false, false, false] rfl rfl (one_of HT_.out (by kernel_rfl)) (by decide) (fun K hK => ?_)
            refine goes_ Try.func16 (by kernel_rfl) rfl #[.agg #[.int .i64 t550, .int .i64 t551]] (by rfl) rfl rfl arr_ ?_
            with_reducible refine (spec_Wide.calls t550 t551 t580 _ A13.out).mono ?_
            rintro e w51 ⟨rfl, hb⟩
            refine ⟨_, rfl, ?_⟩
            have n0_ := am_ (Kd.R_below (by (with_reducible repeat (first | apply Kd.R_alloc | apply Kd.R_drewN | apply Kd.R_drew)); exact HO560.out) hb)
            have n1_ := am_ (bb_ BK562.out hb)
            have n2_ := am_ (bb_ BK563.out hb)
            have n3_ := am_ (bb_ BK564.out hb)
            have n4_ := am_ (bb_ BK574.out hb)
            have n5_ := am_ (below_step (hb4_ HB.out GE562.out GE563.out GE564.out GE574.out) hb)
            clear HO560
            clear BK562
            clear BK563
            clear BK564
            clear BK574
            clear HB
            have HO560 := n0_
            have BK562 := n1_
            have BK563 := n2_
            have BK564 := n3_
            have BK574 := n4_
            have HB := n5_
            clear n0_ n1_ n2_ n3_ n4_ n5_
            (try clear hb)
            (try clear hb2)
            (try clear hk)
            (try clear hi)
            refine hK.out _ _ ⟨(blk_cell BK562.out 0).trans rfl, (blk_cell BK562.out 1).trans rfl⟩ (fun hHeld => ?_)
            clear hK K
            refine norm_ (a' := ?_) ?_ ?_
            rotate_left
            ·show Act.put _ (some 91) _ = _
             simp only [Act.put, List.setIfInBounds_toArray, List.set_cons_zero, List.set_cons_succ, i64_w, i32_w]
             rfl
            refine pure_ (i := 6) (N := some 92) (v := ?_) (a' := ?_) #[true, true, true, true, true, true, true, false, false, false] rfl rfl (any_of HT_.out (by kernel_rfl)) (fun _ _ _ h => h) (Or.inl ⟨by rfl, ?_⟩) ?_ ?_
            rotate_left
            ·intro w'
             go_simp
             with_reducible rfl
            rotate_left
            ·simp only [Act.put, List.setIfInBounds_toArray, List.set_cons_zero, List.set_cons_succ, i64_w, i32_w]
             rfl
            refine pure_ (i := 7) (N := some 93) (v := ?_) (a' := ?_) #[true, true, true, true, true, true, true, true, false, false] rfl rfl (any_of HT_.out (by kernel_rfl)) (fun _ _ _ h => h) (Or.inl ⟨by rfl, ?_⟩) ?_ ?_
            rotate_left
            ·intro w'
             go_simp
             with_reducible rfl
            rotate_left
            ·simp only [Act.put, List.setIfInBounds_toArray, List.set_cons_zero, List.set_cons_succ, i64_w, i32_w]
             rfl
            refine pure_ (i := 8) (N := some 94) (v := ?_) (a' := ?_) #[true, true, true, true, true, true, true, true, true, false] rfl rfl (any_of HT_.out (by kernel_rfl)) (fun _ _ _ h => h) (Or.inl ⟨by rfl, ?_⟩) ?_ ?_
            rotate_left
            ·intro w'
             go_simp
             with_reducible rfl
            rotate_left
            ·simp only [Act.put, List.setIfInBounds_toArray, List.set_cons_zero, List.set_cons_succ, i64_w, i32_w]
             rfl
            refine pure_ (i := 9) (N := some 21) (v := ?_) (a' := ?_) #[true, true, true, true, true, true, true, true, true, true] rfl rfl (any_of HT_.out (by kernel_rfl)) (fun _ _ _ h => h) (Or.inl ⟨by rfl, ?_⟩) ?_ ?_
            rotate_left
            ·intro w'
             go_simp
             with_reducible rfl
            rotate_left
            ·simp only [Act.put, List.setIfInBounds_toArray, List.set_cons_zero, List.set_cons_succ, i64_w, i32_w]
             rfl
            refine done_ (done_of HT_.out (by kernel_rfl)) ?_
            try go_wp2_with (first | ((with_reducible refine gate_callee (f := 15) rfl ?_); refine gl_ Try.func15 #[.slice A0 l0.length c0, .int .i64 2] ?_; (with_reducible refine (laws_at.calls _ _ l0 2 t581 _ ?side1 ?side2 A15.out).mono ?_); (case side1 => exact kc_ (Kd.C_below HR0.out HB.out)); (case side2 => exact HC0.out); rintro e w' ⟨rfl, ⟨nd, rfl⟩⟩; refine ⟨_, rfl, ?_⟩))
            (try (rw [drewN_self w51]; generalize hq_ : World.drewN w51 _ = w51; have n0_ : Aside0 (Kd.R k42 42 w51 w.heap.size (fun _ => True) (.slice Ao33 t558.length co33) t558) := ⟨by rw [← hq_]; exact (by (with_reducible repeat (first | apply Kd.R_alloc | apply Kd.R_drewN | apply Kd.R_drew)); exact HO560.out)⟩; have n1_ : Aside0 (w51.heap[gb562]? = some (.cells #[.int .i64 t550, .int .i64 t551] 25 (0, 0))) := ⟨by rw [← hq_]; exact (bk_ BK562.out)⟩; have n2_ : Aside0 (w51.heap[gb563]? = some (.cells #[.int .i64 t553, .int .i64 t554] 27 (0, 0))) := ⟨by rw [← hq_]; exact (bk_ BK563.out)⟩; have n3_ : Aside0 (w51.heap[gb564]? = some (.cells #[.int .i64 t556, .int .i64 t557, .slice Ao33 t558.length co33] 30 (0, 0))) := ⟨by rw [← hq_]; exact (bk_ BK564.out)⟩; have n4_ : Aside0 (w51.heap[gb574]? = some (.cells #[.int .i64 t571, .int .i64 t572] 25 (0, 0))) := ⟨by rw [← hq_]; exact (bk_ BK574.out)⟩; have n5_ : Aside0 (Below w.heap.size w w51) := ⟨by rw [← hq_]; exact (hb4_ HB.out GE562.out GE563.out GE564.out GE574.out)⟩; clear HO560 BK562 BK563 BK564 BK574 HB hq_; have HO560 := n0_; have BK562 := n1_; have BK563 := n2_; have BK564 := n3_; have BK574 := n4_; have HB := n5_; clear n0_ n1_ n2_ n3_ n4_ n5_))
            have n0_ := am_ (Kd.R_drew HO560.out)
            have n1_ := am_ (blk_drew BK562.out)
            have n2_ := am_ (blk_drew BK563.out)
            have n3_ := am_ (blk_drew BK564.out)
            have n4_ := am_ (blk_drew BK574.out)
            have n5_ := am_ (below_drew1 HB.out)
            clear HO560
            clear BK562
            clear BK563
            clear BK564
            clear BK574
            clear HB
            have HO560 := n0_
            have BK562 := n1_
            have BK563 := n2_
            have BK564 := n3_
            have BK574 := n4_
            have HB := n5_
            clear n0_ n1_ n2_ n3_ n4_ n5_
            have p582 : 0 ≤ (t565 : Int) := of_decide_eq_true (by first | (with_reducible assumption) | assumption)
            have q582 : t565 < (t558.length : Int) := of_decide_eq_true (by first | (with_reducible assumption) | assumption)
            obtain ⟨ad582, e582, hx582_0, hx582_1⟩ := at_T42 (Kd.R_reads' HO560.out).2.2 t565 p582 q582
            cases e582
            replace p582 := eq_true p582
            replace q582 := eq_true q582
            have p583 : 0 ≤ (t565 : Int) := of_decide_eq_true (by first | (with_reducible assumption) | assumption)
            have q583 : t565 < (t558.length : Int) := of_decide_eq_true (by first | (with_reducible assumption) | assumption)
            obtain ⟨ad583, e583, hx583_0, hx583_1⟩ := at_T42 (Kd.R_reads' HO560.out).2.2 t565 p583 q583
            obtain rfl : ad582 = ad583 := (by injection e583)
            replace p583 := eq_true p583
            replace q583 := eq_true q583
            refine start_ (n := 40) (S := fun w' => w'.cell? ⟨gb564, 0, none⟩ = some (.int .i64 t556) ∧ w'.cell? ⟨gb564, 1, none⟩ = some (.int .i64 t557) ∧ w'.cell? ⟨gb564, 2, none⟩ = some (.slice (some ad582) t558.length co33) ∧ w'.cell? ⟨gb574, 0, none⟩ = some (.int .i64 t571) ∧ w'.cell? ⟨gb574, 1, none⟩ = some (.int .i64 t572) ∧ w'.cell? (ad582.add ((t565).toNat * 2)) = some (.int .i64 ((rd_T42 t558 t565).f0)) ∧ w'.cell? ⟨(ad582.add ((t565).toNat * 2)).block, (ad582.add ((t565).toNat * 2)).off + 1, none⟩ = some (.int .i64 ((rd_T42 t558 t565).f1)) ∧ w'.cell? (ad582.add ((t565).toNat * 2)) = some (.int .i64 ((rd_T42 t558 t565).f0)) ∧ w'.cell? ⟨(ad582.add ((t565).toNat * 2)).block, (ad582.add ((t565).toNat * 2)).off + 1, none⟩ = some (.int .i64 ((rd_T42 t558 t565).f1))) (ds := []) #[false, false, false, false, false, false, false, false, false, false, false, false, false, false, false, false, false, false, false, false, false, false, false, false, false, false, false, false, false, false, false, false, false, false, false, false, false, false, false, false] (by kernel_rfl) rfl rfl ⟨(blk_cell BK564.out 0).trans rfl, (blk_cell BK564.out 1).trans rfl, (blk_cell BK564.out 2).trans rfl, (blk_cell BK574.out 0).trans rfl, (blk_cell BK574.out 1).trans rfl, hx582_0, hx582_1, hx583_0, hx583_1⟩ (fun hHeld => ?_); refine with_tabW laws_FnGateTruth.tab15 laws_FnGateTruth.bits15 (fun HT_ HW_ => ?_)
            generalize w51.drew = w52 at HO560 BK562 BK563 BK564 BK574 HB hx582_0 hx582_1 hx583_0 hx583_1 hHeld ⊢
            refine pure_ (i := 0) (N := some 104) (v := ?_) (a' := ?_) #[true, false, false, false, false, false, false, false, false, false, false, false, false, false, false, false, false, false, false, false, false, false, false, false, false, false, false, false, false, false, false, false, false, false, false, false, false, false, false, false] rfl rfl (any_of HT_.out (by kernel_rfl)) (fun _ _ _ h => h) (Or.inl ⟨by rfl, ?_⟩) ?_ ?_
            rotate_left
            ·intro w'
             go_simp
             with_reducible rfl
            rotate_left
            ·simp only [Act.put, List.setIfInBounds_toArray, List.set_cons_zero, List.set_cons_succ, i64_w, i32_w]
             rfl
            refine pure_ (i := 1) (N := some 105) (v := ?_) (a' := ?_) #[true, true, false, false, false, false, false, false, false, false, false, false, false, false, false, false, false, false, false, false, false, false, false, false, false, false, false, false, false, false, false, false, false, false, false, false, false, false, false, false] rfl rfl (any_of HT_.out (by kernel_rfl)) (fun _ _ _ h => h) (Or.inl ⟨by rfl, ?_⟩) ?_ ?_
            rotate_left
            ·intro w'
             go_simp
             with_reducible rfl
            rotate_left
            ·simp only [Act.put, List.setIfInBounds_toArray, List.set_cons_zero, List.set_cons_succ, i64_w, i32_w]
             rfl
            refine pure_ (i := 2) (N := some 106) (v := ?_) (a' := ?_) #[true, true, true, false, false, false, false, false, false, false, false, false, false, false, false, false, false, false, false, false, false, false, false, false, false, false, false, false, false, false, false, false, false, false, false, false, false, false, false, false] rfl rfl (any_of HT_.out (by kernel_rfl)) (fun _ _ _ h => h) (Or.inl ⟨by rfl, ?_⟩) ?_ ?_
            rotate_left
            ·intro w'
             go_simp
             with_reducible rfl
            rotate_left
            ·simp only [Act.put, List.setIfInBounds_toArray, List.set_cons_zero, List.set_cons_succ, i64_w, i32_w]
             rfl
            refine pure_ (i := 4) (N := some 108) (v := ?_) (a' := ?_) #[true, true, true, false, true, false, false, false, false, false, false, false, false, false, false, false, false, false, false, false, false, false, false, false, false, false, false, false, false, false, false, false, false, false, false, false, false, false, false, false] rfl rfl (any_of HT_.out (by kernel_rfl)) (fun _ _ _ h => h) (Or.inl ⟨by rfl, ?_⟩) ?_ ?_
            rotate_left
            ·intro w'
             go_simp
             with_reducible rfl
            rotate_left
            ·simp only [Act.put, List.setIfInBounds_toArray, List.set_cons_zero, List.set_cons_succ, i64_w, i32_w]
             rfl
            refine pure_ (i := 8) (N := some 112) (v := ?_) (a' := ?_) #[true, true, true, false, true, false, false, false, true, false, false, false, false, false, false, false, false, false, false, false, false, false, false, false, false, false, false, false, false, false, false, false, false, false, false, false, false, false, false, false] rfl rfl (any_of HT_.out (by kernel_rfl)) (fun _ _ _ h => h) (Or.inl ⟨by rfl, ?_⟩) ?_ ?_
            rotate_left
            ·intro w'
             go_simp
             with_reducible rfl
            rotate_left
            ·simp only [Act.put, List.setIfInBounds_toArray, List.set_cons_zero, List.set_cons_succ, i64_w, i32_w]
             rfl
            refine take_ (i := 3) (N := some 107) (v := ?_) (a' := ?_) #[true, true, true, true, true, false, false, false, true, false, false, false, false, false, false, false, false, false, false, false, false, false, false, false, false, false, false, false, false, false, false, false, false, false, false, false, false, false, false, false] rfl rfl (take_ofW HT_.out HW_.out (by kernel_rfl)) (fun _ _ _ h => h) (Or.inl ⟨by rfl, ?_⟩) hHeld ?_ ?_
            rotate_left
            ·rintro w' ⟨s0, s1, s2, s3, s4, s5, s6, s7, s8⟩
             go_simp
             with_reducible rfl
            rotate_left
            ·simp only [Act.put, List.setIfInBounds_toArray, List.set_cons_zero, List.set_cons_succ, i64_w, i32_w]
             rfl
            refine pure_ (i := 5) (N := some 109) (v := ?_) (a' := ?_) #[true, true, true, true, true, true, false, false, true, false, false, false, false, false, false, false, false, false, false, false, false, false, false, false, false, false, false, false, false, false, false, false, false, false, false, false, false, false, false, false] rfl rfl (any_of HT_.out (by kernel_rfl)) (fun _ _ _ h => h) (Or.inl ⟨by rfl, ?_⟩) ?_ ?_
            rotate_left
            ·intro w'
             go_simp
             with_reducible rfl
            rotate_left
            ·simp only [Act.put, List.setIfInBounds_toArray, List.set_cons_zero, List.set_cons_succ, i64_w, i32_w]
             rfl
            refine pure_ (i := 6) (N := some 110) (v := ?_) (a' := ?_) #[true, true, true, true, true, true, true, false, true, false, false, false, false, false, false, false, false, false, false, false, false, false, false, false, false, false, false, false, false, false, false, false, false, false, false, false, false, false, false, false] rfl rfl (any_of HT_.out (by kernel_rfl)) (fun _ _ _ h => h) (Or.inl ⟨by rfl, ?_⟩) ?_ ?_
            rotate_left
            ·intro w'
             go_simp
             with_reducible rfl
            rotate_left
            ·simp only [Act.put, List.setIfInBounds_toArray, List.set_cons_zero, List.set_cons_succ, i64_w, i32_w]
             rfl
            refine take_ (i := 7) (N := some 111) (v := ?_) (a' := ?_) #[true, true, true, true, true, true, true, true, true, false, false, false, false, false, false, false, false, false, false, false, false, false, false, false, false, false, false, false, false, false, false, false, false, false, false, false, false, false, false, false] rfl rfl (take_ofW HT_.out HW_.out (by kernel_rfl)) (fun _ _ _ h => h) (Or.inl ⟨by rfl, ?_⟩) hHeld ?_ ?_
            rotate_left
            ·rintro w' ⟨s0, s1, s2, s3, s4, s5, s6, s7, s8⟩
             go_simp
             with_reducible rfl
            rotate_left
            ·simp only [Act.put, List.setIfInBounds_toArray, List.set_cons_zero, List.set_cons_succ, i64_w, i32_w]
             rfl
            refine pure_ (i := 9) (N := some 113) (v := ?_) (a' := ?_) #[true, true, true, true, true, true, true, true, true, true, false, false, false, false, false, false, false, false, false, false, false, false, false, false, false, false, false, false, false, false, false, false, false, false, false, false, false, false, false, false] rfl rfl (any_of HT_.out (by kernel_rfl)) (fun _ _ _ h => h) (Or.inl ⟨by rfl, ?_⟩) ?_ ?_
            rotate_left
            ·intro w'
             go_simp
             with_reducible rfl
            rotate_left
            ·simp only [Act.put, List.setIfInBounds_toArray, List.set_cons_zero, List.set_cons_succ, i64_w, i32_w]
             rfl
            refine pure_ (i := 10) (N := some 114) (v := ?_) (a' := ?_) #[true, true, true, true, true, true, true, true, true, true, true, false, false, false, false, false, false, false, false, false, false, false, false, false, false, false, false, false, false, false, false, false, false, false, false, false, false, false, false, false] rfl rfl (any_of HT_.out (by kernel_rfl)) (fun _ _ _ h => h) (Or.inl ⟨by rfl, ?_⟩) ?_ ?_
            rotate_left
            ·intro w'
             go_simp
             with_reducible rfl
            rotate_left
            ·simp only [Act.put, List.setIfInBounds_toArray, List.set_cons_zero, List.set_cons_succ, i64_w, i32_w]
             rfl
            refine pure_ (i := 11) (N := some 115) (v := ?_) (a' := ?_) #[true, true, true, true, true, true, true, true, true, true, true, true, false, false, false, false, false, false, false, false, false, false, false, false, false, false, false, false, false, false, false, false, false, false, false, false, false, false, false, false] rfl rfl (any_of HT_.out (by kernel_rfl)) (fun _ _ _ h => h) (Or.inl ⟨by rfl, ?_⟩) ?_ ?_
            rotate_left
            ·intro w'
             go_simp
             with_reducible rfl
            rotate_left
            ·simp only [Act.put, List.setIfInBounds_toArray, List.set_cons_zero, List.set_cons_succ, i64_w, i32_w]
             rfl
            refine pure_ (i := 12) (N := some 116) (v := ?_) (a' := ?_) #[true, true, true, true, true, true, true, true, true, true, true, true, true, false, false, false, false, false, false, false, false, false, false, false, false, false, false, false, false, false, false, false, false, false, false, false, false, false, false, false] rfl rfl (any_of HT_.out (by kernel_rfl)) (fun _ _ _ h => h) (Or.inl ⟨by rfl, ?_⟩) ?_ ?_
            rotate_left
            ·intro w'
             go_simp
             with_reducible rfl
            rotate_left
            ·simp only [Act.put, List.setIfInBounds_toArray, List.set_cons_zero, List.set_cons_succ, i64_w, i32_w]
             rfl
            refine pure_ (i := 14) (N := some 118) (v := ?_) (a' := ?_) #[true, true, true, true, true, true, true, true, true, true, true, true, true, false, true, false, false, false, false, false, false, false, false, false, false, false, false, false, false, false, false, false, false, false, false, false, false, false, false, false] rfl rfl (any_of HT_.out (by kernel_rfl)) (fun _ _ _ h => h) (Or.inl ⟨by rfl, ?_⟩) ?_ ?_
            rotate_left
            ·intro w'
             go_simp
             with_reducible rfl
            rotate_left
            ·simp only [Act.put, List.setIfInBounds_toArray, List.set_cons_zero, List.set_cons_succ, i64_w, i32_w]
             rfl
            refine take_ (i := 13) (N := some 117) (v := ?_) (a' := ?_) #[true, true, true, true, true, true, true, true, true, true, true, true, true, true, true, false, false, false, false, false, false, false, false, false, false, false, false, false, false, false, false, false, false, false, false, false, false, false, false, false] rfl rfl (take_ofW HT_.out HW_.out (by kernel_rfl)) (fun _ _ _ h => h) (Or.inl ⟨by rfl, ?_⟩) hHeld ?_ ?_
            rotate_left
            ·rintro w' ⟨s0, s1, s2, s3, s4, s5, s6, s7, s8⟩
             go_simp
             with_reducible rfl
            rotate_left
            ·simp only [Act.put, List.setIfInBounds_toArray, List.set_cons_zero, List.set_cons_succ, i64_w, i32_w]
             rfl
            refine pure_ (i := 15) (N := some 119) (v := ?_) (a' := ?_) #[true, true, true, true, true, true, true, true, true, true, true, true, true, true, true, true, false, false, false, false, false, false, false, false, false, false, false, false, false, false, false, false, false, false, false, false, false, false, false, false] rfl rfl (any_of HT_.out (by kernel_rfl)) (fun _ _ _ h => h) (Or.inl ⟨by rfl, ?_⟩) ?_ ?_
            rotate_left
            ·intro w'
             go_simp
             with_reducible rfl
            rotate_left
            ·simp only [Act.put, List.setIfInBounds_toArray, List.set_cons_zero, List.set_cons_succ, i64_w, i32_w]
             rfl
            refine pure_ (i := 16) (N := some 120) (v := ?_) (a' := ?_) #[true, true, true, true, true, true, true, true, true, true, true, true, true, true, true, true, true, false, false, false, false, false, false, false, false, false, false, false, false, false, false, false, false, false, false, false, false, false, false, false] rfl rfl (any_of HT_.out (by kernel_rfl)) (fun _ _ _ h => h) (Or.inl ⟨by rfl, ?_⟩) ?_ ?_
            rotate_left
            ·intro w'
             go_simp
             with_reducible rfl
            rotate_left
            ·simp only [Act.put, List.setIfInBounds_toArray, List.set_cons_zero, List.set_cons_succ, i64_w, i32_w]
             rfl
            refine pure_ (i := 17) (N := some 121) (v := ?_) (a' := ?_) #[true, true, true, true, true, true, true, true, true, true, true, true, true, true, true, true, true, true, false, false, false, false, false, false, false, false, false, false, false, false, false, false, false, false, false, false, false, false, false, false] rfl rfl (any_of HT_.out (by kernel_rfl)) (fun _ _ _ h => h) (Or.inl ⟨by rfl, ?_⟩) ?_ ?_
            rotate_left
            ·intro w'
             go_simp
             with_reducible rfl
            rotate_left
            ·simp only [Act.put, List.setIfInBounds_toArray, List.set_cons_zero, List.set_cons_succ, i64_w, i32_w]
             rfl
            refine pure_ (i := 18) (N := some 122) (v := ?_) (a' := ?_) #[true, true, true, true, true, true, true, true, true, true, true, true, true, true, true, true, true, true, true, false, false, false, false, false, false, false, false, false, false, false, false, false, false, false, false, false, false, false, false, false] rfl rfl (any_of HT_.out (by kernel_rfl)) (fun _ _ _ h => h) (Or.inl ⟨by rfl, ?_⟩) ?_ ?_
            rotate_left
            ·intro w'
             go_simp
             with_reducible rfl
            rotate_left
            ·simp only [Act.put, List.setIfInBounds_toArray, List.set_cons_zero, List.set_cons_succ, i64_w, i32_w]
             rfl
            refine pure_ (i := 19) (N := some 123) (v := ?_) (a' := ?_) #[true, true, true, true, true, true, true, true, true, true, true, true, true, true, true, true, true, true, true, true, false, false, false, false, false, false, false, false, false, false, false, false, false, false, false, false, false, false, false, false] rfl rfl (any_of HT_.out (by kernel_rfl)) (fun _ _ _ h => h) (Or.inl ⟨by rfl, ?_⟩) ?_ ?_
            rotate_left
            ·intro w'
             go_simp
             with_reducible rfl
            rotate_left
            ·simp only [Act.put, List.setIfInBounds_toArray, List.set_cons_zero, List.set_cons_succ, i64_w, i32_w]
             rfl
            refine pure_ (i := 20) (N := some 124) (v := ?_) (a' := ?_) #[true, true, true, true, true, true, true, true, true, true, true, true, true, true, true, true, true, true, true, true, true, false, false, false, false, false, false, false, false, false, false, false, false, false, false, false, false, false, false, false] rfl rfl (any_of HT_.out (by kernel_rfl)) (fun _ _ _ h => h) (Or.inl ⟨by rfl, ?_⟩) ?_ ?_
            rotate_left
            ·intro w'
             go_simp
             with_reducible rfl
            rotate_left
            ·simp only [Act.put, List.setIfInBounds_toArray, List.set_cons_zero, List.set_cons_succ, i64_w, i32_w]
             rfl
            refine pure_ (i := 21) (N := some 125) (v := ?_) (a' := ?_) #[true, true, true, true, true, true, true, true, true, true, true, true, true, true, true, true, true, true, true, true, true, true, false, false, false, false, false, false, false, false, false, false, false, false, false, false, false, false, false, false] rfl rfl (any_of HT_.out (by kernel_rfl)) (fun _ _ _ h => h) (Or.inl ⟨by rfl, ?_⟩) ?_ ?_
            rotate_left
            ·intro w'
             go_simp
             with_reducible rfl
            rotate_left
            ·simp only [Act.put, List.setIfInBounds_toArray, List.set_cons_zero, List.set_cons_succ, i64_w, i32_w]
             rfl
            refine take_ (i := 22) (N := some 126) (v := ?_) (a' := ?_) #[true, true, true, true, true, true, true, true, true, true, true, true, true, true, true, true, true, true, true, true, true, true, true, false, false, false, false, false, false, false, false, false, false, false, false, false, false, false, false, false] rfl rfl (take_ofW HT_.out HW_.out (by kernel_rfl)) (fun _ _ _ h => h) (Or.inl ⟨by rfl, ?_⟩) hHeld ?_ ?_
            rotate_left
            ·rintro w' ⟨s0, s1, s2, s3, s4, s5, s6, s7, s8⟩
             go_simp
             with_reducible rfl
            rotate_left
            ·simp only [Act.put, List.setIfInBounds_toArray, List.set_cons_zero, List.set_cons_succ, i64_w, i32_w]
             rfl
            refine pure_ (i := 23) (N := some 127) (v := ?_) (a' := ?_) #[true, true, true, true, true, true, true, true, true, true, true, true, true, true, true, true, true, true, true, true, true, true, true, true, false, false, false, false, false, false, false, false, false, false, false, false, false, false, false, false] rfl rfl (any_of HT_.out (by kernel_rfl)) (fun _ _ _ h => h) (Or.inl ⟨by rfl, ?_⟩) ?_ ?_
            rotate_left
            ·intro w'
             go_simp
             with_reducible rfl
            rotate_left
            ·simp only [Act.put, List.setIfInBounds_toArray, List.set_cons_zero, List.set_cons_succ, i64_w, i32_w]
             rfl
            refine pure_ (i := 24) (N := some 128) (v := ?_) (a' := ?_) #[true, true, true, true, true, true, true, true, true, true, true, true, true, true, true, true, true, true, true, true, true, true, true, true, true, false, false, false, false, false, false, false, false, false, false, false, false, false, false, false] rfl rfl (any_of HT_.out (by kernel_rfl)) (fun _ _ _ h => h) (Or.inl ⟨by rfl, ?_⟩) ?_ ?_
            rotate_left
            ·intro w'
             go_simp
             with_reducible rfl
            rotate_left
            ·simp only [Act.put, List.setIfInBounds_toArray, List.set_cons_zero, List.set_cons_succ, i64_w, i32_w]
             rfl
            refine pure_ (i := 25) (N := some 129) (v := ?_) (a' := ?_) #[true, true, true, true, true, true, true, true, true, true, true, true, true, true, true, true, true, true, true, true, true, true, true, true, true, true, false, false, false, false, false, false, false, false, false, false, false, false, false, false] rfl rfl (any_of HT_.out (by kernel_rfl)) (fun _ _ _ h => h) (Or.inl ⟨by rfl, ?_⟩) ?_ ?_
            rotate_left
            ·intro w'
             go_simp
             with_reducible rfl
            rotate_left
            ·simp only [Act.put, List.setIfInBounds_toArray, List.set_cons_zero, List.set_cons_succ, i64_w, i32_w]
             rfl
            refine pure_ (i := 26) (N := some 130) (v := ?_) (a' := ?_) #[true, true, true, true, true, true, true, true, true, true, true, true, true, true, true, true, true, true, true, true, true, true, true, true, true, true, true, false, false, false, false, false, false, false, false, false, false, false, false, false] rfl rfl (any_of HT_.out (by kernel_rfl)) (fun _ _ _ h => h) (Or.inl ⟨by rfl, ?_⟩) ?_ ?_
            rotate_left
            ·intro w'
             go_simp
             with_reducible rfl
            rotate_left
            ·simp only [Act.put, List.setIfInBounds_toArray, List.set_cons_zero, List.set_cons_succ, i64_w, i32_w]
             rfl
            refine pure_ (i := 28) (N := some 132) (v := ?_) (a' := ?_) #[true, true, true, true, true, true, true, true, true, true, true, true, true, true, true, true, true, true, true, true, true, true, true, true, true, true, true, false, true, false, false, false, false, false, false, false, false, false, false, false] rfl rfl (any_of HT_.out (by kernel_rfl)) (fun _ _ _ h => h) (Or.inl ⟨by rfl, ?_⟩) ?_ ?_
            rotate_left
            ·intro w'
             go_simp
             with_reducible rfl
            rotate_left
            ·simp only [Act.put, List.setIfInBounds_toArray, List.set_cons_zero, List.set_cons_succ, i64_w, i32_w]
             rfl
            refine pure_ (i := 30) (N := some 134) (v := ?_) (a' := ?_) #[true, true, true, true, true, true, true, true, true, true, true, true, true, true, true, true, true, true, true, true, true, true, true, true, true, true, true, false, true, false, true, false, false, false, false, false, false, false, false, false] rfl rfl (any_of HT_.out (by kernel_rfl)) (fun _ _ _ h => h) (Or.inl ⟨by rfl, ?_⟩) ?_ ?_
            rotate_left
            ·intro w'
             go_simp
             with_reducible rfl
            rotate_left
            ·simp only [Act.put, List.setIfInBounds_toArray, List.set_cons_zero, List.set_cons_succ, i64_w, i32_w]
             rfl
            refine pure_ (i := 32) (N := some 136) (v := ?_) (a' := ?_) #[true, true, true, true, true, true, true, true, true, true, true, true, true, true, true, true, true, true, true, true, true, true, true, true, true, true, true, false, true, false, true, false, true, false, false, false, false, false, false, false] rfl rfl (any_of HT_.out (by kernel_rfl)) (fun _ _ _ h => h) (Or.inl ⟨by rfl, ?_⟩) ?_ ?_
            rotate_left
            ·intro w'
             go_simp
             with_reducible rfl
            rotate_left
            ·simp only [Act.put, List.setIfInBounds_toArray, List.set_cons_zero, List.set_cons_succ, i64_w, i32_w]
             rfl
            refine take_ (i := 27) (N := some 131) (v := ?_) (a' := ?_) #[true, true, true, true, true, true, true, true, true, true, true, true, true, true, true, true, true, true, true, true, true, true, true, true, true, true, true, true, true, false, true, false, true, false, false, false, false, false, false, false] rfl rfl (take_ofW HT_.out HW_.out (by kernel_rfl)) (fun _ _ _ h => h) (Or.inl ⟨by rfl, ?_⟩) hHeld ?_ ?_
            rotate_left
            ·rintro w' ⟨s0, s1, s2, s3, s4, s5, s6, s7, s8⟩
             go_simp
             with_reducible rfl
            rotate_left
            ·simp only [Act.put, List.setIfInBounds_toArray, List.set_cons_zero, List.set_cons_succ, i64_w, i32_w]
             rfl
            refine take_ (i := 29) (N := some 133) (v := ?_) (a' := ?_) #[true, true, true, true, true, true, true, true, true, true, true, true, true, true, true, true, true, true, true, true, true, true, true, true, true, true, true, true, true, true, true, false, true, false, false, false, false, false, false, false] rfl rfl (take_ofW HT_.out HW_.out (by kernel_rfl)) (fun _ _ _ h => h) (Or.inl ⟨by rfl, ?_⟩) hHeld ?_ ?_
            rotate_left
            ·rintro w' ⟨s0, s1, s2, s3, s4, s5, s6, s7, s8⟩
             go_simp
             with_reducible rfl
            rotate_left
            ·simp only [Act.put, List.setIfInBounds_toArray, List.set_cons_zero, List.set_cons_succ, i64_w, i32_w]
             rfl
            refine take_ (i := 31) (N := some 135) (v := ?_) (a' := ?_) #[true, true, true, true, true, true, true, true, true, true, true, true, true, true, true, true, true, true, true, true, true, true, true, true, true, true, true, true, true, true, true, true, true, false, false, false, false, false, false, false] rfl rfl (take_ofW HT_.out HW_.out (by kernel_rfl)) (fun _ _ _ h => h) (Or.inl ⟨by rfl, ?_⟩) hHeld ?_ ?_
            rotate_left
            ·rintro w' ⟨s0, s1, s2, s3, s4, s5, s6, s7, s8⟩
             go_simp
             with_reducible rfl
            rotate_left
            ·simp only [Act.put, List.setIfInBounds_toArray, List.set_cons_zero, List.set_cons_succ, i64_w, i32_w]
             rfl
            refine pure_ (i := 33) (N := some 137) (v := ?_) (a' := ?_) #[true, true, true, true, true, true, true, true, true, true, true, true, true, true, true, true, true, true, true, true, true, true, true, true, true, true, true, true, true, true, true, true, true, true, false, false, false, false, false, false] rfl rfl (any_of HT_.out (by kernel_rfl)) (fun _ _ _ h => h) (Or.inl ⟨by rfl, ?_⟩) ?_ ?_
            rotate_left
            ·intro w'
             go_simp
             with_reducible rfl
            rotate_left
            ·simp only [Act.put, List.setIfInBounds_toArray, List.set_cons_zero, List.set_cons_succ, i64_w, i32_w]
             rfl
            refine pure_ (i := 34) (N := some 138) (v := ?_) (a' := ?_) #[true, true, true, true, true, true, true, true, true, true, true, true, true, true, true, true, true, true, true, true, true, true, true, true, true, true, true, true, true, true, true, true, true, true, true, false, false, false, false, false] rfl rfl (any_of HT_.out (by kernel_rfl)) (fun _ _ _ h => h) (Or.inl ⟨by rfl, ?_⟩) ?_ ?_
            rotate_left
            ·intro w'
             go_simp
             with_reducible rfl
            rotate_left
            ·simp only [Act.put, List.setIfInBounds_toArray, List.set_cons_zero, List.set_cons_succ, i64_w, i32_w]
             rfl
            refine take_ (i := 35) (N := some 139) (v := ?_) (a' := ?_) #[true, true, true, true, true, true, true, true, true, true, true, true, true, true, true, true, true, true, true, true, true, true, true, true, true, true, true, true, true, true, true, true, true, true, true, true, false, false, false, false] rfl rfl (take_ofW HT_.out HW_.out (by kernel_rfl)) (fun _ _ _ h => h) (Or.inl ⟨by rfl, ?_⟩) hHeld ?_ ?_
            rotate_left
            ·rintro w' ⟨s0, s1, s2, s3, s4, s5, s6, s7, s8⟩
             go_simp
             with_reducible rfl
            rotate_left
            ·simp only [Act.put, List.setIfInBounds_toArray, List.set_cons_zero, List.set_cons_succ, i64_w, i32_w]
             rfl
            refine pure_ (i := 36) (N := some 140) (v := ?_) (a' := ?_) #[true, true, true, true, true, true, true, true, true, true, true, true, true, true, true, true, true, true, true, true, true, true, true, true, true, true, true, true, true, true, true, true, true, true, true, true, true, false, false, false] rfl rfl (any_of HT_.out (by kernel_rfl)) (fun _ _ _ h => h) (Or.inl ⟨by rfl, ?_⟩) ?_ ?_
            rotate_left
            ·intro w'
             go_simp
             with_reducible rfl
            rotate_left
            ·simp only [Act.put, List.setIfInBounds_toArray, List.set_cons_zero, List.set_cons_succ, i64_w, i32_w]
             rfl
            refine pure_ (i := 37) (N := some 141) (v := ?_) (a' := ?_) #[true, true, true, true, true, true, true, true, true, true, true, true, true, true, true, true, true, true, true, true, true, true, true, true, true, true, true, true, true, true, true, true, true, true, true, true, true, true, false, false] rfl rfl (any_of HT_.out (by kernel_rfl)) (fun _ _ _ h => h) (Or.inl ⟨by rfl, ?_⟩) ?_ ?_
            rotate_left
            ·intro w'
             go_simp
             with_reducible rfl
            rotate_left
            ·simp only [Act.put, List.setIfInBounds_toArray, List.set_cons_zero, List.set_cons_succ, i64_w, i32_w]
             rfl
            refine pure_ (i := 38) (N := some 142) (v := ?_) (a' := ?_) #[true, true, true, true, true, true, true, true, true, true, true, true, true, true, true, true, true, true, true, true, true, true, true, true, true, true, true, true, true, true, true, true, true, true, true, true, true, true, true, false] rfl rfl (any_of HT_.out (by kernel_rfl)) (fun _ _ _ h => h) (Or.inl ⟨by rfl, ?_⟩) ?_ ?_
            rotate_left
            ·intro w'
             go_simp
             with_reducible rfl
            rotate_left
            ·simp only [Act.put, List.setIfInBounds_toArray, List.set_cons_zero, List.set_cons_succ, i64_w, i32_w]
             rfl
            refine pure_ (i := 39) (N := some 2) (v := ?_) (a' := ?_) #[true, true, true, true, true, true, true, true, true, true, true, true, true, true, true, true, true, true, true, true, true, true, true, true, true, true, true, true, true, true, true, true, true, true, true, true, true, true, true, true] rfl rfl (any_of HT_.out (by kernel_rfl)) (fun _ _ _ h => h) (Or.inl ⟨by rfl, ?_⟩) ?_ ?_
            rotate_left
            ·intro w'
             go_simp
             with_reducible rfl
            rotate_left
            ·simp only [Act.put, List.setIfInBounds_toArray, List.set_cons_zero, List.set_cons_succ, i64_w, i32_w]
             rfl
            refine done_ (done_of HT_.out (by kernel_rfl)) ?_
            try go_wp2
            go_ret
            exact ⟨er_, hb4_ HB.out GE562.out GE563.out GE564.out GE574.out⟩
           ·rw [if_neg c22] at H
            have c22b0 : decide ((wrap64 ((wrap64 (t550 + (Int.tmod t579 (wrap64 (t580 + 1))))) + (wrap64 (t577 + (Int.tmod t581 (wrap64 ((wrap64 (t575 - t577)) + 1))))))) ≤ t572) = false := decide_eq_false c22
            clear c22
            obtain rfl := Option.some.inj H
            exact absurd hr_ (by decide)
          ·rw [if_neg c21] at H
           have c21b0 : decide (t571 ≤ (wrap64 (t550 + (Int.tmod t579 (wrap64 (t580 + 1)))))) = false := decide_eq_false c21
           clear c21
           obtain rfl := Option.some.inj H
           exact absurd hr_ (by decide)
         ·rw [if_neg c20] at H
          have c20b0 : (((rd_T42 t558 t565).f0) == t561) = false := beq_eq_false_iff_ne.mpr c20
          have c20b1 : (((rd_T42 t558 t565).f0) != t561) = true := bne_iff_ne.mpr c20
          obtain rfl := Option.some.inj H
          exact absurd hr_ (by decide)
        ·rw [if_neg c19] at H
         exact absurd H (by simp)
       ·rw [if_neg c18] at H
        exact absurd H (by simp)
      ·replace c17 := Bool.eq_false_iff.mpr c17
       subst c17
       have H1 : (some false) = some r := by rw [if_neg (show ¬ (false = true) by decide)] at H; exact H
       clear H
       have H := H1
       clear H1
       obtain rfl := Option.some.inj H
       exact absurd hr_ (by decide)
   ·rw [if_neg c8] at H
    have c8b0 : (t567 == 0) = false := beq_eq_false_iff_ne.mpr c8
    have c8b1 : (t567 != 0) = true := bne_iff_ne.mpr c8
    by_cases c53 : t565 = 0
    ·rw [if_pos c53] at H
     have c53b0 : (t565 == 0) = true := beq_iff_eq.mpr c53
     have c53b1 : (t565 != 0) = false := bne_eq_false_iff_eq.mpr c53
     clear c53
     obtain rfl := Option.some.inj H
     go_enter Try.func3, Try.ntmps3
     go_wp2_with (first | ((with_reducible refine gate_callee (f := 8) rfl ?_); refine gl_ Try.func8 #[.slice A0 l0.length c0] ?_; (with_reducible refine (laws_big.calls _ _ l0 false _ ?side1 ?side2 A2.out).mono ?_); (case side1 => repeat (first | exact HR0.out | (with_reducible refine Kd.C_alloc ?_ _) | (with_reducible refine Kd.C_drewN ?_ _) | (with_reducible refine Kd.C_drew ?_))); (case side2 => exact HC0.out); rintro e w' ⟨rfl, ⟨nd, rfl⟩⟩; refine ⟨_, rfl, ?_⟩) | ((with_reducible refine gate_callee (f := 9) rfl ?_); refine gl_ Try.func9 #[.slice A0 l0.length c0] ?_; (with_reducible refine (spec_DrawGateAsk.calls k _ _ l0 t550 t551 t552 t553 t554 t555 t556 t557 t558 t561 _ ?side1 ?side2 A4.out).mono ?_); (case side1 => repeat (first | exact HR0.out | (with_reducible refine Kd.C_alloc ?_ _) | (with_reducible refine Kd.C_drewN ?_ _) | (with_reducible refine Kd.C_drew ?_))); (case side2 => exact HC0.out); rintro e w54 ⟨v559, rfl, ho0, hb⟩; refine ⟨_, rfl, ?_⟩; have HO560 := am_ (Kd.R_lower ho0 (below_size (hb_ HB.out))); replace HB := am_ (below_step (hb_ HB.out) hb); (try clear hb); (try clear hb2); (try clear hk); (try clear hi); (try clear ho0)) | ((with_reducible refine gate_dst (N := 3) rfl ?_); refine be_ (N := 3) (cs := #[.int .i64 0, .int .i64 0]) (t := 25) ?_; intro gb562 hg w55 hbox hb; have BK562 := am_ (hbox); have GW562 := am_ (hy_ hg (hb_ HB.out) : w.heap.size ≤ gb562); have GE562 := GW562; replace HO560 := am_ (Kd.R_below (by (with_reducible repeat (first | apply Kd.R_alloc | apply Kd.R_drewN | apply Kd.R_drew)); exact HO560.out) hb); replace HB := am_ (below_step (hb_ HB.out) hb); clear hb hbox hg) | ((with_reducible refine gate_dst (N := 5) rfl ?_); refine be_ (N := 5) (cs := #[.int .i64 0, .int .i64 0]) (t := 27) ?_; intro gb563 hg w56 hbox hb; have BK563 := am_ (hbox); have GW563 := am_ (hy_ hg (hb1_ HB.out GE562.out) : w.heap.size ≤ gb563); have GE563 := GW563; have NB562_563 := am_ (bl_ hg BK562.out : gb562 ≠ gb563); have NB563_562 := nb_ NB562_563; replace HO560 := am_ (Kd.R_below (by (with_reducible repeat (first | apply Kd.R_alloc | apply Kd.R_drewN | apply Kd.R_drew)); exact HO560.out) hb); replace BK562 := am_ (bb_ BK562.out hb); replace HB := am_ (below_step (hb1_ HB.out GE562.out) hb); clear hb hbox hg) | ((with_reducible refine gate_dst (N := 7) rfl ?_); refine be_ (N := 7) (cs := #[.int .i64 0, .int .i64 0, .slice none 0 0]) (t := 30) ?_; intro gb564 hg w57 hbox hb; have BK564 := am_ (hbox); have GW564 := am_ (hy_ hg (hb2_ HB.out GE562.out GE563.out) : w.heap.size ≤ gb564); have GE564 := GW564; have NB562_564 := am_ (bl_ hg BK562.out : gb562 ≠ gb564); have NB564_562 := nb_ NB562_564; have NB563_564 := am_ (bl_ hg BK563.out : gb563 ≠ gb564); have NB564_563 := nb_ NB563_564; replace HO560 := am_ (Kd.R_below (by (with_reducible repeat (first | apply Kd.R_alloc | apply Kd.R_drewN | apply Kd.R_drew)); exact HO560.out) hb); replace BK562 := am_ (bb_ BK562.out hb); replace BK563 := am_ (bb_ BK563.out hb); replace HB := am_ (below_step (hb2_ HB.out GE562.out GE563.out) hb); clear hb hbox hg; have hnb58 := NB562_563.out; have hnc58 := NB563_562.out; have hnb59 := NB562_564.out; have hnc59 := NB564_562.out; obtain ⟨hcz60_0, hcz60_1, hfz60_0, hfz60_1⟩ := bc2_ BK562.out; have hnb61 := NB563_564.out; have hnc61 := NB564_563.out; obtain ⟨hcz62_0, hcz62_1, hfz62_0, hfz62_1⟩ := bc2_ BK563.out; obtain ⟨hcz63_0, hcz63_1, hcz63_2, hfz63_0, hfz63_1, hfz63_2⟩ := bc3_ BK564.out; obtain ⟨Ao64, co64, eo64⟩ := Kd.R_slice HO560.out; subst eo64) | ((with_reducible refine gate_callee (f := 10) rfl ?_); refine gl_ Try.func10 #[.agg #[.int .i64 t550, .int .i64 t551], .bool t552, .agg #[.int .i64 t553, .int .i64 t554], .int .i64 t555, .agg #[.int .i64 t556, .int .i64 t557, .slice Ao64 t558.length co64], .int .i64 t561] ?_; (with_reducible refine (impl_GateAsk.calls k t550 t551 t552 t553 t554 t555 t556 t557 _ _ t558 t561 t565 t566 t567 _ ?side1 ?side2 A5.out).mono ?_); (case side1 => refine (Kd.R_reads' (e := 42) (base := w.heap.size) (ok := fun k_ => True) (n := t558.length) (c := co64) ?_).2.2; exact (by (with_reducible repeat (first | apply Kd.R_alloc | apply Kd.R_drewN | apply Kd.R_drew)); exact (Kd.R_mono (Kd.R_mono (Kd.R_mono (Kd.R_far (p := ⟨gb564, 2, none⟩) (Kd.R_far (p := ⟨gb564, 1, none⟩) (Kd.R_far (p := ⟨gb564, 0, none⟩) (Kd.R_far (p := ⟨gb563, 1, none⟩) (Kd.R_far (p := ⟨gb563, 0, none⟩) (Kd.R_far (p := ⟨gb562, 1, none⟩) (Kd.R_far (p := ⟨gb562, 0, none⟩) (Kd.R_types (Kd.R_types (Kd.R_types HO560.out BK562.out (by decide)) BK563.out (by decide)) BK564.out (by decide)) (fun _ hk => hk.1.1.2) (.int .i64 t550)) (fun _ hk => hk.1.1.2) (.int .i64 t551)) (fun _ hk => hk.1.2) (.int .i64 t553)) (fun _ hk => hk.1.2) (.int .i64 t554)) (fun _ hk => hk.2) (.int .i64 t556)) (fun _ hk => hk.2) (.int .i64 t557)) (fun _ hk => hk.2) (.slice Ao64 t558.length co64)) (fun _ h_ => h_.1)) (fun _ h_ => h_.1)) (fun _ h_ => h_.1)))); (case side2 => exact (Kd.R_reads' HO560.out).2.1); rintro e w65 ⟨rfl, hb⟩; refine ⟨_, rfl, ?_⟩; replace HO560 := am_ (Kd.R_below (by (with_reducible repeat (first | apply Kd.R_alloc | apply Kd.R_drewN | apply Kd.R_drew)); exact (Kd.R_mono (Kd.R_mono (Kd.R_mono (Kd.R_far (p := ⟨gb564, 2, none⟩) (Kd.R_far (p := ⟨gb564, 1, none⟩) (Kd.R_far (p := ⟨gb564, 0, none⟩) (Kd.R_far (p := ⟨gb563, 1, none⟩) (Kd.R_far (p := ⟨gb563, 0, none⟩) (Kd.R_far (p := ⟨gb562, 1, none⟩) (Kd.R_far (p := ⟨gb562, 0, none⟩) (Kd.R_types (Kd.R_types (Kd.R_types HO560.out BK562.out (by decide)) BK563.out (by decide)) BK564.out (by decide)) (fun _ hk => hk.1.1.2) (.int .i64 t550)) (fun _ hk => hk.1.1.2) (.int .i64 t551)) (fun _ hk => hk.1.2) (.int .i64 t553)) (fun _ hk => hk.1.2) (.int .i64 t554)) (fun _ hk => hk.2) (.int .i64 t556)) (fun _ hk => hk.2) (.int .i64 t557)) (fun _ hk => hk.2) (.slice Ao64 t558.length co64)) (fun _ h_ => h_.1)) (fun _ h_ => h_.1)) (fun _ h_ => h_.1))) hb); replace BK562 := am_ (blk_below (g := gb562) (o := .cells #[.int .i64 t550, .int .i64 t551] 25 (0, 0)) (by (with_reducible repeat (first | refine blk_drewN ?_ _ | refine blk_drew ?_ | refine blk_alloc ?_ _)); refine blk_far ?_ NB562_564.out _; (with_reducible repeat (first | refine blk_drewN ?_ _ | refine blk_drew ?_ | refine blk_alloc ?_ _)); refine blk_far ?_ NB562_564.out _; (with_reducible repeat (first | refine blk_drewN ?_ _ | refine blk_drew ?_ | refine blk_alloc ?_ _)); refine blk_far ?_ NB562_564.out _; (with_reducible repeat (first | refine blk_drewN ?_ _ | refine blk_drew ?_ | refine blk_alloc ?_ _)); refine blk_far ?_ NB562_563.out _; (with_reducible repeat (first | refine blk_drewN ?_ _ | refine blk_drew ?_ | refine blk_alloc ?_ _)); refine blk_far ?_ NB562_563.out _; (with_reducible repeat (first | refine blk_drewN ?_ _ | refine blk_drew ?_ | refine blk_alloc ?_ _)); refine blk_put (cs := #[.int .i64 t550, .int .i64 0]) ?_ 1 _ rfl; (with_reducible repeat (first | refine blk_drewN ?_ _ | refine blk_drew ?_ | refine blk_alloc ?_ _)); refine blk_put (cs := #[.int .i64 0, .int .i64 0]) ?_ 0 _ rfl; (with_reducible repeat (first | refine blk_drewN ?_ _ | refine blk_drew ?_ | refine blk_alloc ?_ _)); exact BK562.out) hb); replace BK563 := am_ (blk_below (g := gb563) (o := .cells #[.int .i64 t553, .int .i64 t554] 27 (0, 0)) (by (with_reducible repeat (first | refine blk_drewN ?_ _ | refine blk_drew ?_ | refine blk_alloc ?_ _)); refine blk_far ?_ NB563_564.out _; (with_reducible repeat (first | refine blk_drewN ?_ _ | refine blk_drew ?_ | refine blk_alloc ?_ _)); refine blk_far ?_ NB563_564.out _; (with_reducible repeat (first | refine blk_drewN ?_ _ | refine blk_drew ?_ | refine blk_alloc ?_ _)); refine blk_far ?_ NB563_564.out _; (with_reducible repeat (first | refine blk_drewN ?_ _ | refine blk_drew ?_ | refine blk_alloc ?_ _)); refine blk_put (cs := #[.int .i64 t553, .int .i64 0]) ?_ 1 _ rfl; (with_reducible repeat (first | refine blk_drewN ?_ _ | refine blk_drew ?_ | refine blk_alloc ?_ _)); refine blk_put (cs := #[.int .i64 0, .int .i64 0]) ?_ 0 _ rfl; (with_reducible repeat (first | refine blk_drewN ?_ _ | refine blk_drew ?_ | refine blk_alloc ?_ _)); refine blk_far ?_ NB563_562.out _; (with_reducible repeat (first | refine blk_drewN ?_ _ | refine blk_drew ?_ | refine blk_alloc ?_ _)); refine blk_far ?_ NB563_562.out _; (with_reducible repeat (first | refine blk_drewN ?_ _ | refine blk_drew ?_ | refine blk_alloc ?_ _)); exact BK563.out) hb); replace BK564 := am_ (blk_below (g := gb564) (o := .cells #[.int .i64 t556, .int .i64 t557, .slice Ao64 t558.length co64] 30 (0, 0)) (by (with_reducible repeat (first | refine blk_drewN ?_ _ | refine blk_drew ?_ | refine blk_alloc ?_ _)); refine blk_put (cs := #[.int .i64 t556, .int .i64 t557, .slice none 0 0]) ?_ 2 _ rfl; (with_reducible repeat (first | refine blk_drewN ?_ _ | refine blk_drew ?_ | refine blk_alloc ?_ _)); refine blk_put (cs := #[.int .i64 t556, .int .i64 0, .slice none 0 0]) ?_ 1 _ rfl; (with_reducible repeat (first | refine blk_drewN ?_ _ | refine blk_drew ?_ | refine blk_alloc ?_ _)); refine blk_put (cs := #[.int .i64 0, .int .i64 0, .slice none 0 0]) ?_ 0 _ rfl; (with_reducible repeat (first | refine blk_drewN ?_ _ | refine blk_drew ?_ | refine blk_alloc ?_ _)); refine blk_far ?_ NB564_563.out _; (with_reducible repeat (first | refine blk_drewN ?_ _ | refine blk_drew ?_ | refine blk_alloc ?_ _)); refine blk_far ?_ NB564_563.out _; (with_reducible repeat (first | refine blk_drewN ?_ _ | refine blk_drew ?_ | refine blk_alloc ?_ _)); refine blk_far ?_ NB564_562.out _; (with_reducible repeat (first | refine blk_drewN ?_ _ | refine blk_drew ?_ | refine blk_alloc ?_ _)); refine blk_far ?_ NB564_562.out _; (with_reducible repeat (first | refine blk_drewN ?_ _ | refine blk_drew ?_ | refine blk_alloc ?_ _)); exact BK564.out) hb); replace HB := am_ (below_step (hb3_ HB.out GE562.out GE563.out GE564.out) hb); (try clear hb); (try clear hb2); (try clear hk); (try clear hi); obtain ⟨hcz66_0, hcz66_1, hfz66_0, hfz66_1⟩ := bc2_ BK562.out; obtain ⟨hcz67_0, hcz67_1, hfz67_0, hfz67_1⟩ := bc2_ BK563.out; obtain ⟨hcz68_0, hcz68_1, hcz68_2, hfz68_0, hfz68_1, hfz68_2⟩ := bc3_ BK564.out) | ((with_reducible refine gate_callee (f := 11) rfl ?_); refine gl_ Try.func11 #[.agg #[.int .i64 t550, .int .i64 t551], .bool t552, .agg #[.int .i64 t553, .int .i64 t554], .int .i64 t555, .agg #[.int .i64 t556, .int .i64 t557, .slice Ao64 t558.length co64], .int .i64 t561] ?_; (with_reducible refine (spec_GateAsk.calls k t550 t551 t552 t553 t554 t555 t556 t557 _ _ t558 t561 t568 t569 t570 _ ?side1 ?side2 A6.out).mono ?_); (case side1 => repeat (first | exact (Kd.R_reads' HO560.out).2.2 | (with_reducible refine Kd.C_alloc ?_ _) | (with_reducible refine Kd.C_drewN ?_ _) | (with_reducible refine Kd.C_drew ?_))); (case side2 => exact (Kd.R_reads' HO560.out).2.1); rintro e w69 ⟨rfl, hb⟩; refine ⟨_, rfl, ?_⟩; replace HO560 := am_ (Kd.R_below (by (with_reducible repeat (first | apply Kd.R_alloc | apply Kd.R_drewN | apply Kd.R_drew)); exact HO560.out) hb); replace BK562 := am_ (bb_ BK562.out hb); replace BK563 := am_ (bb_ BK563.out hb); replace BK564 := am_ (bb_ BK564.out hb); replace HB := am_ (below_step (hb3_ HB.out GE562.out GE563.out GE564.out) hb); (try clear hb); (try clear hb2); (try clear hk); (try clear hi)))
     go_ret
     exact ⟨er_, hb3_ HB.out GE562.out GE563.out GE564.out⟩
    ·rw [if_neg c53] at H
     have c53b0 : (t565 == 0) = false := beq_eq_false_iff_ne.mpr c53
     have c53b1 : (t565 != 0) = true := bne_iff_ne.mpr c53
     obtain rfl := Option.some.inj H
     exact absurd hr_ (by decide)
  ·rw [if_neg c7] at H
   have c7b0 : (t567 == t570) = false := beq_eq_false_iff_ne.mpr c7
   have c7b1 : (t567 != t570) = true := bne_iff_ne.mpr c7
   obtain rfl := Option.some.inj H
   exact absurd hr_ (by decide)
end Go.Proofs.Ytllpmpfchidhoaa.P
namespace Go.Proofs.Ytllpmpfchidhoaa.G
open Go.RowKit Go.Proofs.YtllpmpfchidhoaaW.PrintWords
theorem wrap_id {x : Int} (h1 : -9223372036854775808 ≤ x) (h2 : x ≤ 9223372036854775807) : wrap64 x = x := by unfold wrap64; omega
theorem wrap_succ {i n : Nat} (h : i < n) (hn : n ≤ 9223372036854775807) : wrap64 ((i : Int) + 1) = ((i + 1 : Nat) : Int) := by unfold wrap64; omega
theorem all_loop {n : Nat} {L : Nat → Int → Option Bool} {Q : Nat → Bool} {e : Bool}
    (hs : ∀ k i, i < n → L (k + 1) (i : Int) = if Q i = true then L k ((i + 1 : Nat) : Int) else some false)
    (he : ∀ k, L (k + 1) (n : Int) = some e) :
    ∀ d i k, i + d = n → d < k → L k (i : Int) = some ((List.range' i d).all Q && e) := by
  intro d
  induction d with
  | zero =>
    intro i k h hk
    obtain ⟨k, rfl⟩ : ∃ m, k = m + 1 := ⟨k - 1, by omega⟩
    obtain rfl : i = n := by omega
    rw [he]; simp
  | succ d ih =>
    intro i k h hk
    obtain ⟨k, rfl⟩ : ∃ m, k = m + 1 := ⟨k - 1, by omega⟩
    rw [hs k i (by omega)]
    rw [List.range'_succ]
    cases hq : Q i with
    | true => rw [if_pos rfl, ih (i + 1) k (by omega) (by omega)]; simp [hq]
    | false => simp [hq]
theorem all_loop0 {n : Nat} {L : Nat → Int → Option Bool} {Q : Nat → Bool} {e : Bool}
    (hs : ∀ k i, i < n → L (k + 1) (i : Int) = if Q i = true then L k ((i + 1 : Nat) : Int) else some false)
    (he : ∀ k, L (k + 1) (n : Int) = some e) (k : Nat) (hk : n < k) : L k 0 = some ((List.range n).all Q && e) := by
  have := all_loop hs he n 0 k (by omega) hk
  rw [List.range_eq_range']
  exact this
def found {ρ : Type} (Q : Nat → Bool) (r : Nat → ρ) (e : ρ) (is : List Nat) : ρ := match is.find? Q with
  | some j => r j
  | none => e
theorem find_loop {n : Nat} {ρ : Type} {L : Nat → Int → Option ρ} {Q : Nat → Bool} {r : Nat → ρ} {e : ρ} {c : Nat}
    (hs : ∀ k i, i < n → c ≤ k → L (k + 1) (i : Int) = if Q i = true then some (r i) else L k ((i + 1 : Nat) : Int))
    (he : ∀ k, L (k + 1) (n : Int) = some e) :
    ∀ d i k, i + d = n → d + c < k → L k (i : Int) = some (found Q r e (List.range' i d)) := by
  intro d
  induction d with
  | zero =>
    intro i k h hk
    obtain ⟨k, rfl⟩ : ∃ m, k = m + 1 := ⟨k - 1, by omega⟩
    obtain rfl : i = n := by omega
    rw [he]; rfl
  | succ d ih =>
    intro i k h hk
    obtain ⟨k, rfl⟩ : ∃ m, k = m + 1 := ⟨k - 1, by omega⟩
    rw [hs k i (by omega) (by omega), List.range'_succ]
    unfold found
    cases hq : Q i with
    | true => simp [List.find?, hq]
    | false =>
      rw [if_neg (by simp), ih (i + 1) k (by omega) (by omega)]
      simp [List.find?, hq, found]
theorem find_loop0 {n : Nat} {ρ : Type} {L : Nat → Int → Option ρ} {Q : Nat → Bool} {r : Nat → ρ} {e : ρ} {c : Nat}
    (hs : ∀ k i, i < n → c ≤ k → L (k + 1) (i : Int) = if Q i = true then some (r i) else L k ((i + 1 : Nat) : Int))
    (he : ∀ k, L (k + 1) (n : Int) = some e) (k : Nat) (hk : n + c < k) : L k 0 = some (found Q r e (List.range n)) := by
  have := find_loop hs he n 0 k (by omega) hk
  rw [List.range_eq_range']
  exact this
theorem found_none {ρ : Type} {Q : Nat → Bool} {r : Nat → ρ} {e : ρ} {n : Nat} (h : ∀ i, i < n → Q i = false) : found Q r e (List.range n) = e := by
  unfold found
  have : (List.range n).find? Q = none := by
    rw [List.find?_eq_none]; intro i hi; rw [h i (List.mem_range.1 hi)]; simp
  rw [this]
theorem found_some {ρ : Type} {Q : Nat → Bool} {r : Nat → ρ} {e : ρ} {n j : Nat} (hj : j < n) (hq : Q j = true) (h : ∀ i, i < j → Q i = false) : found Q r e (List.range n) = r j := by
  unfold found
  have : (List.range n).find? Q = some j := by
    rw [List.find?_range_eq_some]; exact ⟨hq, List.mem_range.2 hj, fun i hi => by rw [h i hi]; rfl⟩
  rw [this]
theorem first_of {Q : Nat → Bool} : ∀ n, (∃ j, j < n ∧ Q j = true ∧ ∀ i, i < j → Q i = false) ∨ ∀ i, i < n → Q i = false := by
  intro n
  induction n with
  | zero => right; intro i hi; omega
  | succ n ih =>
    rcases ih with ⟨j, h1, h2, h3⟩ | h
    · left; exact ⟨j, by omega, h2, h3⟩
    · cases hq : Q n with
      | true => left; exact ⟨n, by omega, hq, h⟩
      | false => right; intro i hi; rcases Nat.lt_or_ge i n with c | c
                 · exact h i c
                 · obtain rfl : i = n := by omega
                   exact hq
theorem track_loop {n : Nat} {σ ρ : Type} {L : Nat → σ → Int → Option ρ} {F : Nat → σ} {r : ρ} {c : Nat}
    (hs : ∀ k i, i < n → c ≤ k → L (k + 1) (F i) (i : Int) = L k (F (i + 1)) ((i + 1 : Nat) : Int))
    (he : ∀ k, c ≤ k → L (k + 1) (F n) (n : Int) = some r) :
    ∀ d i k, i + d = n → d + c < k → L k (F i) (i : Int) = some r := by
  intro d
  induction d with
  | zero =>
    intro i k h hk
    obtain ⟨k, rfl⟩ : ∃ m, k = m + 1 := ⟨k - 1, by omega⟩
    obtain rfl : i = n := by omega
    exact he k (by omega)
  | succ d ih =>
    intro i k h hk
    obtain ⟨k, rfl⟩ : ∃ m, k = m + 1 := ⟨k - 1, by omega⟩
    rw [hs k i (by omega) (by omega)]
    exact ih (i + 1) k (by omega) (by omega)
theorem track_loop0 {n : Nat} {σ ρ : Type} {L : Nat → σ → Int → Option ρ} {F : Nat → σ} {r : ρ} {c : Nat}
    (hs : ∀ k i, i < n → c ≤ k → L (k + 1) (F i) (i : Int) = L k (F (i + 1)) ((i + 1 : Nat) : Int))
    (he : ∀ k, c ≤ k → L (k + 1) (F n) (n : Int) = some r) (k : Nat) (hk : n + c < k) : L k (F 0) 0 = some r :=
  track_loop hs he n 0 k (by omega) hk
theorem all_iff {n : Nat} {Q : Nat → Bool} : (List.range n).all Q = true ↔ ∀ i, i < n → Q i = true := by
  rw [List.all_eq_true]; exact ⟨fun h i hi => h i (List.mem_range.2 hi), fun h i hi => h i (List.mem_range.1 hi)⟩
end Go.Proofs.Ytllpmpfchidhoaa.G
namespace Go.Proofs.Ytllpmpfchidhoaa.C
open Go.RowKit Go.Proofs.Ytllpmpfchidhoaa.P Go.Proofs.Ytllpmpfchidhoaa.G
theorem l1In (a b c : Int) : spec_l1In.f a b c = some (decide (b ≤ a ∧ a ≤ c)) := by
  unfold spec_l1In.f; by_cases h : a ≥ b <;> simp [h] <;> omega
theorem in_ (a b c : Int) : impl_in.f a b c = some (decide (b ≤ a ∧ a ≤ c)) := by
  unfold impl_in.f; by_cases h : b ≤ a <;> simp [h]
theorem l2Time (a : Int) : spec_l2Time.f a = some (decide (0 ≤ a ∧ a ≤ 1000000000000)) := by
  unfold spec_l2Time.f; rw [l1In]; rfl
theorem isTime (a : Int) : impl_isTime.f a = some (decide (0 ≤ a ∧ a ≤ 1000000000000)) := by
  unfold impl_isTime.f; rw [in_]; rfl
theorem l4Node (a : Int) : spec_l4Node.f a = some (decide (0 ≤ a ∧ a ≤ 7)) := by
  unfold spec_l4Node.f; rw [l1In]; rfl
theorem isNode (a : Int) : impl_isNode.f a = some (decide (0 ≤ a ∧ a ≤ 7)) := by
  unfold impl_isNode.f; rw [in_]; rfl
def timeOk (x : Int) : Bool := decide (0 ≤ x ∧ x ≤ 1000000000000)
theorem timeOk_iff (x : Int) : timeOk x = true ↔ 0 ≤ x ∧ x ≤ 1000000000000 := by unfold timeOk; simp
end Go.Proofs.Ytllpmpfchidhoaa.C
namespace Go.Proofs.Ytllpmpfchidhoaa.C
open Go.RowKit Go.Proofs.Ytllpmpfchidhoaa.P Go.Proofs.Ytllpmpfchidhoaa.G Go.Proofs.YtllpmpfchidhoaaW.PrintWords
theorem and255 (n : Int) : Go.bits .and .i64 n 255 = n % 256 := by
  have h : (BitVec.ofInt 64 255).toNat = 2 ^ 8 - 1 := by decide
  have key : (BitVec.ofInt 64 n &&& BitVec.ofInt 64 255).toNat = (n % ((2 ^ 64 : Nat) : Int)).toNat % 2 ^ 8 := by
    rw [BitVec.toNat_and, BitVec.toNat_ofInt, h, Nat.and_two_pow_sub_one_eq_mod]
  show IntKind.i64.wrap ((BitVec.ofInt 64 n &&& BitVec.ofInt 64 255).toNat : Nat) = n % 256
  rw [key, IntKind.wrap_i64]
  omega
def At (s : List Int) (p : Int) : Prop := 0 ≤ p ∧ p ≤ s.length ∧ s.length ≤ 1048576
theorem dByte (s : List Int) (p z : Int) (h : At s p) : ∃ b p' z', spec_l1Byte.f s p z = some (b, p', z') ∧ At s p' ∧ 0 ≤ b ∧ b ≤ 255 := by
  unfold At at *
  unfold spec_l1Byte.f
  by_cases hp : p < (s.length : Int)
  · rw [if_pos hp, if_pos h.1, and255]
    refine ⟨_, _, _, rfl, ⟨?_, ?_, h.2.2⟩, Int.emod_nonneg _ (by omega), by have := Int.emod_lt_of_pos (wrap64 (Go.bits .and .i64 (Go.bits .xor .i64 (wrap64 (wrap64 (z * 6364136223846793005) + 1442695040888963407) / 8589934592) (wrap64 (wrap64 (z * 6364136223846793005) + 1442695040888963407) / 35184372088832)) 255 + wrap64 (rd s p))) (show (0 : Int) < 256 by omega); omega⟩
    · rw [wrap_id (by omega) (by omega)]; omega
    · rw [wrap_id (by omega) (by omega)]; omega
  · rw [if_neg hp, and255]
    refine ⟨_, _, _, rfl, h, Int.emod_nonneg _ (by omega), by have := Int.emod_lt_of_pos (Go.bits .xor .i64 (wrap64 (wrap64 (z * 6364136223846793005) + 1442695040888963407) / 8589934592) (wrap64 (wrap64 (z * 6364136223846793005) + 1442695040888963407) / 35184372088832)) (show (0 : Int) < 256 by omega); omega⟩
theorem dBelow (s : List Int) (p z n : Int) (h : At s p) : ∃ v p' z', spec_l1Below.f s p z n = some (v, p', z') ∧ At s p' ∧ 0 ≤ v ∧ (0 < n → v < n) := by
  unfold spec_l1Below.f
  by_cases h0 : n ≤ 0
  · rw [if_pos h0]; exact ⟨0, p, z, rfl, h, by omega, by omega⟩
  rw [if_neg h0]
  by_cases h1 : n ≤ 256
  · rw [if_pos h1]
    obtain ⟨b, p1, z1, e1, a1, b1, b2⟩ := dByte s p z h
    rw [e1]; simp only [Option.bind_some]
    rw [if_neg (by omega)]
    exact ⟨_, _, _, rfl, a1, Int.tmod_nonneg _ b1, fun _ => Int.tmod_lt_of_pos _ (by omega)⟩
  · rw [if_neg h1]
    obtain ⟨b, p1, z1, e1, a1, b1, b2⟩ := dByte s p z h
    rw [e1]; simp only [Option.bind_some]
    obtain ⟨c, p2, z2, e2, a2, c1, c2⟩ := dByte s p1 z1 a1
    rw [e2]; simp only [Option.bind_some]
    obtain ⟨d, p3, z3, e3, a3, d1, d2⟩ := dByte s p2 z2 a2
    rw [e3]; simp only [Option.bind_some]
    obtain ⟨e, p4, z4, e4, a4, f1, f2⟩ := dByte s p3 z3 a3
    rw [e4]; simp only [Option.bind_some]
    rw [if_neg (by omega), wrap_id (x := b * 16777216) (by omega) (by omega), wrap_id (x := c * 65536) (by omega) (by omega), wrap_id (x := d * 256) (by omega) (by omega), wrap_id (x := b * 16777216 + c * 65536) (by omega) (by omega), wrap_id (x := b * 16777216 + c * 65536 + d * 256) (by omega) (by omega), wrap_id (x := b * 16777216 + c * 65536 + d * 256 + e) (by omega) (by omega)]
    exact ⟨_, _, _, rfl, a4, Int.tmod_nonneg _ (by omega), fun _ => Int.tmod_lt_of_pos _ (by omega)⟩
theorem dPick (s : List Int) (p z : Int) (xs : List Int) (h : At s p) (hx : xs ≠ []) (hl : xs.length ≤ 256) : ∃ v p' z', spec_l1PickInt.f s p z xs = some (v, p', z') ∧ At s p' ∧ v ∈ xs := by
  unfold spec_l1PickInt.f
  have hn : 0 < xs.length := List.length_pos_iff.2 hx
  obtain ⟨v, p1, z1, e1, a1, b1, b2⟩ := dBelow s p z (xs.length : Int) h
  rw [e1]; simp only [Option.bind_some]
  have hv := b2 (by omega)
  rw [if_pos b1, if_pos hv]
  obtain ⟨i, rfl⟩ := Int.eq_ofNat_of_zero_le b1
  have hi : i < xs.length := by omega
  refine ⟨_, _, _, rfl, a1, ?_⟩
  have : rd xs (i : Int) = xs[i] := by unfold rd; simp [List.getD, hi]
  rw [this]; exact List.getElem_mem hi
theorem dOnce (s : List Int) (p z n : Int) (h : At s p) : ∃ v p' z', spec_l1Once.f s p z n = some (v, p', z') ∧ At s p' := by
  unfold spec_l1Once.f
  obtain ⟨v, p1, z1, e1, a1, b1, b2⟩ := dBelow s p z n h
  rw [e1]; exact ⟨_, _, _, rfl, a1⟩
theorem dNew (s : List Int) (hs : s.length ≤ 1048576) (k : Nat) (hk : 4100 < k) : ∃ z, spec_l1New.f k s = some (s, 0, z) ∧ At s 0 := by
  unfold spec_l1New.f
  have : ∀ (d i k : Nat) (z : Int), i + d = 4000 → d < k → ∃ z', spec_l1New.l0 k s z (i : Int) = some (s, 0, z') := by
    intro d
    induction d with
    | zero =>
      intro i k z hi hk
      obtain ⟨k, rfl⟩ : ∃ j, k = j + 1 := ⟨k - 1, by omega⟩
      simp only [spec_l1New.l0]
      obtain rfl : i = 4000 := by omega
      split
      · exact ⟨_, by rw [if_neg (by omega)]⟩
      · exact ⟨_, rfl⟩
    | succ d ih =>
      intro i k z hi hk
      obtain ⟨k, rfl⟩ : ∃ j, k = j + 1 := ⟨k - 1, by omega⟩
      simp only [spec_l1New.l0]
      split
      · rw [if_pos (by omega), if_pos (by omega), wrap_succ (n := 4000) (by omega) (by omega)]
        exact ih (i + 1) k _ (by omega) (by omega)
      · exact ⟨_, rfl⟩
  obtain ⟨z, h⟩ := this 4000 0 k (wrap64 (72072 + (s.length : Int))) (by omega) (by omega)
  exact ⟨z, h, by unfold At; omega⟩
end Go.Proofs.Ytllpmpfchidhoaa.C
namespace Go.Proofs.Ytllpmpfchidhoaa.C
open Go.RowKit Go.Proofs.Ytllpmpfchidhoaa.P Go.Proofs.Ytllpmpfchidhoaa.G
abbrev Sl := S42
theorem rdSl (l : List Sl) (i : Nat) (h : i < l.length) : rd_T42 l (i : Int) = l[i] := by
  unfold rd_T42; simp [List.getD, h]
def slotOk (x : Sl) : Bool := decide (0 ≤ x.f0 ∧ x.f0 ≤ 7) && decide (1 ≤ x.f1 ∧ x.f1 ≤ 1000000)
def slotsOk (l : List Sl) : Bool := (List.range l.length).all fun i => match l[i]? with | some x => slotOk x | none => true
def planOk (st gap : Int) (l : List Sl) : Bool := decide (0 ≤ st ∧ st ≤ 1000000000000) && decide (0 ≤ gap ∧ gap ≤ 100000) && decide ((1 : Int) ≤ l.length ∧ (l.length : Int) ≤ 12) && slotsOk l
theorem slotsOk_get {l : List Sl} (h : slotsOk l = true) (i : Nat) (hi : i < l.length) : 0 ≤ l[i].f0 ∧ l[i].f0 ≤ 7 ∧ 1 ≤ l[i].f1 ∧ l[i].f1 ≤ 1000000 := by
  unfold slotsOk at h; rw [all_iff] at h
  have := h i hi
  rw [List.getElem?_eq_getElem hi] at this
  simp [slotOk] at this; omega
theorem planOk_iff (st gap : Int) (l : List Sl) : planOk st gap l = true ↔ (0 ≤ st ∧ st ≤ 1000000000000) ∧ (0 ≤ gap ∧ gap ≤ 100000) ∧ (1 ≤ l.length ∧ l.length ≤ 12) ∧ slotsOk l = true := by
  unfold planOk; simp only [Bool.and_eq_true, decide_eq_true_eq]; constructor
  · rintro ⟨⟨⟨h1, h2⟩, h3⟩, h4⟩; exact ⟨h1, h2, by omega, h4⟩
  · rintro ⟨h1, h2, h3, h4⟩; exact ⟨⟨⟨h1, h2⟩, by omega⟩, h4⟩
theorem iIndexSlot (l : List Sl) (hl : l.length ≤ 1048576) (k : Nat) (hk : l.length < k) : ∃ r, slices_IndexFunc_Slot.f k l = some r ∧ decide (r ≥ 0) = !slotsOk l := by
  have h1 : ∀ x : Sl, impl_PlanOk_1.f x.f0 x.f1 = some (!slotOk x) := by
    intro x; unfold impl_PlanOk_1.f slotOk; simp only [isNode, in_, Option.bind_some]
    cases decide (0 ≤ x.f0 ∧ x.f0 ≤ 7) <;> simp
  unfold slices_IndexFunc_Slot.f
  have := find_loop0 (n := l.length) (L := fun k i => slices_IndexFunc_Slot.l0 k l (l.length : Int) i) (Q := fun i => match l[i]? with | some x => !slotOk x | none => false) (r := fun i => (i : Int)) (e := -1) (c := 0) (fun k i hi _ => ?_) (fun k => ?_) k (by omega)
  · refine ⟨_, this, ?_⟩
    rcases first_of (Q := fun i => match l[i]? with | some x => !slotOk x | none => false) l.length with ⟨j, h2, h3, h4⟩ | h2
    · rw [found_some h2 h3 h4]
      have : slotsOk l = false := by
        cases hs : slotsOk l with
        | false => rfl
        | true =>
          unfold slotsOk at hs; rw [all_iff] at hs
          have := hs j h2
          rw [List.getElem?_eq_getElem h2] at this h3
          simp at this h3; rw [this] at h3; cases h3
      rw [this]; simp
    · rw [found_none h2]
      have : slotsOk l = true := by
        unfold slotsOk; rw [all_iff]; intro i hi
        have := h2 i hi
        rw [List.getElem?_eq_getElem hi] at this ⊢
        simpa using this
      rw [this]; simp
  · simp only [slices_IndexFunc_Slot.l0]
    rw [if_pos (by omega), if_pos (by omega), if_pos (by omega), wrap_succ hi (by omega), rdSl l i hi, h1, List.getElem?_eq_getElem hi]
    rfl
  · simp only [slices_IndexFunc_Slot.l0]
    rw [if_neg (by omega)]
theorem iPlanOk (st gap : Int) (l : List Sl) (hl : l.length ≤ 1048576) (k : Nat) (hk : l.length < k) : impl_PlanOk.f k st gap l = some (planOk st gap l) := by
  obtain ⟨r, h1, h2⟩ := iIndexSlot l hl k hk
  unfold impl_PlanOk.f planOk slices_ContainsFunc_Slot.f; simp only [isTime, in_, h1, h2, Option.bind_some]
  cases decide (0 ≤ st ∧ st ≤ 1000000000000) <;> cases decide (0 ≤ gap ∧ gap ≤ 100000) <;> cases decide ((1 : Int) ≤ l.length ∧ (l.length : Int) ≤ 12) <;> simp
theorem sPlanOk (st gap : Int) (l : List Sl) (hl : l.length ≤ 1048576) (k : Nat) (hk : l.length + 1 < k) : spec_PlanOk.f k st gap l = some (planOk st gap l) := by
  obtain ⟨k, rfl⟩ : ∃ j, k = j + 1 := ⟨k - 1, by omega⟩
  have hL : spec_PlanOk.l0 k 0 st gap l = some (slotsOk l) := by
    unfold slotsOk
    have := all_loop0 (n := l.length) (L := fun k i => spec_PlanOk.l0 k i st gap l) (Q := fun i => match l[i]? with | some x => slotOk x | none => true) (e := true) (fun k i hi => ?_) (fun k => ?_) k (by omega)
    · simpa using this
    · simp only [spec_PlanOk.l0, l4Node, l1In, Option.bind_some]
      rw [if_pos (by omega), if_pos (by omega), wrap_succ hi (by omega), rdSl l i hi, List.getElem?_eq_getElem hi]
      simp only [slotOk]
      by_cases h1 : (0 ≤ l[i].f0 ∧ l[i].f0 ≤ 7) <;> by_cases h2 : (1 ≤ l[i].f1 ∧ l[i].f1 ≤ 1000000) <;> simp [h1, h2]
    · simp only [spec_PlanOk.l0]
      rw [if_neg (by omega)]
  unfold spec_PlanOk.f planOk; simp only [l2Time, l1In, Option.bind_some, spec_PlanOk.j0, hL]
  cases decide (0 ≤ st ∧ st ≤ 1000000000000) <;> cases decide (0 ≤ gap ∧ gap ≤ 100000) <;> cases decide ((1 : Int) ≤ l.length ∧ (l.length : Int) ≤ 12) <;> simp
end Go.Proofs.Ytllpmpfchidhoaa.C
namespace Go.Proofs.Ytllpmpfchidhoaa.C
open Go.RowKit Go.Proofs.Ytllpmpfchidhoaa.P Go.Proofs.Ytllpmpfchidhoaa.G Go.Proofs.YtllpmpfchidhoaaW.PrintWords
theorem dCount (s : List Int) (p z : Int) (h : At s p) : ∃ v p' z', spec_l2DrawCount.f s p z = some (v, p', z') ∧ At s p' ∧ -1 ≤ v ∧ v ≤ 9223372036854775807 := by
  unfold spec_l2DrawCount.f
  obtain ⟨a, p1, z1, e1, a1, _, _⟩ := dBelow s p z 14 h
  rw [e1]; simp only [Option.bind_some]
  split
  · obtain ⟨v, p2, z2, e2, a2, hv⟩ := dPick s p1 z1 [(-1), 0, 1000000000000, 1000000000001, 500000000000, 666666666666, 9223372036854775807] a1 (by simp) (by simp)
    rw [e2]
    refine ⟨_, _, _, rfl, a2, ?_⟩
    simp at hv; omega
  · split
    · obtain ⟨v, p2, z2, e2, a2, h1, h2⟩ := dBelow s p1 z1 1000000000 a1
      rw [e2]
      have := h2 (by omega)
      refine ⟨_, _, _, rfl, a2, ?_⟩
      rw [wrap_id (by omega) (by omega)]; omega
    · split
      · obtain ⟨v, p2, z2, e2, a2, h1, h2⟩ := dBelow s p1 z1 6 a1
        rw [e2]
        have := h2 (by omega)
        exact ⟨_, _, _, rfl, a2, by omega⟩
      · obtain ⟨v, p2, z2, e2, a2, h1, h2⟩ := dBelow s p1 z1 5000 a1
        rw [e2]
        have := h2 (by omega)
        exact ⟨_, _, _, rfl, a2, by omega⟩
theorem dPlanL (s : List Int) (st gap : Int) (n : Nat) (hn : n ≤ 12) : ∀ d i k p z (l : List Sl), i + d = n → d < k → At s p → l.length = i → (∀ y ∈ l, 0 ≤ y.f0 ∧ y.f0 ≤ 3 ∧ 1 ≤ y.f1 ∧ y.f1 ≤ 60) →
    ∃ l' p' z', spec_l13DrawPlan.l0 k (n : Int) (i : Int) s p z st gap l = some (st, gap, l', p', z') ∧ At s p' ∧ l'.length = n ∧ ∀ y ∈ l', 0 ≤ y.f0 ∧ y.f0 ≤ 3 ∧ 1 ≤ y.f1 ∧ y.f1 ≤ 60 := by
  intro d
  induction d with
  | zero =>
    intro i k p z l hi hk h hl hy
    obtain ⟨k, rfl⟩ : ∃ j, k = j + 1 := ⟨k - 1, by omega⟩
    simp only [spec_l13DrawPlan.l0]
    rw [if_neg (by omega)]
    exact ⟨_, _, _, rfl, h, by omega, hy⟩
  | succ d ih =>
    intro i k p z l hi hk h hl hy
    obtain ⟨k, rfl⟩ : ∃ j, k = j + 1 := ⟨k - 1, by omega⟩
    simp only [spec_l13DrawPlan.l0]
    obtain ⟨a, p1, z1, e1, a1, b1, b2⟩ := dBelow s p z 4 h
    rw [if_pos (by omega), e1]; simp only [Option.bind_some]
    obtain ⟨b, p2, z2, e2, a2, c1, c2⟩ := dBelow s p1 z1 60 a1
    rw [e2]; simp only [Option.bind_some]
    have := b2 (by omega); have := c2 (by omega)
    rw [if_pos (by omega), wrap_succ (n := n) (by omega) (by omega), wrap_id (x := 1 + b) (by omega) (by omega)]
    refine ih (i + 1) k _ _ _ (by omega) (by omega) a2 (by simp; omega) (fun y hy2 => ?_)
    rw [List.mem_append] at hy2
    rcases hy2 with hy2 | hy2
    · exact hy y hy2
    · simp at hy2; subst hy2; simp only; omega
theorem dPlan (s : List Int) (p z : Int) (h : At s p) (k : Nat) (hk : 20 ≤ k) : ∃ st gap l p' z', spec_l13DrawPlan.f k s p z = some (st, gap, l, p', z') ∧ At s p' ∧ (1 ≤ l.length ∧ l.length ≤ 12) ∧ (0 ≤ st ∧ st ≤ 39) ∧ (0 ≤ gap ∧ gap ≤ 5) ∧ ∀ y ∈ l, 0 ≤ y.f0 ∧ y.f0 ≤ 3 ∧ 1 ≤ y.f1 ∧ y.f1 ≤ 60 := by
  obtain ⟨k, rfl⟩ : ∃ j, k = j + 1 := ⟨k - 1, by omega⟩
  unfold spec_l13DrawPlan.f
  obtain ⟨st, p1, z1, e1, a1, b1, b2⟩ := dBelow s p z 40 h
  rw [e1]; simp only [Option.bind_some]
  obtain ⟨gap, p2, z2, e2, a2, c1, c2⟩ := dBelow s p1 z1 6 a1
  rw [e2]; simp only [Option.bind_some]
  obtain ⟨n, p3, z3, e3, a3, d1, d2⟩ := dBelow s p2 z2 5 a2
  rw [e3]; simp only [Option.bind_some]
  obtain ⟨o, p4, z4, e4, a4⟩ := dOnce s p3 z3 20 a3
  rw [e4]; simp only [Option.bind_some, spec_l13DrawPlan.j0]
  have := b2 (by omega); have := c2 (by omega); have := d2 (by omega)
  have hP : ∀ m : Nat, 1 ≤ m → m ≤ 12 → ∃ l' p' z', spec_l13DrawPlan.l0 k (m : Int) 0 s p4 z4 st gap [] = some (st, gap, l', p', z') ∧ At s p' ∧ l'.length = m ∧ ∀ y ∈ l', 0 ≤ y.f0 ∧ y.f0 ≤ 3 ∧ 1 ≤ y.f1 ∧ y.f1 ≤ 60 := fun m h1 h2 => dPlanL s st gap m h2 m 0 k p4 z4 [] (by omega) (by omega) a4 rfl (fun y hy => by cases hy)
  split
  · obtain ⟨l, p5, z5, e5, a5, hl, hy⟩ := hP 12 (by omega) (by omega)
    exact ⟨_, _, _, _, _, e5, a5, by omega, by omega, by omega, hy⟩
  · rw [wrap_id (x := 1 + n) (by omega) (by omega)]
    obtain ⟨m, hm⟩ := Int.eq_ofNat_of_zero_le (show 0 ≤ 1 + n by omega)
    rw [hm]
    obtain ⟨l, p5, z5, e5, a5, hl, hy⟩ := hP m (by omega) (by omega)
    exact ⟨_, _, _, _, _, e5, a5, by omega, by omega, by omega, hy⟩
theorem dAnyL (s : List Int) (st gap p z : Int) : ∀ d k (l : List Sl), l.length + d = 13 → d < k → ∃ l', spec_l13DrawAny.l0 k s p z st gap l = some (st, gap, l', p, z) ∧ l'.length = 13 := by
  intro d
  induction d with
  | zero =>
    intro k l hl hk
    obtain ⟨k, rfl⟩ : ∃ j, k = j + 1 := ⟨k - 1, by omega⟩
    simp only [spec_l13DrawAny.l0]
    rw [if_neg (by omega)]; exact ⟨_, rfl, by omega⟩
  | succ d ih =>
    intro k l hl hk
    obtain ⟨k, rfl⟩ : ∃ j, k = j + 1 := ⟨k - 1, by omega⟩
    simp only [spec_l13DrawAny.l0]
    rw [if_pos (by omega), if_pos (by omega)]
    exact ih k _ (by simp; omega) (by omega)
theorem dAny (s : List Int) (p z : Int) (h : At s p) (k : Nat) (hk : 30 ≤ k) : ∃ st gap l p' z', spec_l13DrawAny.f k s p z = some (st, gap, l, p', z') ∧ At s p' ∧ l.length ≤ 13 := by
  unfold spec_l13DrawAny.f
  obtain ⟨st, gap, l, p1, z1, e1, a1, hl, _⟩ := dPlan s p z h k (by omega)
  rw [e1]; simp only [Option.bind_some]
  obtain ⟨v, p2, z2, e2, a2, _, _⟩ := dBelow s p1 z1 25 a1
  rw [e2]; simp only [Option.bind_some]
  split
  · obtain ⟨w, p3, z3, e3, a3, _⟩ := dCount s p2 z2 a2
    rw [e3]; exact ⟨_, _, _, _, _, rfl, a3, by omega⟩
  split
  · obtain ⟨w, p3, z3, e3, a3, _⟩ := dPick s p2 z2 [(-1), 100000, 100001] a2 (by simp) (by simp)
    rw [e3]; exact ⟨_, _, _, _, _, rfl, a3, by omega⟩
  split
  · obtain ⟨w, p3, z3, e3, a3, _⟩ := dPick s p2 z2 [(-1), 8, 7] a2 (by simp) (by simp)
    rw [e3]; simp only [Option.bind_some]; rw [if_pos (by omega)]; exact ⟨_, _, _, _, _, rfl, a3, by simp; omega⟩
  split
  · obtain ⟨w, p3, z3, e3, a3, _⟩ := dPick s p2 z2 [0, 1000000, 1000001] a2 (by simp) (by simp)
    rw [e3]; simp only [Option.bind_some]; rw [if_pos (by omega)]; exact ⟨_, _, _, _, _, rfl, a3, by simp; omega⟩
  split
  · exact ⟨_, _, _, _, _, rfl, a2, by simp⟩
  split
  · obtain ⟨l', e, hl'⟩ := dAnyL s st gap p2 z2 (13 - l.length) k l (by omega) (by omega)
    exact ⟨_, _, _, _, _, e, a2, by omega⟩
  · exact ⟨_, _, _, _, _, rfl, a2, by omega⟩
theorem dDrift2 (s : List Int) (p z : Int) (h : At s p) : ∃ n d p' z', spec_l2DrawDrift.f s p z = some (n, d, p', z') ∧ At s p' := by
  unfold spec_l2DrawDrift.f
  obtain ⟨a, p1, z1, e1, a1, _, _⟩ := dBelow s p z 6 h
  rw [e1]; simp only [Option.bind_some]
  obtain ⟨b, p2, z2, e2, a2, _, _⟩ := dBelow s p1 z1 90 a1
  rw [e2]; simp only [Option.bind_some]
  obtain ⟨c, p3, z3, e3, a3, _, _⟩ := dBelow s p2 z2 16 a2
  rw [e3]; simp only [Option.bind_some]
  split
  · obtain ⟨x, p4, z4, e4, a4, _⟩ := dPick s p3 z3 [0, 1, 500000, 500001, 100] a3 (by simp) (by simp)
    rw [e4]; simp only [Option.bind_some]
    obtain ⟨y, p5, z5, e5, a5, _⟩ := dPick s p4 z4 [1000000, 1000001, 999999] a4 (by simp) (by simp)
    rw [e5]; exact ⟨_, _, _, _, rfl, a5⟩
  split
  · obtain ⟨x, p4, z4, e4, a4, _⟩ := dPick s p3 z3 [0, 1, (-1), 3] a3 (by simp) (by simp)
    rw [e4]; simp only [Option.bind_some]
    obtain ⟨y, p5, z5, e5, a5, _⟩ := dPick s p4 z4 [0, 1, 2, 3, 6, (-1)] a4 (by simp) (by simp)
    rw [e5]; exact ⟨_, _, _, _, rfl, a5⟩
  split
  · exact ⟨_, _, _, _, rfl, a3⟩
  · exact ⟨_, _, _, _, rfl, a3⟩
end Go.Proofs.Ytllpmpfchidhoaa.C
namespace Go.Proofs.Ytllpmpfchidhoaa.C
open Go.RowKit Go.Proofs.Ytllpmpfchidhoaa.P Go.Proofs.Ytllpmpfchidhoaa.G
def ivalOk (a b : Int) : Bool := decide (-1000000000000 ≤ a) && decide (a ≤ b) && decide (b ≤ 1000000000000)
theorem ivalOk_iff (a b : Int) : ivalOk a b = true ↔ -1000000000000 ≤ a ∧ a ≤ b ∧ b ≤ 1000000000000 := by unfold ivalOk; simp; omega
theorem sIvalOk (a b : Int) : spec_IvalOk.f a b = some (ivalOk a b) := by
  have e : ivalOk a b = decide (-1000000000000 ≤ a ∧ a ≤ b ∧ b ≤ 1000000000000) := by
    rw [Bool.eq_iff_iff, ivalOk_iff, decide_eq_true_iff]
  rw [e]
  unfold spec_IvalOk.f; simp only [l1In, Option.bind_some]
  by_cases h1 : a ≤ b
  · rw [if_pos h1]
    by_cases h2 : (-1000000000000 ≤ a ∧ a ≤ 1000000000000)
    · rw [decide_eq_true h2, if_pos rfl]; congr 1; rw [decide_eq_decide]; omega
    · rw [decide_eq_false h2, if_neg (by decide)]; congr 1; symm; apply decide_eq_false; omega
  · rw [if_neg h1]; congr 1; symm; apply decide_eq_false; omega
theorem iIvalOk (a b : Int) : impl_IvalOk.f a b = some (ivalOk a b) := by
  unfold impl_IvalOk.f ivalOk
  by_cases h1 : a ≤ b <;> by_cases h2 : -1000000000000 ≤ a <;> by_cases h3 : b ≤ 1000000000000 <;> simp [h1, h2, h3]
def ivalT (a b : Int) : Int × Int × Bool := if ivalOk a b = true then (a, b, true) else (0, 0, false)
theorem sTold (a b : Int) : spec_l1Told.f a b = some (ivalT a b) := by
  unfold spec_l1Told.f ivalT; rw [sIvalOk]; simp only [Option.bind_some]; split <;> rfl
theorem iIval (a b : Int) : impl_ival.f a b = some (ivalT a b) := by
  unfold impl_ival.f ivalT; rw [iIvalOk]; simp only [Option.bind_some]; split <;> rfl
end Go.Proofs.Ytllpmpfchidhoaa.C
namespace Go.Proofs.Ytllpmpfchidhoaa.P
open Go.RowKit Go.Proofs.YtllpmpfchidhoaaW.PrintWords Go.Proofs.YtllpmpfchidhoaaW.PrintLast Go.Proofs.YtllpmpfchidhoaaW.PrintMore
attribute [local go_sem] max2_int min2_int max_two min_two max_three min_three max_four min_four
set_option linter.unusedVariables false
set_option linter.unusedSimpArgs false
end Go.Proofs.Ytllpmpfchidhoaa.P

namespace Go.Proofs.Ytllpmpfchidhoaa.P
open Go.RowKit Go.Proofs.YtllpmpfchidhoaaW.PrintWords Go.Proofs.YtllpmpfchidhoaaW.PrintLast Go.Proofs.YtllpmpfchidhoaaW.PrintMore
attribute [local go_sem] max2_int min2_int max_two min_two max_three min_three max_four min_four
set_option linter.unusedVariables false
set_option linter.unusedSimpArgs false
end Go.Proofs.Ytllpmpfchidhoaa.P

namespace Go.Proofs.Ytllpmpfchidhoaa.C
open Go.RowKit Go.Proofs.Ytllpmpfchidhoaa.P Go.Proofs.Ytllpmpfchidhoaa.G
def uptoL (gap : Int) : List Sl → Int
  | [] => 0
  | x :: xs => x.f1 + gap + uptoL gap xs
theorem uptoL_append (gap : Int) (a b : List Sl) : uptoL gap (a ++ b) = uptoL gap a + uptoL gap b := by
  induction a with
  | nil => simp [uptoL]
  | cons x xs ih => simp only [List.cons_append, uptoL, ih]; omega
def upto (gap : Int) (l : List Sl) (n : Nat) : Int := uptoL gap (l.take n)
theorem upto_zero (gap : Int) (l : List Sl) : upto gap l 0 = 0 := rfl
theorem upto_succ (gap : Int) (l : List Sl) (i : Nat) (h : i < l.length) : upto gap l (i + 1) = upto gap l i + (l[i].f1 + gap) := by
  unfold upto; rw [List.take_succ_eq_append_getElem h, uptoL_append]; simp [uptoL]
def round (gap : Int) (l : List Sl) : Int := upto gap l l.length
theorem upto_bd {st gap : Int} {l : List Sl} (h : planOk st gap l = true) : ∀ n, n ≤ l.length → (n : Int) ≤ upto gap l n ∧ upto gap l n ≤ 1100000 * n := by
  rw [planOk_iff] at h
  intro n
  induction n with
  | zero => intro _; rw [upto_zero]; omega
  | succ n ih =>
    intro hn
    have h1 := ih (by omega)
    have h2 := slotsOk_get h.2.2.2 n (by omega)
    rw [upto_succ gap l n (by omega)]
    omega
theorem round_bd {st gap : Int} {l : List Sl} (h : planOk st gap l = true) : 1 ≤ round gap l ∧ round gap l ≤ 13200000 := by
  have h1 := upto_bd h l.length (Nat.le_refl _)
  rw [planOk_iff] at h
  unfold round; omega
theorem upto_mono {st gap : Int} {l : List Sl} (h : planOk st gap l = true) (i : Nat) : ∀ j, (hj : i < j) → (hl : j ≤ l.length) → upto gap l i + (l[i]'(by omega)).f1 + gap ≤ upto gap l j := by
  have h' := h
  rw [planOk_iff] at h'
  intro j
  induction j with
  | zero => intro hj; omega
  | succ j ih =>
    intro hj hl
    rw [upto_succ gap l j (by omega)]
    have h2 := slotsOk_get h'.2.2.2 j (by omega)
    rcases Nat.lt_or_ge i j with c | c
    · have := ih c (by omega); omega
    · obtain rfl : i = j := by omega
      omega
theorem iFrom {st gap : Int} {l : List Sl} (h : planOk st gap l = true) (n : Nat) (hn : n ≤ l.length) (k : Nat) (hk : 20 ≤ k) : impl_Plan_from.f k st gap l (n : Int) = some (upto gap l n) := by
  have h' := h
  rw [planOk_iff] at h'
  unfold impl_Plan_from.f
  rw [if_pos (by omega), if_pos (by omega)]
  simp only [Option.bind_some, Int.toNat_natCast]
  have hy : (l.take n).length = n := by simp; omega
  rw [hy]
  refine track_loop0 (n := n) (c := 0) (L := fun k s i => impl_Plan_from.l0 k s (l.take n) (n : Int) i st gap l) (F := fun i => upto gap l i) (fun k i hi _ => ?_) (fun k _ => ?_) k (by omega)
  · simp only [impl_Plan_from.l0]
    have hb := upto_bd h i (by omega)
    have hs := slotsOk_get h'.2.2.2 i (by omega)
    rw [if_pos (by omega), if_pos (by omega), if_pos (by omega), wrap_succ hi (by omega), rdSl (l.take n) i (by omega), List.getElem_take, upto_succ gap l i (by omega), wrap_id (x := l[i].f1 + gap) (by omega) (by omega), wrap_id (by omega) (by omega)]
  · simp only [impl_Plan_from.l0]
    rw [if_neg (by omega)]
theorem iRound {st gap : Int} {l : List Sl} (h : planOk st gap l = true) (k : Nat) (hk : 20 ≤ k) : impl_Plan_round.f k st gap l = some (round gap l) := by
  unfold impl_Plan_round.f; rw [iFrom h l.length (Nat.le_refl _) k hk]; rfl
theorem sUpto {st gap : Int} {l : List Sl} (h : planOk st gap l = true) (n : Nat) (hn : n ≤ l.length) (k : Nat) (hk : 20 ≤ k) : spec_l13Upto.f k st gap l (n : Int) = some (upto gap l n) := by
  have h' := h
  rw [planOk_iff] at h'
  unfold spec_l13Upto.f
  refine track_loop0 (n := n) (c := 0) (L := fun k s i => spec_l13Upto.l0 k (n : Int) s i st gap l) (F := fun i => upto gap l i) (fun k i hi _ => ?_) (fun k _ => ?_) k (by omega)
  · simp only [spec_l13Upto.l0]
    have hb := upto_bd h i (by omega)
    have hs := slotsOk_get h'.2.2.2 i (by omega)
    rw [if_pos (by omega), if_pos (by omega), if_pos (by omega), wrap_succ hi (by omega), rdSl l i (by omega), upto_succ gap l i (by omega), wrap_id (x := upto gap l i + l[i].f1) (by omega) (by omega), wrap_id (by omega) (by omega)]
    congr 1; omega
  · simp only [spec_l13Upto.l0]
    rw [if_neg (by omega)]
theorem sRoundOf' {st gap : Int} {l : List Sl} (h : planOk st gap l = true) (k : Nat) (hk : 20 ≤ k) : spec_RoundOf.f k st gap l = some (round gap l) := by
  have h' := h
  rw [planOk_iff] at h'
  unfold spec_RoundOf.f; rw [sPlanOk st gap l (by omega) k (by omega), h]
  simp only [Option.bind_some]
  rw [if_pos trivial, sUpto h l.length (Nat.le_refl _) k (by omega)]; rfl
def isSlot (st gap : Int) (l : List Sl) (i : Int) : Bool := planOk st gap l && decide (0 ≤ i ∧ i < l.length)
theorem isSlot_iff (st gap : Int) (l : List Sl) (i : Int) : isSlot st gap l i = true ↔ planOk st gap l = true ∧ 0 ≤ i ∧ i < l.length := by unfold isSlot; simp
theorem sSlot (st gap : Int) (l : List Sl) (hl : l.length ≤ 1048576) (i : Int) (k : Nat) (hk : 1050000 ≤ k) : spec_l13Slot.f k st gap l i = some (isSlot st gap l i) := by
  unfold spec_l13Slot.f isSlot; rw [sPlanOk st gap l hl k (by omega)]
  simp only [Option.bind_some, l1In]
  rw [wrap_id (by omega) (by omega)]
  cases planOk st gap l with
  | false => rfl
  | true => rw [if_pos rfl, Bool.true_and]; congr 1; rw [decide_eq_decide]; omega
theorem sSlot' {st gap : Int} {l : List Sl} (h : planOk st gap l = true) (i : Nat) (hi : i < l.length) (k : Nat) (hk : 20 ≤ k) : spec_l13Slot.f k st gap l (i : Int) = some true := by
  have h' := h
  rw [planOk_iff] at h'
  unfold spec_l13Slot.f; rw [sPlanOk st gap l (by omega) k (by omega), h]
  simp only [Option.bind_some, l1In]
  rw [wrap_id (by omega) (by omega), if_pos trivial, decide_eq_true (by omega)]
theorem iSlot (st gap : Int) (l : List Sl) (hl : l.length ≤ 1048576) (i : Int) (k : Nat) (hk : 1050000 ≤ k) : impl_isSlot.f k st gap l i = some (isSlot st gap l i) := by
  unfold impl_isSlot.f isSlot; rw [iPlanOk st gap l hl k (by omega)]
  simp only [Option.bind_some, in_]
  rw [wrap_id (by omega) (by omega)]
  cases planOk st gap l with
  | false => rfl
  | true => rw [if_pos rfl, Bool.true_and]; congr 1; rw [decide_eq_decide]; omega
theorem iSlot' {st gap : Int} {l : List Sl} (h : planOk st gap l = true) (i : Nat) (hi : i < l.length) (k : Nat) (hk : 20 ≤ k) : impl_isSlot.f k st gap l (i : Int) = some true := by
  have h' := h
  rw [planOk_iff] at h'
  unfold impl_isSlot.f; rw [iPlanOk st gap l (by omega) k (by omega), h]
  simp only [Option.bind_some, in_]
  rw [wrap_id (by omega) (by omega), if_pos trivial, decide_eq_true (by omega)]
def occ (st gap : Int) (l : List Sl) (i : Nat) (q : Int) : Int × Int × Bool := if 0 ≤ q ∧ q ≤ 1000000000000 / round gap l then ivalT (st + q * round gap l + upto gap l i) (st + q * round gap l + upto gap l i + (match l[i]? with | some x => x.f1 | none => 0)) else (0, 0, false)
def occurrence (st gap : Int) (l : List Sl) (i q : Int) : Int × Int × Bool := if isSlot st gap l i = true then occ st gap l i.toNat q else (0, 0, false)
theorem q_bd {r q : Int} (hr : 1 ≤ r) (h : 0 ≤ q ∧ q ≤ 1000000000000 / r) : 0 ≤ q * r ∧ q * r ≤ 1000000000000 ∧ q ≤ 1000000000000 := by
  have h1 : q * r ≤ 1000000000000 := Int.le_trans (Int.mul_le_mul_of_nonneg_right h.2 (by omega)) (Int.ediv_mul_le _ (by omega))
  have h2 : 0 ≤ q * r := Int.mul_nonneg h.1 (by omega)
  have h3 : q * 1 ≤ q * r := Int.mul_le_mul_of_nonneg_left hr h.1
  omega
theorem div_bd {r : Int} (hr : 1 ≤ r) : 0 ≤ (1000000000000 : Int) / r ∧ (1000000000000 : Int) / r ≤ 1000000000000 :=
  ⟨Int.ediv_nonneg (by omega) (by omega), Int.ediv_le_self _ (by omega)⟩
theorem occ_told {st gap : Int} {l : List Sl} (h : planOk st gap l = true) (i : Nat) (hi : i < l.length) (q : Int) (hq : 0 ≤ q ∧ q ≤ 1000000000000 / round gap l) :
    (0 ≤ st + q * round gap l + upto gap l i ∧ st + q * round gap l + upto gap l i + l[i].f1 ≤ 3000000000000) ∧ wrap64 (wrap64 (st + wrap64 (q * round gap l)) + upto gap l i) = st + q * round gap l + upto gap l i ∧ wrap64 (st + q * round gap l + upto gap l i + l[i].f1) = st + q * round gap l + upto gap l i + l[i].f1 := by
  have hr := round_bd h
  have hb := q_bd hr.1 hq
  have hu := upto_bd h i (by omega)
  rw [planOk_iff] at h
  have hs := slotsOk_get h.2.2.2 i hi
  refine ⟨by omega, ?_, wrap_id (by omega) (by omega)⟩
  rw [wrap_id (x := q * round gap l) (by omega) (by omega), wrap_id (x := st + q * round gap l) (by omega) (by omega), wrap_id (by omega) (by omega)]
theorem sOcc {st gap : Int} {l : List Sl} (h : planOk st gap l = true) (i : Nat) (hi : i < l.length) (q : Int) (k : Nat) (hk : 30 ≤ k) : spec_Occurrence.f k st gap l (i : Int) q = some (occ st gap l i q) := by
  obtain ⟨k, rfl⟩ : ∃ j, k = j + 1 := ⟨k - 1, by omega⟩
  have hr := round_bd h
  have hd := div_bd hr.1
  unfold spec_Occurrence.f occ
  rw [sSlot' h i hi _ (by omega), sRoundOf' h _ (by omega)]
  simp only [Option.bind_some, l1In, spec_Occurrence.j0, if_true]
  rw [sRoundOf' h _ (by omega), sUpto h i (by omega) _ (by omega)]
  simp only [Option.bind_some]
  rw [if_neg (show ¬ round gap l = 0 by omega), Int.tdiv_eq_ediv_of_nonneg (by omega : (0 : Int) ≤ 1000000000000), wrap_id (x := 1000000000000 / round gap l) (by omega) (by omega), if_pos (show (0 : Int) ≤ i by omega), if_pos (show (i : Int) < l.length by omega), rdSl l i hi, List.getElem?_eq_getElem hi]
  by_cases hq : 0 ≤ q ∧ q ≤ 1000000000000 / round gap l
  · have ht := occ_told h i hi q hq
    have hb := q_bd hr.1 hq
    rw [decide_eq_true (by omega : 0 ≤ q ∧ q ≤ 1000000000000), if_pos rfl, decide_eq_false (by omega), if_neg (by decide), if_pos hq, ht.2.1, ht.2.2, sTold]
    rfl
  · rw [if_neg hq]
    by_cases h1 : 0 ≤ q ∧ q ≤ 1000000000000
    · rw [decide_eq_true h1, if_pos rfl, decide_eq_true (by omega), if_pos rfl]
    · rw [decide_eq_false h1]; rfl
theorem iOcc {st gap : Int} {l : List Sl} (h : planOk st gap l = true) (i : Nat) (hi : i < l.length) (q : Int) (k : Nat) (hk : 30 ≤ k) : impl_Occurrence.f k st gap l (i : Int) q = some (occ st gap l i q) := by
  obtain ⟨k, rfl⟩ : ∃ j, k = j + 1 := ⟨k - 1, by omega⟩
  have hr := round_bd h
  have hd := div_bd hr.1
  unfold impl_Occurrence.f occ
  rw [iSlot' h i hi _ (by omega), iRound h _ (by omega)]
  simp only [Option.bind_some, in_, impl_Occurrence.j0, if_true]
  rw [iRound h _ (by omega), iFrom h i (by omega) _ (by omega)]
  simp only [Option.bind_some]
  rw [if_neg (show ¬ round gap l = 0 by omega), Int.tdiv_eq_ediv_of_nonneg (by omega : (0 : Int) ≤ 1000000000000), wrap_id (x := 1000000000000 / round gap l) (by omega) (by omega), if_pos (show (0 : Int) ≤ i by omega), if_pos (show (i : Int) < l.length by omega), rdSl l i hi, List.getElem?_eq_getElem hi]
  by_cases hq : 0 ≤ q ∧ q ≤ 1000000000000 / round gap l
  · have ht := occ_told h i hi q hq
    rw [decide_eq_true hq, if_neg (by decide), if_pos hq, ht.2.1, ht.2.2, iIval]
    rfl
  · rw [if_neg hq, decide_eq_false hq]; rfl
theorem sOccurrence (st gap : Int) (l : List Sl) (hl : l.length ≤ 1048576) (i q : Int) (k : Nat) (hk : 1050100 ≤ k) : spec_Occurrence.f k st gap l i q = some (occurrence st gap l i q) := by
  unfold occurrence
  cases h : isSlot st gap l i with
  | false =>
    obtain ⟨k, rfl⟩ : ∃ j, k = j + 1 := ⟨k - 1, by omega⟩
    unfold spec_Occurrence.f
    rw [sSlot st gap l hl i _ (by omega), h]
    simp only [Option.bind_some, spec_Occurrence.j0]
    rfl
  | true =>
    rw [isSlot_iff] at h
    obtain ⟨n, rfl⟩ := Int.eq_ofNat_of_zero_le h.2.1
    rw [sOcc h.1 n (by omega) q k (by omega)]; rfl
theorem iOccurrence (st gap : Int) (l : List Sl) (hl : l.length ≤ 1048576) (i q : Int) (k : Nat) (hk : 1050100 ≤ k) : impl_Occurrence.f k st gap l i q = some (occurrence st gap l i q) := by
  unfold occurrence
  cases h : isSlot st gap l i with
  | false =>
    obtain ⟨k, rfl⟩ : ∃ j, k = j + 1 := ⟨k - 1, by omega⟩
    unfold impl_Occurrence.f
    rw [iSlot st gap l hl i _ (by omega), h]
    simp only [Option.bind_some, impl_Occurrence.j0]
    rfl
  | true =>
    rw [isSlot_iff] at h
    obtain ⟨n, rfl⟩ := Int.eq_ofNat_of_zero_le h.2.1
    rw [iOcc h.1 n (by omega) q k (by omega)]; rfl
end Go.Proofs.Ytllpmpfchidhoaa.C
