/- Texts of the seat's proofs, part 5: functions of the program told as plain functions, with their contracts, and what is shown of them. No condition. -/
import Derived.Test.YtllpmpfchidhoaaUKFA
import Derived.Test.YtllpmpfchidhoaaKFA1
import Derived.Test.YtllpmpfchidhoaaKFA2
import Derived.Test.YtllpmpfchidhoaaKFA4
set_option linter.unusedVariables false
set_option linter.unusedSimpArgs false
namespace Go.Proofs.Ytllpmpfchidhoaa.P
open Go.RowKit Go.Proofs.YtllpmpfchidhoaaW.PrintWords Go.Proofs.YtllpmpfchidhoaaW.PrintLast Go.Proofs.YtllpmpfchidhoaaW.PrintMore
attribute [local go_sem] max2_int min2_int max_two min_two max_three min_three max_four min_four
set_option linter.unusedVariables false
set_option linter.unusedSimpArgs false
def laws_FnApart.j0 : Nat → Int → Int → Bool → Int → Int → List (S42) → Int → Int → Option (Bool)
 | 0, _, _, _, _, _, _, _, _ => none
 | k + 1, x4, x5, x100, x968000, x968001, x968002, x972000, x972001 => if x100 = true then (some false) else ((impl_SlotAt.f k x968000 x968001 x968002 x972000).bind fun bt986 => ((impl_SlotAt.f k x968000 x968001 x968002 (wrap64 (x972001 - 1))).bind fun bt989 => ((impl_SlotAt.f k x968000 x968001 x968002 x972001).bind fun bt992 => ((impl_SlotFrom.f k x968000 x968001 x968002 x4).bind fun bt995 => (if bt986.2.2 = true then (if bt989.2.2 = true then (if bt986.1 = x4 then (if bt986.2.1 = x5 then (if bt989.1 = x4 then (if bt989.2.1 = x5 then (if bt992.2.2 = true then (if bt992.1 = x4 then (if bt992.2.1 = x5 then (some false) else (if bt995.2 = true then ((impl_RoundOf.f k x968000 x968001 x968002).bind fun t997 => (some (bt995.1 == (wrap64 ((wrap64 (x972000 - x968000)) - (wrap64 (x5 * t997))))))) else (some false))) else (if bt995.2 = true then ((impl_RoundOf.f k x968000 x968001 x968002).bind fun t998 => (some (bt995.1 == (wrap64 ((wrap64 (x972000 - x968000)) - (wrap64 (x5 * t998))))))) else (some false))) else (if bt995.2 = true then ((impl_RoundOf.f k x968000 x968001 x968002).bind fun t999 => (some (bt995.1 == (wrap64 ((wrap64 (x972000 - x968000)) - (wrap64 (x5 * t999))))))) else (some false))) else (some false)) else (some false)) else (some false)) else (some false)) else (some false)) else (some false))))))
def laws_FnApart.f (k : Nat) (l0 : List Int) : Option (Bool) := (laws_big.f l0).bind fun t959 => (if t959 = true then (some true) else ((spec_DrawOccurrence.f k l0).bind fun bt960 => ((impl_Occurrence.f k bt960.1 bt960.2.1 bt960.2.2.1 bt960.2.2.2.1 bt960.2.2.2.2).bind fun bt968 => ((spec_Occurrence.f k bt960.1 bt960.2.1 bt960.2.2.1 bt960.2.2.2.1 bt960.2.2.2.2).bind fun bt972 => (if (bt968.2.2 != bt972.2.2) = true then (some false) else (if bt968.2.2 = true then ((laws_at.f l0 1).bind fun t980 => (if (bt960.2.2.1.length : Int) = 0 then (none) else ((laws_at.f l0 2).bind fun t981 => ((impl_Occurrence.f k bt960.1 bt960.2.1 bt960.2.2.1 (Int.tmod t980 (bt960.2.2.1.length : Int)) (wrap64 ((wrap64 (bt960.2.2.2.2 + (Int.tmod t981 3))) - 1))).bind fun bt982 => (if bt982.2.2 = true then (if bt960.2.2.2.1 = (Int.tmod t980 (bt960.2.2.1.length : Int)) then (if bt960.2.2.2.2 = (wrap64 ((wrap64 (bt960.2.2.2.2 + (Int.tmod t981 3))) - 1)) then (laws_FnApart.j0 k bt960.2.2.2.1 bt960.2.2.2.2 false bt960.1 bt960.2.1 bt960.2.2.1 bt968.1 bt968.2.1) else (if bt968.1 < bt982.2.1 then (laws_FnApart.j0 k bt960.2.2.2.1 bt960.2.2.2.2 (decide (bt982.1 < bt968.2.1)) bt960.1 bt960.2.1 bt960.2.2.1 bt968.1 bt968.2.1) else (laws_FnApart.j0 k bt960.2.2.2.1 bt960.2.2.2.2 false bt960.1 bt960.2.1 bt960.2.2.1 bt968.1 bt968.2.1))) else (if bt968.1 < bt982.2.1 then (laws_FnApart.j0 k bt960.2.2.2.1 bt960.2.2.2.2 (decide (bt982.1 < bt968.2.1)) bt960.1 bt960.2.1 bt960.2.2.1 bt968.1 bt968.2.1) else (laws_FnApart.j0 k bt960.2.2.2.1 bt960.2.2.2.2 false bt960.1 bt960.2.1 bt960.2.2.1 bt968.1 bt968.2.1))) else (laws_FnApart.j0 k bt960.2.2.2.1 bt960.2.2.2.2 false bt960.1 bt960.2.1 bt960.2.2.1 bt968.1 bt968.2.1)))))) else ((impl_RoundOf.f k 0 2 (([(⟨0, 7⟩ : S42)] : List (S42)))).bind fun t979 => (some (t979 == 9)))))))))
def laws_FnApart.T19 : Bool × List (List Nat × List Nat) := (true, [([], []), ([0], [0]), ([1], [1]), ([1, 2], [1, 2]), ([3, 1], [3]), ([4], [4]), ([4], [4]), ([5, 6, 4], [4, 5, 6]), ([4, 7], [4, 7]), ([8, 4], [8]), ([9], [9]), ([9], [9]), ([10, 11, 9], [9, 10, 11]), ([9, 12], [9, 12]), ([13, 9], [13]), ([14], [14]), ([14], [14]), ([15, 16, 14], [14, 15, 16]), ([14, 17], [14, 17]), ([18, 14], [18]), ([19], [19]), ([19], [19]), ([20, 21, 19], [19, 20, 21]), ([19, 22], [19, 22]), ([23, 19], [23]), ([24], [24]), ([25, 24, 24], [24, 25]), ([26], [26]), ([26], [26]), ([27, 28, 26], [26, 27, 28]), ([26, 29, 24], [24, 26, 29]), ([30, 26, 24], [24, 30]), ([31], [31]), ([31], [31]), ([32, 33, 31], [31, 32, 33]), ([31, 34, 24], [24, 31, 34]), ([35, 24], [24, 35]), ([24, 36], [24, 36]), ([37, 31], [37]), ([38], [38]), ([38, 39], [38, 39]), ([40, 38], [40]), ([41], [41]), ([41], [41]), ([43, 41], [41, 43]), ([41], [41]), ([45, 41], [41, 45]), ([44, 46, 41], [41, 44, 46]), ([41], [41]), ([41], [41]), ([49, 41, 41], [41, 49]), ([48, 50, 41], [41, 48, 50]), ([47, 51, 41], [41, 47, 51]), ([42, 52, 41], [41, 42, 52]), ([41, 53], [41, 53]), ([54, 50, 0, 1, 2, 3, 4, 5, 6, 7, 8, 9, 10, 11, 12, 13, 14, 15, 16, 17, 18, 19, 20, 21, 22, 23, 24, 25, 26, 27, 28, 29, 30, 31, 32, 33, 34, 35, 36, 37, 38, 39, 40, 41, 42, 43, 44, 45, 46, 47, 48, 49, 50, 51, 52, 53, 54], [54])])
def laws_FnApart.B19 : List Nat := [0, 1, 3, 7, 15, 31, 31, 127, 255, 511, 1023, 1023, 4095, 8191, 16383, 32767, 32767, 131071, 262143, 524287, 1048575, 1048575, 4194303, 8388607, 16777215, 33554431, 67108863, 134217727, 134217727, 536870911, 1073741823, 2147483647, 4294967295, 4294967295, 17179869183, 34359738367, 68719476735, 137438953471, 274877906943, 549755813887, 1099511627775, 2199023255551, 4398046511103, 4398046511103, 13194139533311, 4398046511103, 39582418599935, 136339441844223, 4398046511103, 4398046511103, 567347999932415, 1974722883485695, 4499201580859391, 9007199254740991, 18014398509481983, 36028797018963967]
theorem laws_FnApart.tab19 : rtab .any (opsOf Try.f6 19) = laws_FnApart.T19 := by kernel_rfl
theorem laws_FnApart.bits19 : waitsOk laws_FnApart.T19.2 laws_FnApart.B19 = true := by kernel_rfl
set_option maxHeartbeats 8000000 in
set_option maxRecDepth 100000 in
theorem laws_FnApart.calls (k : Nat) (A0 : Option Addr) (c0 : Nat) (l0 : List Int) (r : Bool) (w : World) (hr0 : Kd.C (Kd.int .u8) w A0 l0.length l0) (hc0 : l0.length ≤ c0) (hr_ : r = true) (h : laws_FnApart.f k l0 = some r) :
  Calls Try.prog 6 #[.slice A0 l0.length c0] w fun e w' => e = .returned (.bool r) ∧ Below w.heap.size w w' := by
 have hu30 := Try.underlying30
 have hu25 := Try.underlying25
 have hu42 := Try.underlying42
 have HR0 := Aside0.mk hr0
 have HC0 := Aside0.mk hc0
 clear hr0 hc0
 have HB := am_ (Below.refl w.heap.size w)
 have H : ((laws_big.f l0).bind fun t959 => (if t959 = true then (some true) else ((spec_DrawOccurrence.f k l0).bind fun bt960 => ((impl_Occurrence.f k bt960.1 bt960.2.1 bt960.2.2.1 bt960.2.2.2.1 bt960.2.2.2.2).bind fun bt968 => ((spec_Occurrence.f k bt960.1 bt960.2.1 bt960.2.2.1 bt960.2.2.2.1 bt960.2.2.2.2).bind fun bt972 => (if (bt968.2.2 != bt972.2.2) = true then (some false) else (if bt968.2.2 = true then ((laws_at.f l0 1).bind fun t980 => (if (bt960.2.2.1.length : Int) = 0 then (none) else ((laws_at.f l0 2).bind fun t981 => ((impl_Occurrence.f k bt960.1 bt960.2.1 bt960.2.2.1 (Int.tmod t980 (bt960.2.2.1.length : Int)) (wrap64 ((wrap64 (bt960.2.2.2.2 + (Int.tmod t981 3))) - 1))).bind fun bt982 => (if bt982.2.2 = true then (if bt960.2.2.2.1 = (Int.tmod t980 (bt960.2.2.1.length : Int)) then (if bt960.2.2.2.2 = (wrap64 ((wrap64 (bt960.2.2.2.2 + (Int.tmod t981 3))) - 1)) then (laws_FnApart.j0 k bt960.2.2.2.1 bt960.2.2.2.2 false bt960.1 bt960.2.1 bt960.2.2.1 bt968.1 bt968.2.1) else (if bt968.1 < bt982.2.1 then (laws_FnApart.j0 k bt960.2.2.2.1 bt960.2.2.2.2 (decide (bt982.1 < bt968.2.1)) bt960.1 bt960.2.1 bt960.2.2.1 bt968.1 bt968.2.1) else (laws_FnApart.j0 k bt960.2.2.2.1 bt960.2.2.2.2 false bt960.1 bt960.2.1 bt960.2.2.1 bt968.1 bt968.2.1))) else (if bt968.1 < bt982.2.1 then (laws_FnApart.j0 k bt960.2.2.2.1 bt960.2.2.2.2 (decide (bt982.1 < bt968.2.1)) bt960.1 bt960.2.1 bt960.2.2.1 bt968.1 bt968.2.1) else (laws_FnApart.j0 k bt960.2.2.2.1 bt960.2.2.2.2 false bt960.1 bt960.2.1 bt960.2.2.1 bt968.1 bt968.2.1))) else (laws_FnApart.j0 k bt960.2.2.2.1 bt960.2.2.2.2 false bt960.1 bt960.2.1 bt960.2.2.1 bt968.1 bt968.2.1)))))) else ((impl_RoundOf.f k 0 2 (([(⟨0, 7⟩ : S42)] : List (S42)))).bind fun t979 => (some (t979 == 9)))))))))) = some r := h
 clear h
 replace H := Option.bind_eq_some_iff.mp H
 obtain ⟨t959, A20, H⟩ := H
 replace H : (if t959 = true then (some true) else ((spec_DrawOccurrence.f k l0).bind fun bt960 => ((impl_Occurrence.f k bt960.1 bt960.2.1 bt960.2.2.1 bt960.2.2.2.1 bt960.2.2.2.2).bind fun bt968 => ((spec_Occurrence.f k bt960.1 bt960.2.1 bt960.2.2.1 bt960.2.2.2.1 bt960.2.2.2.2).bind fun bt972 => (if (bt968.2.2 != bt972.2.2) = true then (some false) else (if bt968.2.2 = true then ((laws_at.f l0 1).bind fun t980 => (if (bt960.2.2.1.length : Int) = 0 then (none) else ((laws_at.f l0 2).bind fun t981 => ((impl_Occurrence.f k bt960.1 bt960.2.1 bt960.2.2.1 (Int.tmod t980 (bt960.2.2.1.length : Int)) (wrap64 ((wrap64 (bt960.2.2.2.2 + (Int.tmod t981 3))) - 1))).bind fun bt982 => (if bt982.2.2 = true then (if bt960.2.2.2.1 = (Int.tmod t980 (bt960.2.2.1.length : Int)) then (if bt960.2.2.2.2 = (wrap64 ((wrap64 (bt960.2.2.2.2 + (Int.tmod t981 3))) - 1)) then (laws_FnApart.j0 k bt960.2.2.2.1 bt960.2.2.2.2 false bt960.1 bt960.2.1 bt960.2.2.1 bt968.1 bt968.2.1) else (if bt968.1 < bt982.2.1 then (laws_FnApart.j0 k bt960.2.2.2.1 bt960.2.2.2.2 (decide (bt982.1 < bt968.2.1)) bt960.1 bt960.2.1 bt960.2.2.1 bt968.1 bt968.2.1) else (laws_FnApart.j0 k bt960.2.2.2.1 bt960.2.2.2.2 false bt960.1 bt960.2.1 bt960.2.2.1 bt968.1 bt968.2.1))) else (if bt968.1 < bt982.2.1 then (laws_FnApart.j0 k bt960.2.2.2.1 bt960.2.2.2.2 (decide (bt982.1 < bt968.2.1)) bt960.1 bt960.2.1 bt960.2.2.1 bt968.1 bt968.2.1) else (laws_FnApart.j0 k bt960.2.2.2.1 bt960.2.2.2.2 false bt960.1 bt960.2.1 bt960.2.2.1 bt968.1 bt968.2.1))) else (laws_FnApart.j0 k bt960.2.2.2.1 bt960.2.2.2.2 false bt960.1 bt960.2.1 bt960.2.2.1 bt968.1 bt968.2.1)))))) else ((impl_RoundOf.f k 0 2 (([(⟨0, 7⟩ : S42)] : List (S42)))).bind fun t979 => (some (t979 == 9))))))))) = some r := H
 have A2 := Aside0.mk A20
 clear A20
 by_cases c3 : t959 = true
 ·subst c3
  have H1 : (some true) = some r := by rw [if_pos rfl] at H; exact H
  clear H
  have H := H1
  clear H1
  obtain rfl := Option.some.inj H
  go_enter Try.func6, Try.ntmps6
  go_wp2_with (first | ((with_reducible refine gate_callee (f := 8) rfl ?_); refine gl_ Try.func8 #[.slice A0 l0.length c0] ?_; (with_reducible refine (laws_big.calls _ _ l0 true _ ?side1 ?side2 A2.out).mono ?_); (case side1 => repeat (first | exact HR0.out | (with_reducible refine Kd.C_alloc ?_ _) | (with_reducible refine Kd.C_drewN ?_ _) | (with_reducible refine Kd.C_drew ?_))); (case side2 => exact HC0.out); rintro e w' ⟨rfl, ⟨nd, rfl⟩⟩; refine ⟨_, rfl, ?_⟩))
  go_ret
  exact ⟨er_, hb_ HB.out⟩
 ·replace c3 := Bool.eq_false_iff.mpr c3
  subst c3
  have H1 : ((spec_DrawOccurrence.f k l0).bind fun bt960 => ((impl_Occurrence.f k bt960.1 bt960.2.1 bt960.2.2.1 bt960.2.2.2.1 bt960.2.2.2.2).bind fun bt968 => ((spec_Occurrence.f k bt960.1 bt960.2.1 bt960.2.2.1 bt960.2.2.2.1 bt960.2.2.2.2).bind fun bt972 => (if (bt968.2.2 != bt972.2.2) = true then (some false) else (if bt968.2.2 = true then ((laws_at.f l0 1).bind fun t980 => (if (bt960.2.2.1.length : Int) = 0 then (none) else ((laws_at.f l0 2).bind fun t981 => ((impl_Occurrence.f k bt960.1 bt960.2.1 bt960.2.2.1 (Int.tmod t980 (bt960.2.2.1.length : Int)) (wrap64 ((wrap64 (bt960.2.2.2.2 + (Int.tmod t981 3))) - 1))).bind fun bt982 => (if bt982.2.2 = true then (if bt960.2.2.2.1 = (Int.tmod t980 (bt960.2.2.1.length : Int)) then (if bt960.2.2.2.2 = (wrap64 ((wrap64 (bt960.2.2.2.2 + (Int.tmod t981 3))) - 1)) then (laws_FnApart.j0 k bt960.2.2.2.1 bt960.2.2.2.2 false bt960.1 bt960.2.1 bt960.2.2.1 bt968.1 bt968.2.1) else (if bt968.1 < bt982.2.1 then (laws_FnApart.j0 k bt960.2.2.2.1 bt960.2.2.2.2 (decide (bt982.1 < bt968.2.1)) bt960.1 bt960.2.1 bt960.2.2.1 bt968.1 bt968.2.1) else (laws_FnApart.j0 k bt960.2.2.2.1 bt960.2.2.2.2 false bt960.1 bt960.2.1 bt960.2.2.1 bt968.1 bt968.2.1))) else (if bt968.1 < bt982.2.1 then (laws_FnApart.j0 k bt960.2.2.2.1 bt960.2.2.2.2 (decide (bt982.1 < bt968.2.1)) bt960.1 bt960.2.1 bt960.2.2.1 bt968.1 bt968.2.1) else (laws_FnApart.j0 k bt960.2.2.2.1 bt960.2.2.2.2 false bt960.1 bt960.2.1 bt960.2.2.1 bt968.1 bt968.2.1))) else (laws_FnApart.j0 k bt960.2.2.2.1 bt960.2.2.2.2 false bt960.1 bt960.2.1 bt960.2.2.1 bt968.1 bt968.2.1)))))) else ((impl_RoundOf.f k 0 2 (([(⟨0, 7⟩ : S42)] : List (S42)))).bind fun t979 => (some (t979 == 9)))))))) = some r := by rw [if_neg (show ¬ (false = true) by decide)] at H; exact H
  clear H
  have H := H1
  clear H1
  replace H := Option.bind_eq_some_iff.mp H
  obtain ⟨⟨t960, t961, t962, t965, t966⟩, A40, H⟩ := H
  replace H : ((impl_Occurrence.f k t960 t961 t962 t965 t966).bind fun bt968 => ((spec_Occurrence.f k t960 t961 t962 t965 t966).bind fun bt972 => (if (bt968.2.2 != bt972.2.2) = true then (some false) else (if bt968.2.2 = true then ((laws_at.f l0 1).bind fun t980 => (if (t962.length : Int) = 0 then (none) else ((laws_at.f l0 2).bind fun t981 => ((impl_Occurrence.f k t960 t961 t962 (Int.tmod t980 (t962.length : Int)) (wrap64 ((wrap64 (t966 + (Int.tmod t981 3))) - 1))).bind fun bt982 => (if bt982.2.2 = true then (if t965 = (Int.tmod t980 (t962.length : Int)) then (if t966 = (wrap64 ((wrap64 (t966 + (Int.tmod t981 3))) - 1)) then (laws_FnApart.j0 k t965 t966 false t960 t961 t962 bt968.1 bt968.2.1) else (if bt968.1 < bt982.2.1 then (laws_FnApart.j0 k t965 t966 (decide (bt982.1 < bt968.2.1)) t960 t961 t962 bt968.1 bt968.2.1) else (laws_FnApart.j0 k t965 t966 false t960 t961 t962 bt968.1 bt968.2.1))) else (if bt968.1 < bt982.2.1 then (laws_FnApart.j0 k t965 t966 (decide (bt982.1 < bt968.2.1)) t960 t961 t962 bt968.1 bt968.2.1) else (laws_FnApart.j0 k t965 t966 false t960 t961 t962 bt968.1 bt968.2.1))) else (laws_FnApart.j0 k t965 t966 false t960 t961 t962 bt968.1 bt968.2.1)))))) else ((impl_RoundOf.f k 0 2 (([(⟨0, 7⟩ : S42)] : List (S42)))).bind fun t979 => (some (t979 == 9))))))) = some r := H
  have A4 := Aside0.mk A40
  clear A40
  replace H := Option.bind_eq_some_iff.mp H
  obtain ⟨⟨t968, t969, t970⟩, A50, H⟩ := H
  replace H : ((spec_Occurrence.f k t960 t961 t962 t965 t966).bind fun bt972 => (if (t970 != bt972.2.2) = true then (some false) else (if t970 = true then ((laws_at.f l0 1).bind fun t980 => (if (t962.length : Int) = 0 then (none) else ((laws_at.f l0 2).bind fun t981 => ((impl_Occurrence.f k t960 t961 t962 (Int.tmod t980 (t962.length : Int)) (wrap64 ((wrap64 (t966 + (Int.tmod t981 3))) - 1))).bind fun bt982 => (if bt982.2.2 = true then (if t965 = (Int.tmod t980 (t962.length : Int)) then (if t966 = (wrap64 ((wrap64 (t966 + (Int.tmod t981 3))) - 1)) then (laws_FnApart.j0 k t965 t966 false t960 t961 t962 t968 t969) else (if t968 < bt982.2.1 then (laws_FnApart.j0 k t965 t966 (decide (bt982.1 < t969)) t960 t961 t962 t968 t969) else (laws_FnApart.j0 k t965 t966 false t960 t961 t962 t968 t969))) else (if t968 < bt982.2.1 then (laws_FnApart.j0 k t965 t966 (decide (bt982.1 < t969)) t960 t961 t962 t968 t969) else (laws_FnApart.j0 k t965 t966 false t960 t961 t962 t968 t969))) else (laws_FnApart.j0 k t965 t966 false t960 t961 t962 t968 t969)))))) else ((impl_RoundOf.f k 0 2 (([(⟨0, 7⟩ : S42)] : List (S42)))).bind fun t979 => (some (t979 == 9)))))) = some r := H
  have A5 := Aside0.mk A50
  clear A50
  replace H := Option.bind_eq_some_iff.mp H
  obtain ⟨⟨t972, t973, t974⟩, A60, H⟩ := H
  replace H : (if (t970 != t974) = true then (some false) else (if t970 = true then ((laws_at.f l0 1).bind fun t980 => (if (t962.length : Int) = 0 then (none) else ((laws_at.f l0 2).bind fun t981 => ((impl_Occurrence.f k t960 t961 t962 (Int.tmod t980 (t962.length : Int)) (wrap64 ((wrap64 (t966 + (Int.tmod t981 3))) - 1))).bind fun bt982 => (if bt982.2.2 = true then (if t965 = (Int.tmod t980 (t962.length : Int)) then (if t966 = (wrap64 ((wrap64 (t966 + (Int.tmod t981 3))) - 1)) then (laws_FnApart.j0 k t965 t966 false t960 t961 t962 t968 t969) else (if t968 < bt982.2.1 then (laws_FnApart.j0 k t965 t966 (decide (bt982.1 < t969)) t960 t961 t962 t968 t969) else (laws_FnApart.j0 k t965 t966 false t960 t961 t962 t968 t969))) else (if t968 < bt982.2.1 then (laws_FnApart.j0 k t965 t966 (decide (bt982.1 < t969)) t960 t961 t962 t968 t969) else (laws_FnApart.j0 k t965 t966 false t960 t961 t962 t968 t969))) else (laws_FnApart.j0 k t965 t966 false t960 t961 t962 t968 t969)))))) else ((impl_RoundOf.f k 0 2 (([(⟨0, 7⟩ : S42)] : List (S42)))).bind fun t979 => (some (t979 == 9))))) = some r := H
  have A6 := Aside0.mk A60
  clear A60
  by_cases c7 : (t970 != t974) = true
  ·rw [if_pos c7] at H
   have c7b0 : (t970 != t974) = true := c7
   (try (have c7b1 : decide (t970 = t974) = false := by simpa using c7))
   (try (have c7b2 : (t970 == t974) = false := by simpa using c7))
   (try (have c7b3 : ¬ (t970 = t974) := by simpa using c7))
   clear c7
   obtain rfl := Option.some.inj H
   exact absurd hr_ (by decide)
  ·rw [if_neg c7] at H
   have c7b0 : (t970 != t974) = false := by simpa using c7
   (try (have c7b1 : decide (t970 = t974) = true := by simpa using c7))
   (try (have c7b2 : (t970 == t974) = true := by simpa using c7))
   clear c7
   by_cases c8 : t970 = true
   ·subst c8
    have H1 : ((laws_at.f l0 1).bind fun t980 => (if (t962.length : Int) = 0 then (none) else ((laws_at.f l0 2).bind fun t981 => ((impl_Occurrence.f k t960 t961 t962 (Int.tmod t980 (t962.length : Int)) (wrap64 ((wrap64 (t966 + (Int.tmod t981 3))) - 1))).bind fun bt982 => (if bt982.2.2 = true then (if t965 = (Int.tmod t980 (t962.length : Int)) then (if t966 = (wrap64 ((wrap64 (t966 + (Int.tmod t981 3))) - 1)) then (laws_FnApart.j0 k t965 t966 false t960 t961 t962 t968 t969) else (if t968 < bt982.2.1 then (laws_FnApart.j0 k t965 t966 (decide (bt982.1 < t969)) t960 t961 t962 t968 t969) else (laws_FnApart.j0 k t965 t966 false t960 t961 t962 t968 t969))) else (if t968 < bt982.2.1 then (laws_FnApart.j0 k t965 t966 (decide (bt982.1 < t969)) t960 t961 t962 t968 t969) else (laws_FnApart.j0 k t965 t966 false t960 t961 t962 t968 t969))) else (laws_FnApart.j0 k t965 t966 false t960 t961 t962 t968 t969)))))) = some r := by rw [if_pos rfl] at H; exact H
    clear H
    have H := H1
    clear H1
    replace H := Option.bind_eq_some_iff.mp H
    obtain ⟨t980, A90, H⟩ := H
    replace H : (if (t962.length : Int) = 0 then (none) else ((laws_at.f l0 2).bind fun t981 => ((impl_Occurrence.f k t960 t961 t962 (Int.tmod t980 (t962.length : Int)) (wrap64 ((wrap64 (t966 + (Int.tmod t981 3))) - 1))).bind fun bt982 => (if bt982.2.2 = true then (if t965 = (Int.tmod t980 (t962.length : Int)) then (if t966 = (wrap64 ((wrap64 (t966 + (Int.tmod t981 3))) - 1)) then (laws_FnApart.j0 k t965 t966 false t960 t961 t962 t968 t969) else (if t968 < bt982.2.1 then (laws_FnApart.j0 k t965 t966 (decide (bt982.1 < t969)) t960 t961 t962 t968 t969) else (laws_FnApart.j0 k t965 t966 false t960 t961 t962 t968 t969))) else (if t968 < bt982.2.1 then (laws_FnApart.j0 k t965 t966 (decide (bt982.1 < t969)) t960 t961 t962 t968 t969) else (laws_FnApart.j0 k t965 t966 false t960 t961 t962 t968 t969))) else (laws_FnApart.j0 k t965 t966 false t960 t961 t962 t968 t969))))) = some r := H
    have A9 := Aside0.mk A90
    clear A90
    by_cases c10 : (t962.length : Int) = 0
    ·rw [if_pos c10] at H
     exact absurd H (by simp)
    ·rw [if_neg c10] at H
     have c10b0 : ((t962.length : Int) == 0) = false := beq_eq_false_iff_ne.mpr c10
     have c10b1 : ((t962.length : Int) != 0) = true := bne_iff_ne.mpr c10
     have c10b2 : ¬ (t962 = []) := fun h_ => c10 (by rw [h_]; rfl)
     replace H := Option.bind_eq_some_iff.mp H
     obtain ⟨t981, A110, H⟩ := H
     replace H : ((impl_Occurrence.f k t960 t961 t962 (Int.tmod t980 (t962.length : Int)) (wrap64 ((wrap64 (t966 + (Int.tmod t981 3))) - 1))).bind fun bt982 => (if bt982.2.2 = true then (if t965 = (Int.tmod t980 (t962.length : Int)) then (if t966 = (wrap64 ((wrap64 (t966 + (Int.tmod t981 3))) - 1)) then (laws_FnApart.j0 k t965 t966 false t960 t961 t962 t968 t969) else (if t968 < bt982.2.1 then (laws_FnApart.j0 k t965 t966 (decide (bt982.1 < t969)) t960 t961 t962 t968 t969) else (laws_FnApart.j0 k t965 t966 false t960 t961 t962 t968 t969))) else (if t968 < bt982.2.1 then (laws_FnApart.j0 k t965 t966 (decide (bt982.1 < t969)) t960 t961 t962 t968 t969) else (laws_FnApart.j0 k t965 t966 false t960 t961 t962 t968 t969))) else (laws_FnApart.j0 k t965 t966 false t960 t961 t962 t968 t969))) = some r := H
     have A11 := Aside0.mk A110
     clear A110
     replace H := Option.bind_eq_some_iff.mp H
     obtain ⟨⟨t982, t983, t984⟩, A120, H⟩ := H
     replace H : (if t984 = true then (if t965 = (Int.tmod t980 (t962.length : Int)) then (if t966 = (wrap64 ((wrap64 (t966 + (Int.tmod t981 3))) - 1)) then (laws_FnApart.j0 k t965 t966 false t960 t961 t962 t968 t969) else (if t968 < t983 then (laws_FnApart.j0 k t965 t966 (decide (t982 < t969)) t960 t961 t962 t968 t969) else (laws_FnApart.j0 k t965 t966 false t960 t961 t962 t968 t969))) else (if t968 < t983 then (laws_FnApart.j0 k t965 t966 (decide (t982 < t969)) t960 t961 t962 t968 t969) else (laws_FnApart.j0 k t965 t966 false t960 t961 t962 t968 t969))) else (laws_FnApart.j0 k t965 t966 false t960 t961 t962 t968 t969)) = some r := H
     have A12 := Aside0.mk A120
     clear A120
     have HC13 := Aside0.mk H
     clear H
     go_enter Try.func6, Try.ntmps6
     try go_wp2_with (first | ((with_reducible refine gate_callee (f := 8) rfl ?_); refine gl_ Try.func8 #[.slice A0 l0.length c0] ?_; (with_reducible refine (laws_big.calls _ _ l0 false _ ?side1 ?side2 A2.out).mono ?_); (case side1 => repeat (first | exact HR0.out | (with_reducible refine Kd.C_alloc ?_ _) | (with_reducible refine Kd.C_drewN ?_ _) | (with_reducible refine Kd.C_drew ?_))); (case side2 => exact HC0.out); rintro e w' ⟨rfl, ⟨nd, rfl⟩⟩; refine ⟨_, rfl, ?_⟩) | ((with_reducible refine gate_callee (f := 27) rfl ?_); refine gl_ Try.func27 #[.slice A0 l0.length c0] ?_; (with_reducible refine (spec_DrawOccurrence.calls k _ _ l0 t960 t961 t962 t965 t966 _ ?side1 ?side2 A4.out).mono ?_); (case side1 => repeat (first | exact HR0.out | (with_reducible refine Kd.C_alloc ?_ _) | (with_reducible refine Kd.C_drewN ?_ _) | (with_reducible refine Kd.C_drew ?_))); (case side2 => exact HC0.out); rintro e w14 ⟨v963, rfl, ho0, hb⟩; refine ⟨_, rfl, ?_⟩; have HO964 := am_ (Kd.R_lower ho0 (below_size (hb_ HB.out))); replace HB := am_ (below_step (hb_ HB.out) hb); (try clear hb); (try clear hb2); (try clear hk); (try clear hi); (try clear ho0)) | ((with_reducible refine gate_dst (N := 3) rfl ?_); refine be_ (N := 3) (cs := #[.int .i64 0, .int .i64 0, .slice none 0 0]) (t := 30) ?_; intro gb967 hg w15 hbox hb; have BK967 := am_ (hbox); have GW967 := am_ (hy_ hg (hb_ HB.out) : w.heap.size ≤ gb967); have GE967 := GW967; replace HO964 := am_ (Kd.R_below (by (with_reducible repeat (first | apply Kd.R_alloc | apply Kd.R_drewN | apply Kd.R_drew)); exact HO964.out) hb); replace HB := am_ (below_step (hb_ HB.out) hb); clear hb hbox hg; obtain ⟨hcz16_0, hcz16_1, hcz16_2, hfz16_0, hfz16_1, hfz16_2⟩ := bc3_ BK967.out; obtain ⟨Ao17, co17, eo17⟩ := Kd.R_slice HO964.out; subst eo17) | ((with_reducible refine gate_callee (f := 12) rfl ?_); refine gl_ Try.func12 #[.agg #[.int .i64 t960, .int .i64 t961, .slice Ao17 t962.length co17], .int .i64 t965, .int .i64 t966] ?_; (with_reducible refine (impl_Occurrence.calls k t960 t961 _ _ t962 t965 t966 t968 t969 true _ ?side1 ?side2 A5.out).mono ?_); (case side1 => refine (Kd.R_reads' (e := 42) (base := w.heap.size) (ok := fun k_ => True) (n := t962.length) (c := co17) ?_).2.2; exact (by (with_reducible repeat (first | apply Kd.R_alloc | apply Kd.R_drewN | apply Kd.R_drew)); exact (Kd.R_mono (Kd.R_far (p := ⟨gb967, 2, none⟩) (Kd.R_far (p := ⟨gb967, 1, none⟩) (Kd.R_far (p := ⟨gb967, 0, none⟩) (Kd.R_types HO964.out BK967.out (by decide)) (fun _ hk => hk.2) (.int .i64 t960)) (fun _ hk => hk.2) (.int .i64 t961)) (fun _ hk => hk.2) (.slice Ao17 t962.length co17)) (fun _ h_ => h_.1)))); (case side2 => exact (Kd.R_reads' HO964.out).2.1); rintro e w18 ⟨rfl, hb⟩; refine ⟨_, rfl, ?_⟩; replace HO964 := am_ (Kd.R_below (by (with_reducible repeat (first | apply Kd.R_alloc | apply Kd.R_drewN | apply Kd.R_drew)); exact (Kd.R_mono (Kd.R_far (p := ⟨gb967, 2, none⟩) (Kd.R_far (p := ⟨gb967, 1, none⟩) (Kd.R_far (p := ⟨gb967, 0, none⟩) (Kd.R_types HO964.out BK967.out (by decide)) (fun _ hk => hk.2) (.int .i64 t960)) (fun _ hk => hk.2) (.int .i64 t961)) (fun _ hk => hk.2) (.slice Ao17 t962.length co17)) (fun _ h_ => h_.1))) hb); replace BK967 := am_ (blk_below (g := gb967) (o := .cells #[.int .i64 t960, .int .i64 t961, .slice Ao17 t962.length co17] 30 (0, 0)) (by (with_reducible repeat (first | refine blk_drewN ?_ _ | refine blk_drew ?_ | refine blk_alloc ?_ _)); refine blk_put (cs := #[.int .i64 t960, .int .i64 t961, .slice none 0 0]) ?_ 2 _ rfl; (with_reducible repeat (first | refine blk_drewN ?_ _ | refine blk_drew ?_ | refine blk_alloc ?_ _)); refine blk_put (cs := #[.int .i64 t960, .int .i64 0, .slice none 0 0]) ?_ 1 _ rfl; (with_reducible repeat (first | refine blk_drewN ?_ _ | refine blk_drew ?_ | refine blk_alloc ?_ _)); refine blk_put (cs := #[.int .i64 0, .int .i64 0, .slice none 0 0]) ?_ 0 _ rfl; (with_reducible repeat (first | refine blk_drewN ?_ _ | refine blk_drew ?_ | refine blk_alloc ?_ _)); exact BK967.out) hb); replace HB := am_ (below_step (hb1_ HB.out GE967.out) hb); (try clear hb); (try clear hb2); (try clear hk); (try clear hi)) | ((with_reducible refine gate_dst (N := 6) rfl ?_); refine be_ (N := 6) (cs := #[.int .i64 0, .int .i64 0]) (t := 25) ?_; intro gb971 hg w19 hbox hb; have BK971 := am_ (hbox); have GW971 := am_ (hy_ hg (hb1_ HB.out GE967.out) : w.heap.size ≤ gb971); have GE971 := GW971; have NB967_971 := am_ (bl_ hg BK967.out : gb967 ≠ gb971); have NB971_967 := nb_ NB967_971; replace HO964 := am_ (Kd.R_below (by (with_reducible repeat (first | apply Kd.R_alloc | apply Kd.R_drewN | apply Kd.R_drew)); exact HO964.out) hb); replace BK967 := am_ (bb_ BK967.out hb); replace HB := am_ (below_step (hb1_ HB.out GE967.out) hb); clear hb hbox hg; have hnb20 := NB971_967.out; have hnc20 := NB967_971.out; obtain ⟨hcz21_0, hcz21_1, hfz21_0, hfz21_1⟩ := bc2_ BK971.out; obtain ⟨hcz22_0, hcz22_1, hcz22_2, hfz22_0, hfz22_1, hfz22_2⟩ := bc3_ BK967.out) | ((with_reducible refine gate_callee (f := 26) rfl ?_); refine gl_ Try.func26 #[.agg #[.int .i64 t960, .int .i64 t961, .slice Ao17 t962.length co17], .int .i64 t965, .int .i64 t966] ?_; (with_reducible refine (spec_Occurrence.calls k t960 t961 _ _ t962 t965 t966 t972 t973 t974 _ ?side1 ?side2 A6.out).mono ?_); (case side1 => refine (Kd.R_reads' (e := 42) (base := w.heap.size) (ok := fun k_ => True) (n := t962.length) (c := co17) ?_).2.2; exact (by (with_reducible repeat (first | apply Kd.R_alloc | apply Kd.R_drewN | apply Kd.R_drew)); exact (Kd.R_mono (Kd.R_far (p := ⟨gb971, 1, none⟩) (Kd.R_far (p := ⟨gb971, 0, none⟩) (Kd.R_types HO964.out BK971.out (by decide)) (fun _ hk => hk.2) (.int .i64 t968)) (fun _ hk => hk.2) (.int .i64 t969)) (fun _ h_ => h_.1)))); (case side2 => exact (Kd.R_reads' HO964.out).2.1); rintro e w23 ⟨rfl, hb⟩; refine ⟨_, rfl, ?_⟩; replace HO964 := am_ (Kd.R_below (by (with_reducible repeat (first | apply Kd.R_alloc | apply Kd.R_drewN | apply Kd.R_drew)); exact (Kd.R_mono (Kd.R_far (p := ⟨gb971, 1, none⟩) (Kd.R_far (p := ⟨gb971, 0, none⟩) (Kd.R_types HO964.out BK971.out (by decide)) (fun _ hk => hk.2) (.int .i64 t968)) (fun _ hk => hk.2) (.int .i64 t969)) (fun _ h_ => h_.1))) hb); replace BK967 := am_ (blk_below (g := gb967) (o := .cells #[.int .i64 t960, .int .i64 t961, .slice Ao17 t962.length co17] 30 (0, 0)) (by (with_reducible repeat (first | refine blk_drewN ?_ _ | refine blk_drew ?_ | refine blk_alloc ?_ _)); refine blk_far ?_ NB967_971.out _; (with_reducible repeat (first | refine blk_drewN ?_ _ | refine blk_drew ?_ | refine blk_alloc ?_ _)); refine blk_far ?_ NB967_971.out _; (with_reducible repeat (first | refine blk_drewN ?_ _ | refine blk_drew ?_ | refine blk_alloc ?_ _)); exact BK967.out) hb); replace BK971 := am_ (blk_below (g := gb971) (o := .cells #[.int .i64 t968, .int .i64 t969] 25 (0, 0)) (by (with_reducible repeat (first | refine blk_drewN ?_ _ | refine blk_drew ?_ | refine blk_alloc ?_ _)); refine blk_put (cs := #[.int .i64 t968, .int .i64 0]) ?_ 1 _ rfl; (with_reducible repeat (first | refine blk_drewN ?_ _ | refine blk_drew ?_ | refine blk_alloc ?_ _)); refine blk_put (cs := #[.int .i64 0, .int .i64 0]) ?_ 0 _ rfl; (with_reducible repeat (first | refine blk_drewN ?_ _ | refine blk_drew ?_ | refine blk_alloc ?_ _)); exact BK971.out) hb); replace HB := am_ (below_step (hb2_ HB.out GE967.out GE971.out) hb); (try clear hb); (try clear hb2); (try clear hk); (try clear hi)) | ((with_reducible refine gate_dst (N := 8) rfl ?_); refine be_ (N := 8) (cs := #[.int .i64 0, .int .i64 0]) (t := 25) ?_; intro gb975 hg w24 hbox hb; have BK975 := am_ (hbox); have GW975 := am_ (hy_ hg (hb2_ HB.out GE967.out GE971.out) : w.heap.size ≤ gb975); have GE975 := GW975; have NB967_975 := am_ (bl_ hg BK967.out : gb967 ≠ gb975); have NB975_967 := nb_ NB967_975; have NB971_975 := am_ (bl_ hg BK971.out : gb971 ≠ gb975); have NB975_971 := nb_ NB971_975; replace HO964 := am_ (Kd.R_below (by (with_reducible repeat (first | apply Kd.R_alloc | apply Kd.R_drewN | apply Kd.R_drew)); exact HO964.out) hb); replace BK967 := am_ (bb_ BK967.out hb); replace BK971 := am_ (bb_ BK971.out hb); replace HB := am_ (below_step (hb2_ HB.out GE967.out GE971.out) hb); clear hb hbox hg; have hnb25 := NB975_967.out; have hnc25 := NB967_975.out; have hnb26 := NB975_971.out; have hnc26 := NB971_975.out; obtain ⟨hcz27_0, hcz27_1, hfz27_0, hfz27_1⟩ := bc2_ BK975.out))
     have n0_ : Aside0 (Kd.R k42 42 ((w24.setCell ⟨gb975, 0, none⟩ (.int .i64 t972)).setCell ⟨gb975, 1, none⟩ (.int .i64 t973)) w.heap.size (fun _ => True) (.slice Ao17 t962.length co17) t962) := ⟨by (with_reducible repeat (first | apply Kd.R_alloc | apply Kd.R_drewN | apply Kd.R_drew)); exact Kd.R_mono (Kd.R_far (p := ⟨gb975, 1, none⟩) (Kd.R_far (p := ⟨gb975, 0, none⟩) (Kd.R_types HO964.out BK975.out (by decide)) (fun _ hk => hk.2) (.int .i64 t972)) (fun _ hk => hk.2) (.int .i64 t973)) (fun _ hk => trivial)⟩
     have n1_ : Aside0 (((w24.setCell ⟨gb975, 0, none⟩ (.int .i64 t972)).setCell ⟨gb975, 1, none⟩ (.int .i64 t973)).heap[gb967]? = some (.cells #[.int .i64 t960, .int .i64 t961, .slice Ao17 t962.length co17] 30 (0, 0))) := ⟨by (with_reducible repeat (first | refine blk_drewN ?_ _ | refine blk_drew ?_ | refine blk_alloc ?_ _)); refine blk_far ?_ NB967_975.out _; (with_reducible repeat (first | refine blk_drewN ?_ _ | refine blk_drew ?_ | refine blk_alloc ?_ _)); refine blk_far ?_ NB967_975.out _; (with_reducible repeat (first | refine blk_drewN ?_ _ | refine blk_drew ?_ | refine blk_alloc ?_ _)); exact BK967.out⟩
     have n2_ : Aside0 (((w24.setCell ⟨gb975, 0, none⟩ (.int .i64 t972)).setCell ⟨gb975, 1, none⟩ (.int .i64 t973)).heap[gb971]? = some (.cells #[.int .i64 t968, .int .i64 t969] 25 (0, 0))) := ⟨by (with_reducible repeat (first | refine blk_drewN ?_ _ | refine blk_drew ?_ | refine blk_alloc ?_ _)); refine blk_far ?_ NB971_975.out _; (with_reducible repeat (first | refine blk_drewN ?_ _ | refine blk_drew ?_ | refine blk_alloc ?_ _)); refine blk_far ?_ NB971_975.out _; (with_reducible repeat (first | refine blk_drewN ?_ _ | refine blk_drew ?_ | refine blk_alloc ?_ _)); exact BK971.out⟩
     have n3_ : Aside0 (((w24.setCell ⟨gb975, 0, none⟩ (.int .i64 t972)).setCell ⟨gb975, 1, none⟩ (.int .i64 t973)).heap[gb975]? = some (.cells #[.int .i64 t972, .int .i64 t973] 25 (0, 0))) := ⟨by (with_reducible repeat (first | refine blk_drewN ?_ _ | refine blk_drew ?_ | refine blk_alloc ?_ _)); refine blk_put (cs := #[.int .i64 t972, .int .i64 0]) ?_ 1 _ rfl; (with_reducible repeat (first | refine blk_drewN ?_ _ | refine blk_drew ?_ | refine blk_alloc ?_ _)); refine blk_put (cs := #[.int .i64 0, .int .i64 0]) ?_ 0 _ rfl; (with_reducible repeat (first | refine blk_drewN ?_ _ | refine blk_drew ?_ | refine blk_alloc ?_ _)); exact BK975.out⟩
     have n4_ : Aside0 (Below w.heap.size w ((w24.setCell ⟨gb975, 0, none⟩ (.int .i64 t972)).setCell ⟨gb975, 1, none⟩ (.int .i64 t973))) := ⟨hb3_ HB.out GE967.out GE971.out GE975.out⟩
     (try clear HO964)
     (try clear BK967)
     (try clear BK971)
     (try clear BK975)
     (try clear HB)
     generalize ((w24.setCell ⟨gb975, 0, none⟩ (.int .i64 t972)).setCell ⟨gb975, 1, none⟩ (.int .i64 t973)) = w28 at n0_ n1_ n2_ n3_ n4_ ⊢
     have HO964 := n0_
     have BK967 := n1_
     have BK971 := n2_
     have BK975 := n3_
     have HB := n4_
     clear n0_ n1_ n2_ n3_ n4_
     have n0_ := am_ (Kd.R_drew HO964.out)
     have n1_ := am_ (blk_drew BK967.out)
     have n2_ := am_ (blk_drew BK971.out)
     have n3_ := am_ (blk_drew BK975.out)
     have n4_ := am_ (below_drew1 HB.out)
     clear HO964
     clear BK967
     clear BK971
     clear BK975
     clear HB
     have HO964 := n0_
     have BK967 := n1_
     have BK971 := n2_
     have BK975 := n3_
     have HB := n4_
     clear n0_ n1_ n2_ n3_ n4_
     refine start_ (n := 7) (S := fun w' => w'.cell? ⟨gb967, 0, none⟩ = some (.int .i64 t960) ∧ w'.cell? ⟨gb967, 1, none⟩ = some (.int .i64 t961) ∧ w'.cell? ⟨gb967, 2, none⟩ = some (.slice Ao17 t962.length co17)) (ds := []) #[false, false, false, false, false, false, false] (by kernel_rfl) rfl rfl ⟨(blk_cell BK967.out 0).trans rfl, (blk_cell BK967.out 1).trans rfl, (blk_cell BK967.out 2).trans rfl⟩ (fun hHeld => ?_)
     generalize w28.drew = w29 at HO964 BK967 BK971 BK975 HB hHeld ⊢
     refine pure_ (i := 0) (N := some 57) (v := ?_) (a' := ?_) #[true, false, false, false, false, false, false] rfl rfl (by kernel_rfl) (fun _ _ _ h => h) (Or.inl ⟨by rfl, ?_⟩) ?_ ?_
     rotate_left
     ·intro w'
      go_simp
      with_reducible rfl
     rotate_left
     ·simp only [Act.put, List.setIfInBounds_toArray, List.set_cons_zero, List.set_cons_succ, i64_w, i32_w]
      rfl
     refine pure_ (i := 2) (N := some 59) (v := ?_) (a' := ?_) #[true, false, true, false, false, false, false] rfl rfl (by kernel_rfl) (fun _ _ _ h => h) (Or.inl ⟨by rfl, ?_⟩) ?_ ?_
     rotate_left
     ·intro w'
      go_simp
      with_reducible rfl
     rotate_left
     ·simp only [Act.put, List.setIfInBounds_toArray, List.set_cons_zero, List.set_cons_succ, i64_w, i32_w]
      rfl
     refine take_ (i := 3) (N := some 60) (v := ?_) (a' := ?_) #[true, false, true, true, false, false, false] rfl rfl (by kernel_rfl) (fun _ _ _ h => h) (Or.inl ⟨by rfl, ?_⟩) hHeld ?_ ?_
     rotate_left
     ·rintro w' ⟨s0, s1, s2⟩
      go_simp
      with_reducible rfl
     rotate_left
     ·simp only [Act.put, List.setIfInBounds_toArray, List.set_cons_zero, List.set_cons_succ, i64_w, i32_w]
      rfl
     refine pure_ (i := 4) (N := some 61) (v := ?_) (a' := ?_) #[true, false, true, true, true, false, false] rfl rfl (by kernel_rfl) (fun _ _ _ h => h) (Or.inl ⟨by rfl, ?_⟩) ?_ ?_
     rotate_left
     ·intro w'
      go_simp
      with_reducible rfl
     rotate_left
     ·simp only [Act.put, List.setIfInBounds_toArray, List.set_cons_zero, List.set_cons_succ, i64_w, i32_w]
      rfl
     refine one_ (i := 1) (N := some 58) #[true, true, true, true, true, false, false] rfl rfl (by kernel_rfl) (by decide) (fun K hK => ?_)
     refine goes_ Try.func15 (by kernel_rfl) rfl #[.slice A0 l0.length c0, .int .i64 1] (by rfl) rfl rfl arr_ ?_
     with_reducible refine (laws_at.calls _ _ l0 1 t980 _ ?side1 ?side2 A9.out).mono ?_
     (case side1 => exact kc_ (Kd.C_below HR0.out HB.out))
     (case side2 => exact HC0.out)
     rintro e w' ⟨rfl, ⟨nd, rfl⟩⟩
     refine ⟨_, rfl, ?_⟩
     refine hK.out _ _ ⟨(blk_cell BK967.out 0).trans rfl, (blk_cell BK967.out 1).trans rfl, (blk_cell BK967.out 2).trans rfl⟩ (fun hHeld => ?_)
     clear hK K
     refine norm_ (a' := ?_) ?_ ?_
     rotate_left
     ·show Act.put _ (some 58) _ = _
      simp only [Act.put, List.setIfInBounds_toArray, List.set_cons_zero, List.set_cons_succ, i64_w, i32_w]
      rfl
     refine pure_ (i := 5) (N := some 62) (v := ?_) (a' := ?_) #[true, true, true, true, true, true, false] rfl rfl (by kernel_rfl) (fun _ _ _ h => h) (Or.inl ⟨by rfl, ?_⟩) ?_ ?_
     rotate_left
     ·intro w'
      go_simp
      with_reducible rfl
     rotate_left
     ·simp only [Act.put, List.setIfInBounds_toArray, List.set_cons_zero, List.set_cons_succ, i64_w, i32_w]
      rfl
     refine pure_ (i := 6) (N := some 10) (v := ?_) (a' := ?_) #[true, true, true, true, true, true, true] rfl rfl (by kernel_rfl) (fun _ _ _ h => h) (Or.inl ⟨by rfl, ?_⟩) ?_ ?_
     rotate_left
     ·intro w'
      go_simp
      with_reducible rfl
     rotate_left
     ·simp only [Act.put, List.setIfInBounds_toArray, List.set_cons_zero, List.set_cons_succ, i64_w, i32_w]
      rfl
     refine done_ (by kernel_rfl) ?_
     go_upto_region 13 with (first | ((with_reducible refine gate_callee (f := 15) rfl ?_); refine gl_ Try.func15 #[.slice A0 l0.length c0, .int .i64 2] ?_; (with_reducible refine (laws_at.calls _ _ l0 2 t981 _ ?side1 ?side2 A11.out).mono ?_); (case side1 => repeat (first | exact (Kd.C_below HR0.out (hb3_ HB.out GE967.out GE971.out GE975.out)) | (with_reducible refine Kd.C_alloc ?_ _) | (with_reducible refine Kd.C_drewN ?_ _) | (with_reducible refine Kd.C_drew ?_))); (case side2 => exact HC0.out); rintro e w' ⟨rfl, ⟨nd, rfl⟩⟩; refine ⟨_, rfl, ?_⟩; (try (rw [drewN_self w29]; generalize hq_ : World.drewN w29 _ = w29; have n0_ : Aside0 (Kd.R k42 42 w29 w.heap.size (fun _ => True) (.slice Ao17 t962.length co17) t962) := ⟨by rw [← hq_]; exact (by (with_reducible repeat (first | apply Kd.R_alloc | apply Kd.R_drewN | apply Kd.R_drew)); exact HO964.out)⟩; have n1_ : Aside0 (w29.heap[gb967]? = some (.cells #[.int .i64 t960, .int .i64 t961, .slice Ao17 t962.length co17] 30 (0, 0))) := ⟨by rw [← hq_]; exact (bk_ BK967.out)⟩; have n2_ : Aside0 (w29.heap[gb971]? = some (.cells #[.int .i64 t968, .int .i64 t969] 25 (0, 0))) := ⟨by rw [← hq_]; exact (bk_ BK971.out)⟩; have n3_ : Aside0 (w29.heap[gb975]? = some (.cells #[.int .i64 t972, .int .i64 t973] 25 (0, 0))) := ⟨by rw [← hq_]; exact (bk_ BK975.out)⟩; have n4_ : Aside0 (Below w.heap.size w w29) := ⟨by rw [← hq_]; exact (hb3_ HB.out GE967.out GE971.out GE975.out)⟩; clear HO964 BK967 BK971 BK975 HB hq_; have HO964 := n0_; have BK967 := n1_; have BK971 := n2_; have BK975 := n3_; have HB := n4_; clear n0_ n1_ n2_ n3_ n4_)); obtain ⟨hcz30_0, hcz30_1, hcz30_2, hfz30_0, hfz30_1, hfz30_2⟩ := bc3_ BK967.out) | ((with_reducible refine gate_callee (f := 12) rfl ?_); refine gl_ Try.func12 #[.agg #[.int .i64 t960, .int .i64 t961, .slice Ao17 t962.length co17], .int .i64 (Int.tmod t980 (t962.length : Int)), .int .i64 (wrap64 ((wrap64 (t966 + (Int.tmod t981 3))) - 1))] ?_; (with_reducible refine (impl_Occurrence.calls k t960 t961 _ _ t962 (Int.tmod t980 (t962.length : Int)) (wrap64 ((wrap64 (t966 + (Int.tmod t981 3))) - 1)) t982 t983 t984 _ ?side1 ?side2 A12.out).mono ?_); (case side1 => repeat (first | exact (Kd.R_reads' HO964.out).2.2 | (with_reducible refine Kd.C_alloc ?_ _) | (with_reducible refine Kd.C_drewN ?_ _) | (with_reducible refine Kd.C_drew ?_))); (case side2 => exact (Kd.R_reads' HO964.out).2.1); rintro e w31 ⟨rfl, hb⟩; refine ⟨_, rfl, ?_⟩; replace HO964 := am_ (Kd.R_below (by (with_reducible repeat (first | apply Kd.R_alloc | apply Kd.R_drewN | apply Kd.R_drew)); exact HO964.out) hb); replace BK967 := am_ (bb_ BK967.out hb); replace BK971 := am_ (bb_ BK971.out hb); replace BK975 := am_ (bb_ BK975.out hb); replace HB := am_ (below_step (hb3_ HB.out GE967.out GE971.out GE975.out) hb); (try clear hb); (try clear hb2); (try clear hk); (try clear hi)) | ((with_reducible refine gate_dst (N := 12) rfl ?_); refine be_ (N := 12) (cs := #[.int .i64 0, .int .i64 0]) (t := 25) ?_; intro gb985 hg w32 hbox hb; have BK985 := am_ (hbox); have GW985 := am_ (hy_ hg (hb3_ HB.out GE967.out GE971.out GE975.out) : w.heap.size ≤ gb985); have GE985 := GW985; have NB967_985 := am_ (bl_ hg BK967.out : gb967 ≠ gb985); have NB985_967 := nb_ NB967_985; have NB971_985 := am_ (bl_ hg BK971.out : gb971 ≠ gb985); have NB985_971 := nb_ NB971_985; have NB975_985 := am_ (bl_ hg BK975.out : gb975 ≠ gb985); have NB985_975 := nb_ NB975_985; replace HO964 := am_ (Kd.R_below (by (with_reducible repeat (first | apply Kd.R_alloc | apply Kd.R_drewN | apply Kd.R_drew)); exact HO964.out) hb); replace BK967 := am_ (bb_ BK967.out hb); replace BK971 := am_ (bb_ BK971.out hb); replace BK975 := am_ (bb_ BK975.out hb); replace HB := am_ (below_step (hb3_ HB.out GE967.out GE971.out GE975.out) hb); clear hb hbox hg; have hnb33 := NB985_967.out; have hnc33 := NB967_985.out; have hnb34 := NB985_971.out; have hnc34 := NB971_985.out; have hnb35 := NB985_975.out; have hnc35 := NB975_985.out; obtain ⟨hcz36_0, hcz36_1, hfz36_0, hfz36_1⟩ := bc2_ BK985.out))
     (try simp only [Act.put, List.setIfInBounds_toArray, List.set_cons_zero, List.set_cons_succ])
     go_cut [100] (fun v100 wc => ∃ (kq : Nat) (x100_12 : Bool), v100 = .bool x100_12 ∧ Aside0 (laws_FnApart.j0 kq t965 t966 x100_12 t960 t961 t962 t968 t969 = some r) ∧ Aside0 (kq ≤ k) ∧ Aside0 (Kd.R k42 42 wc w.heap.size (fun _ => True) (.slice Ao17 t962.length co17) t962) ∧ Aside0 (wc.heap[gb967]? = some (.cells #[.int .i64 t960, .int .i64 t961, (.slice Ao17 t962.length co17)] 30 (0, 0))) ∧ Aside0 (wc.heap[gb971]? = some (.cells #[.int .i64 t968, .int .i64 t969] 25 (0, 0))) ∧ Aside0 (wc.heap[gb975]? = some (.cells #[.int .i64 t972, .int .i64 t973] 25 (0, 0))) ∧ Aside0 (wc.heap[gb985]? = some (.cells #[.int .i64 t982, .int .i64 t983] 25 (0, 0))) ∧ Aside0 (Below w.heap.size w wc))
     case first =>
      have H := HC13.out
      clear HC13
      by_cases c37 : t984 = true
      ·subst c37
       have H1 : (if t965 = (Int.tmod t980 (t962.length : Int)) then (if t966 = (wrap64 ((wrap64 (t966 + (Int.tmod t981 3))) - 1)) then (laws_FnApart.j0 k t965 t966 false t960 t961 t962 t968 t969) else (if t968 < t983 then (laws_FnApart.j0 k t965 t966 (decide (t982 < t969)) t960 t961 t962 t968 t969) else (laws_FnApart.j0 k t965 t966 false t960 t961 t962 t968 t969))) else (if t968 < t983 then (laws_FnApart.j0 k t965 t966 (decide (t982 < t969)) t960 t961 t962 t968 t969) else (laws_FnApart.j0 k t965 t966 false t960 t961 t962 t968 t969))) = some r := by rw [if_pos rfl] at H; exact H
       clear H
       have H := H1
       clear H1
       by_cases c38 : t965 = (Int.tmod t980 (t962.length : Int))
       ·rw [if_pos c38] at H
        have c38b0 : (t965 == (Int.tmod t980 (t962.length : Int))) = true := beq_iff_eq.mpr c38
        have c38b1 : (t965 != (Int.tmod t980 (t962.length : Int))) = false := bne_eq_false_iff_eq.mpr c38
        clear c38
        (first | rw [c38b0] | (simp only [i64_w, i32_w]; rw [c38b0]) | skip)
        by_cases c39 : t966 = (wrap64 ((wrap64 (t966 + (Int.tmod t981 3))) - 1))
        ·rw [if_pos c39] at H
         have c39b0 : (t966 == (wrap64 ((wrap64 (t966 + (Int.tmod t981 3))) - 1))) = true := beq_iff_eq.mpr c39
         have c39b1 : (t966 != (wrap64 ((wrap64 (t966 + (Int.tmod t981 3))) - 1))) = false := bne_eq_false_iff_eq.mpr c39
         clear c39
         have H' := Aside0.mk H
         clear H
         go_wp2
         go_meet
         case rel => exact ⟨_, (false), (by first | rfl | (simp; done) | (simp [*]; done)), H', ⟨by first | omega | exact Nat.le_refl _⟩, ⟨by (with_reducible repeat (first | apply Kd.R_alloc | apply Kd.R_drewN | apply Kd.R_drew)); exact Kd.R_mono (Kd.R_far (p := ⟨gb985, 1, none⟩) (Kd.R_far (p := ⟨gb985, 0, none⟩) (Kd.R_types HO964.out BK985.out (by decide)) (fun _ hk => hk.2) (.int .i64 t982)) (fun _ hk => hk.2) (.int .i64 t983)) (fun _ hk => trivial)⟩, ⟨by (with_reducible repeat (first | refine blk_drewN ?_ _ | refine blk_drew ?_ | refine blk_alloc ?_ _)); refine blk_far ?_ NB967_985.out _; (with_reducible repeat (first | refine blk_drewN ?_ _ | refine blk_drew ?_ | refine blk_alloc ?_ _)); refine blk_far ?_ NB967_985.out _; (with_reducible repeat (first | refine blk_drewN ?_ _ | refine blk_drew ?_ | refine blk_alloc ?_ _)); exact BK967.out⟩, ⟨by (with_reducible repeat (first | refine blk_drewN ?_ _ | refine blk_drew ?_ | refine blk_alloc ?_ _)); refine blk_far ?_ NB971_985.out _; (with_reducible repeat (first | refine blk_drewN ?_ _ | refine blk_drew ?_ | refine blk_alloc ?_ _)); refine blk_far ?_ NB971_985.out _; (with_reducible repeat (first | refine blk_drewN ?_ _ | refine blk_drew ?_ | refine blk_alloc ?_ _)); exact BK971.out⟩, ⟨by (with_reducible repeat (first | refine blk_drewN ?_ _ | refine blk_drew ?_ | refine blk_alloc ?_ _)); refine blk_far ?_ NB975_985.out _; (with_reducible repeat (first | refine blk_drewN ?_ _ | refine blk_drew ?_ | refine blk_alloc ?_ _)); refine blk_far ?_ NB975_985.out _; (with_reducible repeat (first | refine blk_drewN ?_ _ | refine blk_drew ?_ | refine blk_alloc ?_ _)); exact BK975.out⟩, ⟨by (with_reducible repeat (first | refine blk_drewN ?_ _ | refine blk_drew ?_ | refine blk_alloc ?_ _)); refine blk_put (cs := #[.int .i64 t982, .int .i64 0]) ?_ 1 _ rfl; (with_reducible repeat (first | refine blk_drewN ?_ _ | refine blk_drew ?_ | refine blk_alloc ?_ _)); refine blk_put (cs := #[.int .i64 0, .int .i64 0]) ?_ 0 _ rfl; (with_reducible repeat (first | refine blk_drewN ?_ _ | refine blk_drew ?_ | refine blk_alloc ?_ _)); exact BK985.out⟩, ⟨hb4_ HB.out GE967.out GE971.out GE975.out GE985.out⟩⟩
        ·rw [if_neg c39] at H
         have c39b0 : (t966 == (wrap64 ((wrap64 (t966 + (Int.tmod t981 3))) - 1))) = false := beq_eq_false_iff_ne.mpr c39
         have c39b1 : (t966 != (wrap64 ((wrap64 (t966 + (Int.tmod t981 3))) - 1))) = true := bne_iff_ne.mpr c39
         by_cases c40 : t968 < t983
         ·rw [if_pos c40] at H
          have c40b0 : decide (t968 < t983) = true := decide_eq_true c40
          clear c40
          have H' := Aside0.mk H
          clear H
          have hnb41 := NB971_967.out
          have hnc41 := NB967_971.out
          have hnb42 := NB971_975.out
          have hnc42 := NB975_971.out
          have hnb43 := NB971_985.out
          have hnc43 := NB985_971.out
          have hcz44_0 := bc_ BK971.out 0 (.int .i64 t968) rfl
          have hcz44_1 := bc_ BK971.out 1 (.int .i64 t969) rfl
          have hfz44_0 := blk_frozen BK971.out 0
          have hfz44_1 := blk_frozen BK971.out 1
          have hnb45 := NB985_967.out
          have hnc45 := NB967_985.out
          have hnb46 := NB985_975.out
          have hnc46 := NB975_985.out
          have hcz47_0 := bc_ BK985.out 0 (.int .i64 0) rfl
          have hcz47_1 := bc_ BK985.out 1 (.int .i64 0) rfl
          have hfz47_0 := blk_frozen BK985.out 0
          have hfz47_1 := blk_frozen BK985.out 1
          go_wp2
          go_meet
          case rel => exact ⟨_, (decide (t982 < t969)), (by first | rfl | (simp; done) | (simp [*]; done)), H', ⟨by first | omega | exact Nat.le_refl _⟩, ⟨by (with_reducible repeat (first | apply Kd.R_alloc | apply Kd.R_drewN | apply Kd.R_drew)); exact Kd.R_mono (Kd.R_far (p := ⟨gb985, 1, none⟩) (Kd.R_far (p := ⟨gb985, 0, none⟩) (Kd.R_types HO964.out BK985.out (by decide)) (fun _ hk => hk.2) (.int .i64 t982)) (fun _ hk => hk.2) (.int .i64 t983)) (fun _ hk => trivial)⟩, ⟨by (with_reducible repeat (first | refine blk_drewN ?_ _ | refine blk_drew ?_ | refine blk_alloc ?_ _)); refine blk_far ?_ NB967_985.out _; (with_reducible repeat (first | refine blk_drewN ?_ _ | refine blk_drew ?_ | refine blk_alloc ?_ _)); refine blk_far ?_ NB967_985.out _; (with_reducible repeat (first | refine blk_drewN ?_ _ | refine blk_drew ?_ | refine blk_alloc ?_ _)); exact BK967.out⟩, ⟨by (with_reducible repeat (first | refine blk_drewN ?_ _ | refine blk_drew ?_ | refine blk_alloc ?_ _)); refine blk_far ?_ NB971_985.out _; (with_reducible repeat (first | refine blk_drewN ?_ _ | refine blk_drew ?_ | refine blk_alloc ?_ _)); refine blk_far ?_ NB971_985.out _; (with_reducible repeat (first | refine blk_drewN ?_ _ | refine blk_drew ?_ | refine blk_alloc ?_ _)); exact BK971.out⟩, ⟨by (with_reducible repeat (first | refine blk_drewN ?_ _ | refine blk_drew ?_ | refine blk_alloc ?_ _)); refine blk_far ?_ NB975_985.out _; (with_reducible repeat (first | refine blk_drewN ?_ _ | refine blk_drew ?_ | refine blk_alloc ?_ _)); refine blk_far ?_ NB975_985.out _; (with_reducible repeat (first | refine blk_drewN ?_ _ | refine blk_drew ?_ | refine blk_alloc ?_ _)); exact BK975.out⟩, ⟨by (with_reducible repeat (first | refine blk_drewN ?_ _ | refine blk_drew ?_ | refine blk_alloc ?_ _)); refine blk_put (cs := #[.int .i64 t982, .int .i64 0]) ?_ 1 _ rfl; (with_reducible repeat (first | refine blk_drewN ?_ _ | refine blk_drew ?_ | refine blk_alloc ?_ _)); refine blk_put (cs := #[.int .i64 0, .int .i64 0]) ?_ 0 _ rfl; (with_reducible repeat (first | refine blk_drewN ?_ _ | refine blk_drew ?_ | refine blk_alloc ?_ _)); exact BK985.out⟩, ⟨hb4_ HB.out GE967.out GE971.out GE975.out GE985.out⟩⟩
         ·rw [if_neg c40] at H
          have c40b0 : decide (t968 < t983) = false := decide_eq_false c40
          clear c40
          have H' := Aside0.mk H
          clear H
          have hnb48 := NB971_967.out
          have hnc48 := NB967_971.out
          have hnb49 := NB971_975.out
          have hnc49 := NB975_971.out
          have hnb50 := NB971_985.out
          have hnc50 := NB985_971.out
          have hcz51_0 := bc_ BK971.out 0 (.int .i64 t968) rfl
          have hcz51_1 := bc_ BK971.out 1 (.int .i64 t969) rfl
          have hfz51_0 := blk_frozen BK971.out 0
          have hfz51_1 := blk_frozen BK971.out 1
          have hnb52 := NB985_967.out
          have hnc52 := NB967_985.out
          have hnb53 := NB985_975.out
          have hnc53 := NB975_985.out
          have hcz54_0 := bc_ BK985.out 0 (.int .i64 0) rfl
          have hcz54_1 := bc_ BK985.out 1 (.int .i64 0) rfl
          have hfz54_0 := blk_frozen BK985.out 0
          have hfz54_1 := blk_frozen BK985.out 1
          go_wp2
          go_meet
          case rel => exact ⟨_, (false), (by first | rfl | (simp; done) | (simp [*]; done)), H', ⟨by first | omega | exact Nat.le_refl _⟩, ⟨by (with_reducible repeat (first | apply Kd.R_alloc | apply Kd.R_drewN | apply Kd.R_drew)); exact Kd.R_mono (Kd.R_far (p := ⟨gb985, 1, none⟩) (Kd.R_far (p := ⟨gb985, 0, none⟩) (Kd.R_types HO964.out BK985.out (by decide)) (fun _ hk => hk.2) (.int .i64 t982)) (fun _ hk => hk.2) (.int .i64 t983)) (fun _ hk => trivial)⟩, ⟨by (with_reducible repeat (first | refine blk_drewN ?_ _ | refine blk_drew ?_ | refine blk_alloc ?_ _)); refine blk_far ?_ NB967_985.out _; (with_reducible repeat (first | refine blk_drewN ?_ _ | refine blk_drew ?_ | refine blk_alloc ?_ _)); refine blk_far ?_ NB967_985.out _; (with_reducible repeat (first | refine blk_drewN ?_ _ | refine blk_drew ?_ | refine blk_alloc ?_ _)); exact BK967.out⟩, ⟨by (with_reducible repeat (first | refine blk_drewN ?_ _ | refine blk_drew ?_ | refine blk_alloc ?_ _)); refine blk_far ?_ NB971_985.out _; (with_reducible repeat (first | refine blk_drewN ?_ _ | refine blk_drew ?_ | refine blk_alloc ?_ _)); refine blk_far ?_ NB971_985.out _; (with_reducible repeat (first | refine blk_drewN ?_ _ | refine blk_drew ?_ | refine blk_alloc ?_ _)); exact BK971.out⟩, ⟨by (with_reducible repeat (first | refine blk_drewN ?_ _ | refine blk_drew ?_ | refine blk_alloc ?_ _)); refine blk_far ?_ NB975_985.out _; (with_reducible repeat (first | refine blk_drewN ?_ _ | refine blk_drew ?_ | refine blk_alloc ?_ _)); refine blk_far ?_ NB975_985.out _; (with_reducible repeat (first | refine blk_drewN ?_ _ | refine blk_drew ?_ | refine blk_alloc ?_ _)); exact BK975.out⟩, ⟨by (with_reducible repeat (first | refine blk_drewN ?_ _ | refine blk_drew ?_ | refine blk_alloc ?_ _)); refine blk_put (cs := #[.int .i64 t982, .int .i64 0]) ?_ 1 _ rfl; (with_reducible repeat (first | refine blk_drewN ?_ _ | refine blk_drew ?_ | refine blk_alloc ?_ _)); refine blk_put (cs := #[.int .i64 0, .int .i64 0]) ?_ 0 _ rfl; (with_reducible repeat (first | refine blk_drewN ?_ _ | refine blk_drew ?_ | refine blk_alloc ?_ _)); exact BK985.out⟩, ⟨hb4_ HB.out GE967.out GE971.out GE975.out GE985.out⟩⟩
       ·rw [if_neg c38] at H
        have c38b0 : (t965 == (Int.tmod t980 (t962.length : Int))) = false := beq_eq_false_iff_ne.mpr c38
        have c38b1 : (t965 != (Int.tmod t980 (t962.length : Int))) = true := bne_iff_ne.mpr c38
        (first | rw [c38b0] | (simp only [i64_w, i32_w]; rw [c38b0]) | skip)
        by_cases c55 : t968 < t983
        ·rw [if_pos c55] at H
         have c55b0 : decide (t968 < t983) = true := decide_eq_true c55
         clear c55
         have H' := Aside0.mk H
         clear H
         have hnb56 := NB971_967.out
         have hnc56 := NB967_971.out
         have hnb57 := NB971_975.out
         have hnc57 := NB975_971.out
         have hnb58 := NB971_985.out
         have hnc58 := NB985_971.out
         have hcz59_0 := bc_ BK971.out 0 (.int .i64 t968) rfl
         have hcz59_1 := bc_ BK971.out 1 (.int .i64 t969) rfl
         have hfz59_0 := blk_frozen BK971.out 0
         have hfz59_1 := blk_frozen BK971.out 1
         have hnb60 := NB985_967.out
         have hnc60 := NB967_985.out
         have hnb61 := NB985_975.out
         have hnc61 := NB975_985.out
         have hcz62_0 := bc_ BK985.out 0 (.int .i64 0) rfl
         have hcz62_1 := bc_ BK985.out 1 (.int .i64 0) rfl
         have hfz62_0 := blk_frozen BK985.out 0
         have hfz62_1 := blk_frozen BK985.out 1
         go_wp2
         go_meet
         case rel => exact ⟨_, (decide (t982 < t969)), (by first | rfl | (simp; done) | (simp [*]; done)), H', ⟨by first | omega | exact Nat.le_refl _⟩, ⟨by (with_reducible repeat (first | apply Kd.R_alloc | apply Kd.R_drewN | apply Kd.R_drew)); exact Kd.R_mono (Kd.R_far (p := ⟨gb985, 1, none⟩) (Kd.R_far (p := ⟨gb985, 0, none⟩) (Kd.R_types HO964.out BK985.out (by decide)) (fun _ hk => hk.2) (.int .i64 t982)) (fun _ hk => hk.2) (.int .i64 t983)) (fun _ hk => trivial)⟩, ⟨by (with_reducible repeat (first | refine blk_drewN ?_ _ | refine blk_drew ?_ | refine blk_alloc ?_ _)); refine blk_far ?_ NB967_985.out _; (with_reducible repeat (first | refine blk_drewN ?_ _ | refine blk_drew ?_ | refine blk_alloc ?_ _)); refine blk_far ?_ NB967_985.out _; (with_reducible repeat (first | refine blk_drewN ?_ _ | refine blk_drew ?_ | refine blk_alloc ?_ _)); exact BK967.out⟩, ⟨by (with_reducible repeat (first | refine blk_drewN ?_ _ | refine blk_drew ?_ | refine blk_alloc ?_ _)); refine blk_far ?_ NB971_985.out _; (with_reducible repeat (first | refine blk_drewN ?_ _ | refine blk_drew ?_ | refine blk_alloc ?_ _)); refine blk_far ?_ NB971_985.out _; (with_reducible repeat (first | refine blk_drewN ?_ _ | refine blk_drew ?_ | refine blk_alloc ?_ _)); exact BK971.out⟩, ⟨by (with_reducible repeat (first | refine blk_drewN ?_ _ | refine blk_drew ?_ | refine blk_alloc ?_ _)); refine blk_far ?_ NB975_985.out _; (with_reducible repeat (first | refine blk_drewN ?_ _ | refine blk_drew ?_ | refine blk_alloc ?_ _)); refine blk_far ?_ NB975_985.out _; (with_reducible repeat (first | refine blk_drewN ?_ _ | refine blk_drew ?_ | refine blk_alloc ?_ _)); exact BK975.out⟩, ⟨by (with_reducible repeat (first | refine blk_drewN ?_ _ | refine blk_drew ?_ | refine blk_alloc ?_ _)); refine blk_put (cs := #[.int .i64 t982, .int .i64 0]) ?_ 1 _ rfl; (with_reducible repeat (first | refine blk_drewN ?_ _ | refine blk_drew ?_ | refine blk_alloc ?_ _)); refine blk_put (cs := #[.int .i64 0, .int .i64 0]) ?_ 0 _ rfl; (with_reducible repeat (first | refine blk_drewN ?_ _ | refine blk_drew ?_ | refine blk_alloc ?_ _)); exact BK985.out⟩, ⟨hb4_ HB.out GE967.out GE971.out GE975.out GE985.out⟩⟩
        ·rw [if_neg c55] at H
         have c55b0 : decide (t968 < t983) = false := decide_eq_false c55
         clear c55
         have H' := Aside0.mk H
         clear H
         have hnb63 := NB971_967.out
         have hnc63 := NB967_971.out
         have hnb64 := NB971_975.out
         have hnc64 := NB975_971.out
         have hnb65 := NB971_985.out
         have hnc65 := NB985_971.out
         have hcz66_0 := bc_ BK971.out 0 (.int .i64 t968) rfl
         have hcz66_1 := bc_ BK971.out 1 (.int .i64 t969) rfl
         have hfz66_0 := blk_frozen BK971.out 0
         have hfz66_1 := blk_frozen BK971.out 1
         have hnb67 := NB985_967.out
         have hnc67 := NB967_985.out
         have hnb68 := NB985_975.out
         have hnc68 := NB975_985.out
         have hcz69_0 := bc_ BK985.out 0 (.int .i64 0) rfl
         have hcz69_1 := bc_ BK985.out 1 (.int .i64 0) rfl
         have hfz69_0 := blk_frozen BK985.out 0
         have hfz69_1 := blk_frozen BK985.out 1
         go_wp2
         go_meet
         case rel => exact ⟨_, (false), (by first | rfl | (simp; done) | (simp [*]; done)), H', ⟨by first | omega | exact Nat.le_refl _⟩, ⟨by (with_reducible repeat (first | apply Kd.R_alloc | apply Kd.R_drewN | apply Kd.R_drew)); exact Kd.R_mono (Kd.R_far (p := ⟨gb985, 1, none⟩) (Kd.R_far (p := ⟨gb985, 0, none⟩) (Kd.R_types HO964.out BK985.out (by decide)) (fun _ hk => hk.2) (.int .i64 t982)) (fun _ hk => hk.2) (.int .i64 t983)) (fun _ hk => trivial)⟩, ⟨by (with_reducible repeat (first | refine blk_drewN ?_ _ | refine blk_drew ?_ | refine blk_alloc ?_ _)); refine blk_far ?_ NB967_985.out _; (with_reducible repeat (first | refine blk_drewN ?_ _ | refine blk_drew ?_ | refine blk_alloc ?_ _)); refine blk_far ?_ NB967_985.out _; (with_reducible repeat (first | refine blk_drewN ?_ _ | refine blk_drew ?_ | refine blk_alloc ?_ _)); exact BK967.out⟩, ⟨by (with_reducible repeat (first | refine blk_drewN ?_ _ | refine blk_drew ?_ | refine blk_alloc ?_ _)); refine blk_far ?_ NB971_985.out _; (with_reducible repeat (first | refine blk_drewN ?_ _ | refine blk_drew ?_ | refine blk_alloc ?_ _)); refine blk_far ?_ NB971_985.out _; (with_reducible repeat (first | refine blk_drewN ?_ _ | refine blk_drew ?_ | refine blk_alloc ?_ _)); exact BK971.out⟩, ⟨by (with_reducible repeat (first | refine blk_drewN ?_ _ | refine blk_drew ?_ | refine blk_alloc ?_ _)); refine blk_far ?_ NB975_985.out _; (with_reducible repeat (first | refine blk_drewN ?_ _ | refine blk_drew ?_ | refine blk_alloc ?_ _)); refine blk_far ?_ NB975_985.out _; (with_reducible repeat (first | refine blk_drewN ?_ _ | refine blk_drew ?_ | refine blk_alloc ?_ _)); exact BK975.out⟩, ⟨by (with_reducible repeat (first | refine blk_drewN ?_ _ | refine blk_drew ?_ | refine blk_alloc ?_ _)); refine blk_put (cs := #[.int .i64 t982, .int .i64 0]) ?_ 1 _ rfl; (with_reducible repeat (first | refine blk_drewN ?_ _ | refine blk_drew ?_ | refine blk_alloc ?_ _)); refine blk_put (cs := #[.int .i64 0, .int .i64 0]) ?_ 0 _ rfl; (with_reducible repeat (first | refine blk_drewN ?_ _ | refine blk_drew ?_ | refine blk_alloc ?_ _)); exact BK985.out⟩, ⟨hb4_ HB.out GE967.out GE971.out GE975.out GE985.out⟩⟩
      ·replace c37 := Bool.eq_false_iff.mpr c37
       subst c37
       have H1 : (laws_FnApart.j0 k t965 t966 false t960 t961 t962 t968 t969) = some r := by rw [if_neg (show ¬ (false = true) by decide)] at H; exact H
       clear H
       have H := H1
       clear H1
       have H' := Aside0.mk H
       clear H
       go_wp2
       go_meet
       case rel => exact ⟨_, (false), (by first | rfl | (simp; done) | (simp [*]; done)), H', ⟨by first | omega | exact Nat.le_refl _⟩, ⟨by (with_reducible repeat (first | apply Kd.R_alloc | apply Kd.R_drewN | apply Kd.R_drew)); exact Kd.R_mono (Kd.R_far (p := ⟨gb985, 1, none⟩) (Kd.R_far (p := ⟨gb985, 0, none⟩) (Kd.R_types HO964.out BK985.out (by decide)) (fun _ hk => hk.2) (.int .i64 t982)) (fun _ hk => hk.2) (.int .i64 t983)) (fun _ hk => trivial)⟩, ⟨by (with_reducible repeat (first | refine blk_drewN ?_ _ | refine blk_drew ?_ | refine blk_alloc ?_ _)); refine blk_far ?_ NB967_985.out _; (with_reducible repeat (first | refine blk_drewN ?_ _ | refine blk_drew ?_ | refine blk_alloc ?_ _)); refine blk_far ?_ NB967_985.out _; (with_reducible repeat (first | refine blk_drewN ?_ _ | refine blk_drew ?_ | refine blk_alloc ?_ _)); exact BK967.out⟩, ⟨by (with_reducible repeat (first | refine blk_drewN ?_ _ | refine blk_drew ?_ | refine blk_alloc ?_ _)); refine blk_far ?_ NB971_985.out _; (with_reducible repeat (first | refine blk_drewN ?_ _ | refine blk_drew ?_ | refine blk_alloc ?_ _)); refine blk_far ?_ NB971_985.out _; (with_reducible repeat (first | refine blk_drewN ?_ _ | refine blk_drew ?_ | refine blk_alloc ?_ _)); exact BK971.out⟩, ⟨by (with_reducible repeat (first | refine blk_drewN ?_ _ | refine blk_drew ?_ | refine blk_alloc ?_ _)); refine blk_far ?_ NB975_985.out _; (with_reducible repeat (first | refine blk_drewN ?_ _ | refine blk_drew ?_ | refine blk_alloc ?_ _)); refine blk_far ?_ NB975_985.out _; (with_reducible repeat (first | refine blk_drewN ?_ _ | refine blk_drew ?_ | refine blk_alloc ?_ _)); exact BK975.out⟩, ⟨by (with_reducible repeat (first | refine blk_drewN ?_ _ | refine blk_drew ?_ | refine blk_alloc ?_ _)); refine blk_put (cs := #[.int .i64 t982, .int .i64 0]) ?_ 1 _ rfl; (with_reducible repeat (first | refine blk_drewN ?_ _ | refine blk_drew ?_ | refine blk_alloc ?_ _)); refine blk_put (cs := #[.int .i64 0, .int .i64 0]) ?_ 0 _ rfl; (with_reducible repeat (first | refine blk_drewN ?_ _ | refine blk_drew ?_ | refine blk_alloc ?_ _)); exact BK985.out⟩, ⟨hb4_ HB.out GE967.out GE971.out GE975.out GE985.out⟩⟩
     case rest =>
      clear HC13
      try clear c1
      try clear c2
      try clear p2
      try clear c3
      try clear c4
      try clear c5
      try clear c6
      try clear p6
      try clear c7
      try clear c7b0
      try clear c7b1
      try clear c7b2
      try clear c8
      try clear c10
      try clear c10b0
      try clear c10b1
      try clear c10b2
      try clear c12
      try clear c15
      try clear c20
      try clear c25
      try clear c26
      try clear c27
      try clear c33
      try clear c34
      try clear c35
      try clear c37
      try clear c38
      try clear c38b0
      try clear c38b1
      try clear c39
      try clear c39b0
      try clear c39b1
      try clear c40
      try clear c40b0
      try clear c41
      try clear c42
      try clear c43
      try clear c45
      try clear c46
      try clear c48
      try clear c49
      try clear c50
      try clear c52
      try clear c53
      try clear c55
      try clear c55b0
      try clear c56
      try clear c57
      try clear c58
      try clear c60
      try clear c61
      try clear c63
      try clear c64
      try clear p64
      try clear c65
      try clear c67
      try clear c68
      try clear hcz16_0
      try clear hcz16_1
      try clear hcz16_2
      try clear hcz21_0
      try clear hcz21_1
      try clear hcz22_0
      try clear hcz22_1
      try clear hcz22_2
      try clear hcz27_0
      try clear hcz27_1
      try clear hcz30_0
      try clear hcz30_1
      try clear hcz30_2
      try clear hcz36_0
      try clear hcz36_1
      try clear hcz44_0
      try clear hcz44_1
      try clear hcz47_0
      try clear hcz47_1
      try clear hcz51_0
      try clear hcz51_1
      try clear hcz54_0
      try clear hcz54_1
      try clear hcz59_0
      try clear hcz59_1
      try clear hcz62_0
      try clear hcz62_1
      try clear hcz66_0
      try clear hcz66_1
      try clear hcz69_0
      try clear hcz69_1
      try clear hfz16_0
      try clear hfz16_1
      try clear hfz16_2
      try clear hfz21_0
      try clear hfz21_1
      try clear hfz22_0
      try clear hfz22_1
      try clear hfz22_2
      try clear hfz27_0
      try clear hfz27_1
      try clear hfz30_0
      try clear hfz30_1
      try clear hfz30_2
      try clear hfz36_0
      try clear hfz36_1
      try clear hfz44_0
      try clear hfz44_1
      try clear hfz47_0
      try clear hfz47_1
      try clear hfz51_0
      try clear hfz51_1
      try clear hfz54_0
      try clear hfz54_1
      try clear hfz59_0
      try clear hfz59_1
      try clear hfz62_0
      try clear hfz62_1
      try clear hfz66_0
      try clear hfz66_1
      try clear hfz69_0
      try clear hfz69_1
      obtain ⟨kq, x100_12, rfl, HA, HJ12, HO_968002, BK967, BK971, BK975, BK985, HB⟩ := hcut
      cases kq with
      | zero => exact absurd HA.out (by simp [laws_FnApart.j0])
      | succ kj12 =>
       have H := HA.out
       clear HA
       simp only [laws_FnApart.j0] at H
       by_cases c70 : x100_12 = true
       ·subst c70
        have H1 : (some false) = some r := by rw [if_pos rfl] at H; exact H
        clear H
        have H := H1
        clear H1
        obtain rfl := Option.some.inj H
        exact absurd hr_ (by decide)
       ·replace c70 := Bool.eq_false_iff.mpr c70
        subst c70
        have H1 : ((impl_SlotAt.f kj12 t960 t961 t962 t968).bind fun bt986 => ((impl_SlotAt.f kj12 t960 t961 t962 (wrap64 (t969 - 1))).bind fun bt989 => ((impl_SlotAt.f kj12 t960 t961 t962 t969).bind fun bt992 => ((impl_SlotFrom.f kj12 t960 t961 t962 t965).bind fun bt995 => (if bt986.2.2 = true then (if bt989.2.2 = true then (if bt986.1 = t965 then (if bt986.2.1 = t966 then (if bt989.1 = t965 then (if bt989.2.1 = t966 then (if bt992.2.2 = true then (if bt992.1 = t965 then (if bt992.2.1 = t966 then (some false) else (if bt995.2 = true then ((impl_RoundOf.f kj12 t960 t961 t962).bind fun t997 => (some (bt995.1 == (wrap64 ((wrap64 (t968 - t960)) - (wrap64 (t966 * t997))))))) else (some false))) else (if bt995.2 = true then ((impl_RoundOf.f kj12 t960 t961 t962).bind fun t998 => (some (bt995.1 == (wrap64 ((wrap64 (t968 - t960)) - (wrap64 (t966 * t998))))))) else (some false))) else (if bt995.2 = true then ((impl_RoundOf.f kj12 t960 t961 t962).bind fun t999 => (some (bt995.1 == (wrap64 ((wrap64 (t968 - t960)) - (wrap64 (t966 * t999))))))) else (some false))) else (some false)) else (some false)) else (some false)) else (some false)) else (some false)) else (some false)))))) = some r := by rw [if_neg (show ¬ (false = true) by decide)] at H; exact H
        clear H
        have H := H1
        clear H1
        replace H := Option.bind_eq_some_iff.mp H
        obtain ⟨⟨t986, t987, t988⟩, A710, H⟩ := H
        replace H : ((impl_SlotAt.f kj12 t960 t961 t962 (wrap64 (t969 - 1))).bind fun bt989 => ((impl_SlotAt.f kj12 t960 t961 t962 t969).bind fun bt992 => ((impl_SlotFrom.f kj12 t960 t961 t962 t965).bind fun bt995 => (if t988 = true then (if bt989.2.2 = true then (if t986 = t965 then (if t987 = t966 then (if bt989.1 = t965 then (if bt989.2.1 = t966 then (if bt992.2.2 = true then (if bt992.1 = t965 then (if bt992.2.1 = t966 then (some false) else (if bt995.2 = true then ((impl_RoundOf.f kj12 t960 t961 t962).bind fun t997 => (some (bt995.1 == (wrap64 ((wrap64 (t968 - t960)) - (wrap64 (t966 * t997))))))) else (some false))) else (if bt995.2 = true then ((impl_RoundOf.f kj12 t960 t961 t962).bind fun t998 => (some (bt995.1 == (wrap64 ((wrap64 (t968 - t960)) - (wrap64 (t966 * t998))))))) else (some false))) else (if bt995.2 = true then ((impl_RoundOf.f kj12 t960 t961 t962).bind fun t999 => (some (bt995.1 == (wrap64 ((wrap64 (t968 - t960)) - (wrap64 (t966 * t999))))))) else (some false))) else (some false)) else (some false)) else (some false)) else (some false)) else (some false)) else (some false))))) = some r := H
        have A71 := Aside0.mk A710
        clear A710
        replace H := Option.bind_eq_some_iff.mp H
        obtain ⟨⟨t989, t990, t991⟩, A720, H⟩ := H
        replace H : ((impl_SlotAt.f kj12 t960 t961 t962 t969).bind fun bt992 => ((impl_SlotFrom.f kj12 t960 t961 t962 t965).bind fun bt995 => (if t988 = true then (if t991 = true then (if t986 = t965 then (if t987 = t966 then (if t989 = t965 then (if t990 = t966 then (if bt992.2.2 = true then (if bt992.1 = t965 then (if bt992.2.1 = t966 then (some false) else (if bt995.2 = true then ((impl_RoundOf.f kj12 t960 t961 t962).bind fun t997 => (some (bt995.1 == (wrap64 ((wrap64 (t968 - t960)) - (wrap64 (t966 * t997))))))) else (some false))) else (if bt995.2 = true then ((impl_RoundOf.f kj12 t960 t961 t962).bind fun t998 => (some (bt995.1 == (wrap64 ((wrap64 (t968 - t960)) - (wrap64 (t966 * t998))))))) else (some false))) else (if bt995.2 = true then ((impl_RoundOf.f kj12 t960 t961 t962).bind fun t999 => (some (bt995.1 == (wrap64 ((wrap64 (t968 - t960)) - (wrap64 (t966 * t999))))))) else (some false))) else (some false)) else (some false)) else (some false)) else (some false)) else (some false)) else (some false)))) = some r := H
        have A72 := Aside0.mk A720
        clear A720
        replace H := Option.bind_eq_some_iff.mp H
        obtain ⟨⟨t992, t993, t994⟩, A730, H⟩ := H
        replace H : ((impl_SlotFrom.f kj12 t960 t961 t962 t965).bind fun bt995 => (if t988 = true then (if t991 = true then (if t986 = t965 then (if t987 = t966 then (if t989 = t965 then (if t990 = t966 then (if t994 = true then (if t992 = t965 then (if t993 = t966 then (some false) else (if bt995.2 = true then ((impl_RoundOf.f kj12 t960 t961 t962).bind fun t997 => (some (bt995.1 == (wrap64 ((wrap64 (t968 - t960)) - (wrap64 (t966 * t997))))))) else (some false))) else (if bt995.2 = true then ((impl_RoundOf.f kj12 t960 t961 t962).bind fun t998 => (some (bt995.1 == (wrap64 ((wrap64 (t968 - t960)) - (wrap64 (t966 * t998))))))) else (some false))) else (if bt995.2 = true then ((impl_RoundOf.f kj12 t960 t961 t962).bind fun t999 => (some (bt995.1 == (wrap64 ((wrap64 (t968 - t960)) - (wrap64 (t966 * t999))))))) else (some false))) else (some false)) else (some false)) else (some false)) else (some false)) else (some false)) else (some false))) = some r := H
        have A73 := Aside0.mk A730
        clear A730
        replace H := Option.bind_eq_some_iff.mp H
        obtain ⟨⟨t995, t996⟩, A740, H⟩ := H
        replace H : (if t988 = true then (if t991 = true then (if t986 = t965 then (if t987 = t966 then (if t989 = t965 then (if t990 = t966 then (if t994 = true then (if t992 = t965 then (if t993 = t966 then (some false) else (if t996 = true then ((impl_RoundOf.f kj12 t960 t961 t962).bind fun t997 => (some (t995 == (wrap64 ((wrap64 (t968 - t960)) - (wrap64 (t966 * t997))))))) else (some false))) else (if t996 = true then ((impl_RoundOf.f kj12 t960 t961 t962).bind fun t998 => (some (t995 == (wrap64 ((wrap64 (t968 - t960)) - (wrap64 (t966 * t998))))))) else (some false))) else (if t996 = true then ((impl_RoundOf.f kj12 t960 t961 t962).bind fun t999 => (some (t995 == (wrap64 ((wrap64 (t968 - t960)) - (wrap64 (t966 * t999))))))) else (some false))) else (some false)) else (some false)) else (some false)) else (some false)) else (some false)) else (some false)) = some r := H
        have A74 := Aside0.mk A740
        clear A740
        by_cases c75 : t988 = true
        ·subst c75
         have H1 : (if t991 = true then (if t986 = t965 then (if t987 = t966 then (if t989 = t965 then (if t990 = t966 then (if t994 = true then (if t992 = t965 then (if t993 = t966 then (some false) else (if t996 = true then ((impl_RoundOf.f kj12 t960 t961 t962).bind fun t997 => (some (t995 == (wrap64 ((wrap64 (t968 - t960)) - (wrap64 (t966 * t997))))))) else (some false))) else (if t996 = true then ((impl_RoundOf.f kj12 t960 t961 t962).bind fun t998 => (some (t995 == (wrap64 ((wrap64 (t968 - t960)) - (wrap64 (t966 * t998))))))) else (some false))) else (if t996 = true then ((impl_RoundOf.f kj12 t960 t961 t962).bind fun t999 => (some (t995 == (wrap64 ((wrap64 (t968 - t960)) - (wrap64 (t966 * t999))))))) else (some false))) else (some false)) else (some false)) else (some false)) else (some false)) else (some false)) = some r := by rw [if_pos rfl] at H; exact H
         clear H
         have H := H1
         clear H1
         by_cases c76 : t991 = true
         ·subst c76
          have H1 : (if t986 = t965 then (if t987 = t966 then (if t989 = t965 then (if t990 = t966 then (if t994 = true then (if t992 = t965 then (if t993 = t966 then (some false) else (if t996 = true then ((impl_RoundOf.f kj12 t960 t961 t962).bind fun t997 => (some (t995 == (wrap64 ((wrap64 (t968 - t960)) - (wrap64 (t966 * t997))))))) else (some false))) else (if t996 = true then ((impl_RoundOf.f kj12 t960 t961 t962).bind fun t998 => (some (t995 == (wrap64 ((wrap64 (t968 - t960)) - (wrap64 (t966 * t998))))))) else (some false))) else (if t996 = true then ((impl_RoundOf.f kj12 t960 t961 t962).bind fun t999 => (some (t995 == (wrap64 ((wrap64 (t968 - t960)) - (wrap64 (t966 * t999))))))) else (some false))) else (some false)) else (some false)) else (some false)) else (some false)) = some r := by rw [if_pos rfl] at H; exact H
          clear H
          have H := H1
          clear H1
          by_cases c77 : t986 = t965
          ·rw [if_pos c77] at H
           have c77b0 : (t986 == t965) = true := beq_iff_eq.mpr c77
           have c77b1 : (t986 != t965) = false := bne_eq_false_iff_eq.mpr c77
           clear c77
           by_cases c78 : t987 = t966
           ·rw [if_pos c78] at H
            have c78b0 : (t987 == t966) = true := beq_iff_eq.mpr c78
            have c78b1 : (t987 != t966) = false := bne_eq_false_iff_eq.mpr c78
            clear c78
            by_cases c79 : t989 = t965
            ·rw [if_pos c79] at H
             have c79b0 : (t989 == t965) = true := beq_iff_eq.mpr c79
             have c79b1 : (t989 != t965) = false := bne_eq_false_iff_eq.mpr c79
             clear c79
             by_cases c80 : t990 = t966
             ·rw [if_pos c80] at H
              have c80b0 : (t990 == t966) = true := beq_iff_eq.mpr c80
              have c80b1 : (t990 != t966) = false := bne_eq_false_iff_eq.mpr c80
              clear c80
              by_cases c81 : t994 = true
              ·subst c81
               have H1 : (if t992 = t965 then (if t993 = t966 then (some false) else (if t996 = true then ((impl_RoundOf.f kj12 t960 t961 t962).bind fun t997 => (some (t995 == (wrap64 ((wrap64 (t968 - t960)) - (wrap64 (t966 * t997))))))) else (some false))) else (if t996 = true then ((impl_RoundOf.f kj12 t960 t961 t962).bind fun t998 => (some (t995 == (wrap64 ((wrap64 (t968 - t960)) - (wrap64 (t966 * t998))))))) else (some false))) = some r := by rw [if_pos rfl] at H; exact H
               clear H
               have H := H1
               clear H1
               by_cases c82 : t992 = t965
               ·rw [if_pos c82] at H
                have c82b0 : (t992 == t965) = true := beq_iff_eq.mpr c82
                have c82b1 : (t992 != t965) = false := bne_eq_false_iff_eq.mpr c82
                clear c82
                by_cases c83 : t993 = t966
                ·rw [if_pos c83] at H
                 have c83b0 : (t993 == t966) = true := beq_iff_eq.mpr c83
                 have c83b1 : (t993 != t966) = false := bne_eq_false_iff_eq.mpr c83
                 clear c83
                 obtain rfl := Option.some.inj H
                 exact absurd hr_ (by decide)
                ·rw [if_neg c83] at H
                 have c83b0 : (t993 == t966) = false := beq_eq_false_iff_ne.mpr c83
                 have c83b1 : (t993 != t966) = true := bne_iff_ne.mpr c83
                 by_cases c84 : t996 = true
                 ·subst c84
                  have H1 : ((impl_RoundOf.f kj12 t960 t961 t962).bind fun t997 => (some (t995 == (wrap64 ((wrap64 (t968 - t960)) - (wrap64 (t966 * t997))))))) = some r := by rw [if_pos rfl] at H; exact H
                  clear H
                  have H := H1
                  clear H1
                  replace H := Option.bind_eq_some_iff.mp H
                  obtain ⟨t997, A850, H⟩ := H
                  replace H : (some (t995 == (wrap64 ((wrap64 (t968 - t960)) - (wrap64 (t966 * t997)))))) = some r := H
                  have A85 := Aside0.mk A850
                  clear A850
                  obtain rfl := Option.some.inj H
                  have hnb86 := NB967_971.out
                  have hnc86 := NB971_967.out
                  have hnb87 := NB967_975.out
                  have hnc87 := NB975_967.out
                  have hnb88 := NB967_985.out
                  have hnc88 := NB985_967.out
                  have hcz89_0 := bc_ BK967.out 0 (.int .i64 t960) rfl
                  have hcz89_1 := bc_ BK967.out 1 (.int .i64 t961) rfl
                  have hcz89_2 := bc_ BK967.out 2 (.slice Ao17 t962.length co17) rfl
                  have hfz89_0 := blk_frozen BK967.out 0
                  have hfz89_1 := blk_frozen BK967.out 1
                  have hfz89_2 := blk_frozen BK967.out 2
                  have hnb90 := NB971_975.out
                  have hnc90 := NB975_971.out
                  have hnb91 := NB971_985.out
                  have hnc91 := NB985_971.out
                  have hcz92_0 := bc_ BK971.out 0 (.int .i64 t968) rfl
                  have hcz92_1 := bc_ BK971.out 1 (.int .i64 t969) rfl
                  have hfz92_0 := blk_frozen BK971.out 0
                  have hfz92_1 := blk_frozen BK971.out 1
                  try go_wp2_with (first | ((with_reducible refine gate_callee (f := 29) rfl ?_); refine gl_ Try.func29 #[.agg #[.int .i64 t960, .int .i64 t961, .slice Ao17 t962.length co17], .int .i64 t968] ?_; (with_reducible refine (impl_SlotAt.calls kj12 t960 t961 _ _ t962 t968 t986 t987 true _ ?side1 ?side2 A71.out).mono ?_); (case side1 => repeat (first | exact (Kd.R_reads' HO_968002.out).2.2 | (with_reducible refine Kd.C_alloc ?_ _) | (with_reducible refine Kd.C_drewN ?_ _) | (with_reducible refine Kd.C_drew ?_))); (case side2 => exact (Kd.R_reads' HO_968002.out).2.1); rintro e w93 ⟨rfl, hb⟩; refine ⟨_, rfl, ?_⟩; replace HO_968002 := am_ (Kd.R_below (by (with_reducible repeat (first | apply Kd.R_alloc | apply Kd.R_drewN | apply Kd.R_drew)); exact HO_968002.out) hb); replace BK967 := am_ (bb_ BK967.out hb); replace BK971 := am_ (bb_ BK971.out hb); replace BK975 := am_ (bb_ BK975.out hb); replace BK985 := am_ (bb_ BK985.out hb); replace HB := am_ (below_step (hb4_ HB.out GE967.out GE971.out GE975.out GE985.out) hb); (try clear hb); (try clear hb2); (try clear hk); (try clear hi); obtain ⟨hcz94_0, hcz94_1, hcz94_2, hfz94_0, hfz94_1, hfz94_2⟩ := bc3_ BK967.out; obtain ⟨hcz95_0, hcz95_1, hfz95_0, hfz95_1⟩ := bc2_ BK971.out) | ((with_reducible refine gate_callee (f := 29) rfl ?_); refine gl_ Try.func29 #[.agg #[.int .i64 t960, .int .i64 t961, .slice Ao17 t962.length co17], .int .i64 (wrap64 (t969 - 1))] ?_; (with_reducible refine (impl_SlotAt.calls kj12 t960 t961 _ _ t962 (wrap64 (t969 - 1)) t989 t990 true _ ?side1 ?side2 A72.out).mono ?_); (case side1 => repeat (first | exact (Kd.R_reads' HO_968002.out).2.2 | (with_reducible refine Kd.C_alloc ?_ _) | (with_reducible refine Kd.C_drewN ?_ _) | (with_reducible refine Kd.C_drew ?_))); (case side2 => exact (Kd.R_reads' HO_968002.out).2.1); rintro e w96 ⟨rfl, hb⟩; refine ⟨_, rfl, ?_⟩; replace HO_968002 := am_ (Kd.R_below (by (with_reducible repeat (first | apply Kd.R_alloc | apply Kd.R_drewN | apply Kd.R_drew)); exact HO_968002.out) hb); replace BK967 := am_ (bb_ BK967.out hb); replace BK971 := am_ (bb_ BK971.out hb); replace BK975 := am_ (bb_ BK975.out hb); replace BK985 := am_ (bb_ BK985.out hb); replace HB := am_ (below_step (hb4_ HB.out GE967.out GE971.out GE975.out GE985.out) hb); (try clear hb); (try clear hb2); (try clear hk); (try clear hi); obtain ⟨hcz97_0, hcz97_1, hcz97_2, hfz97_0, hfz97_1, hfz97_2⟩ := bc3_ BK967.out; obtain ⟨hcz98_0, hcz98_1, hfz98_0, hfz98_1⟩ := bc2_ BK971.out) | ((with_reducible refine gate_callee (f := 29) rfl ?_); refine gl_ Try.func29 #[.agg #[.int .i64 t960, .int .i64 t961, .slice Ao17 t962.length co17], .int .i64 t969] ?_; (with_reducible refine (impl_SlotAt.calls kj12 t960 t961 _ _ t962 t969 t992 t993 true _ ?side1 ?side2 A73.out).mono ?_); (case side1 => repeat (first | exact (Kd.R_reads' HO_968002.out).2.2 | (with_reducible refine Kd.C_alloc ?_ _) | (with_reducible refine Kd.C_drewN ?_ _) | (with_reducible refine Kd.C_drew ?_))); (case side2 => exact (Kd.R_reads' HO_968002.out).2.1); rintro e w99 ⟨rfl, hb⟩; refine ⟨_, rfl, ?_⟩; replace HO_968002 := am_ (Kd.R_below (by (with_reducible repeat (first | apply Kd.R_alloc | apply Kd.R_drewN | apply Kd.R_drew)); exact HO_968002.out) hb); replace BK967 := am_ (bb_ BK967.out hb); replace BK971 := am_ (bb_ BK971.out hb); replace BK975 := am_ (bb_ BK975.out hb); replace BK985 := am_ (bb_ BK985.out hb); replace HB := am_ (below_step (hb4_ HB.out GE967.out GE971.out GE975.out GE985.out) hb); (try clear hb); (try clear hb2); (try clear hk); (try clear hi); obtain ⟨hcz100_0, hcz100_1, hcz100_2, hfz100_0, hfz100_1, hfz100_2⟩ := bc3_ BK967.out) | ((with_reducible refine gate_callee (f := 30) rfl ?_); refine gl_ Try.func30 #[.agg #[.int .i64 t960, .int .i64 t961, .slice Ao17 t962.length co17], .int .i64 t965] ?_; (with_reducible refine (impl_SlotFrom.calls kj12 t960 t961 _ _ t962 t965 t995 true _ ?side1 ?side2 A74.out).mono ?_); (case side1 => repeat (first | exact (Kd.R_reads' HO_968002.out).2.2 | (with_reducible refine Kd.C_alloc ?_ _) | (with_reducible refine Kd.C_drewN ?_ _) | (with_reducible refine Kd.C_drew ?_))); (case side2 => exact (Kd.R_reads' HO_968002.out).2.1); rintro e w101 ⟨rfl, hb⟩; refine ⟨_, rfl, ?_⟩; replace HO_968002 := am_ (Kd.R_below (by (with_reducible repeat (first | apply Kd.R_alloc | apply Kd.R_drewN | apply Kd.R_drew)); exact HO_968002.out) hb); replace BK967 := am_ (bb_ BK967.out hb); replace BK971 := am_ (bb_ BK971.out hb); replace BK975 := am_ (bb_ BK975.out hb); replace BK985 := am_ (bb_ BK985.out hb); replace HB := am_ (below_step (hb4_ HB.out GE967.out GE971.out GE975.out GE985.out) hb); (try clear hb); (try clear hb2); (try clear hk); (try clear hi)))
                  have n0_ := am_ (Kd.R_drew HO_968002.out)
                  have n1_ := am_ (blk_drew BK967.out)
                  have n2_ := am_ (blk_drew BK971.out)
                  have n3_ := am_ (blk_drew BK975.out)
                  have n4_ := am_ (blk_drew BK985.out)
                  have n5_ := am_ (below_drew1 HB.out)
                  clear HO_968002
                  clear BK967
                  clear BK971
                  clear BK975
                  clear BK985
                  clear HB
                  have HO_968002 := n0_
                  have BK967 := n1_
                  have BK971 := n2_
                  have BK975 := n3_
                  have BK985 := n4_
                  have HB := n5_
                  clear n0_ n1_ n2_ n3_ n4_ n5_
                  refine start_ (n := 56) (S := fun w' => w'.cell? ⟨gb971, 0, none⟩ = some (.int .i64 t968) ∧ w'.cell? ⟨gb971, 1, none⟩ = some (.int .i64 t969) ∧ w'.cell? ⟨gb967, 0, none⟩ = some (.int .i64 t960) ∧ w'.cell? ⟨gb967, 1, none⟩ = some (.int .i64 t961) ∧ w'.cell? ⟨gb967, 2, none⟩ = some (.slice Ao17 t962.length co17)) (ds := []) #[false, false, false, false, false, false, false, false, false, false, false, false, false, false, false, false, false, false, false, false, false, false, false, false, false, false, false, false, false, false, false, false, false, false, false, false, false, false, false, false, false, false, false, false, false, false, false, false, false, false, false, false, false, false, false, false] (by kernel_rfl) rfl rfl ⟨(blk_cell BK971.out 0).trans rfl, (blk_cell BK971.out 1).trans rfl, (blk_cell BK967.out 0).trans rfl, (blk_cell BK967.out 1).trans rfl, (blk_cell BK967.out 2).trans rfl⟩ (fun hHeld => ?_); refine with_tabW laws_FnApart.tab19 laws_FnApart.bits19 (fun HT_ HW_ => ?_)
                  generalize w101.drew = w102 at HO_968002 BK967 BK971 BK975 BK985 HB hHeld ⊢
                  refine pure_ (i := 0) (N := some 132) (v := ?_) (a' := ?_) #[true, false, false, false, false, false, false, false, false, false, false, false, false, false, false, false, false, false, false, false, false, false, false, false, false, false, false, false, false, false, false, false, false, false, false, false, false, false, false, false, false, false, false, false, false, false, false, false, false, false, false, false, false, false, false, false] rfl rfl (any_of HT_.out (by kernel_rfl)) (fun _ _ _ h => h) (Or.inl ⟨by rfl, ?_⟩) ?_ ?_
                  rotate_left
                  ·intro w'
                   go_simp
                   with_reducible rfl
                  rotate_left
                  ·simp only [Act.put, List.setIfInBounds_toArray, List.set_cons_zero, List.set_cons_succ, i64_w, i32_w]
                   rfl
                  refine pure_ (i := 1) (N := some 133) (v := ?_) (a' := ?_) #[true, true, false, false, false, false, false, false, false, false, false, false, false, false, false, false, false, false, false, false, false, false, false, false, false, false, false, false, false, false, false, false, false, false, false, false, false, false, false, false, false, false, false, false, false, false, false, false, false, false, false, false, false, false, false, false] rfl rfl (any_of HT_.out (by kernel_rfl)) (fun _ _ _ h => h) (Or.inl ⟨by rfl, ?_⟩) ?_ ?_
                  rotate_left
                  ·intro w'
                   go_simp
                   with_reducible rfl
                  rotate_left
                  ·simp only [Act.put, List.setIfInBounds_toArray, List.set_cons_zero, List.set_cons_succ, i64_w, i32_w]
                   rfl
                  refine pure_ (i := 2) (N := some 134) (v := ?_) (a' := ?_) #[true, true, true, false, false, false, false, false, false, false, false, false, false, false, false, false, false, false, false, false, false, false, false, false, false, false, false, false, false, false, false, false, false, false, false, false, false, false, false, false, false, false, false, false, false, false, false, false, false, false, false, false, false, false, false, false] rfl rfl (any_of HT_.out (by kernel_rfl)) (fun _ _ _ h => h) (Or.inl ⟨by rfl, ?_⟩) ?_ ?_
                  rotate_left
                  ·intro w'
                   go_simp
                   with_reducible rfl
                  rotate_left
                  ·simp only [Act.put, List.setIfInBounds_toArray, List.set_cons_zero, List.set_cons_succ, i64_w, i32_w]
                   rfl
                  refine pure_ (i := 3) (N := some 135) (v := ?_) (a' := ?_) #[true, true, true, true, false, false, false, false, false, false, false, false, false, false, false, false, false, false, false, false, false, false, false, false, false, false, false, false, false, false, false, false, false, false, false, false, false, false, false, false, false, false, false, false, false, false, false, false, false, false, false, false, false, false, false, false] rfl rfl (any_of HT_.out (by kernel_rfl)) (fun _ _ _ h => h) (Or.inl ⟨by rfl, ?_⟩) ?_ ?_
                  rotate_left
                  ·intro w'
                   go_simp
                   with_reducible rfl
                  rotate_left
                  ·simp only [Act.put, List.setIfInBounds_toArray, List.set_cons_zero, List.set_cons_succ, i64_w, i32_w]
                   rfl
                  refine pure_ (i := 4) (N := some 136) (v := ?_) (a' := ?_) #[true, true, true, true, true, false, false, false, false, false, false, false, false, false, false, false, false, false, false, false, false, false, false, false, false, false, false, false, false, false, false, false, false, false, false, false, false, false, false, false, false, false, false, false, false, false, false, false, false, false, false, false, false, false, false, false] rfl rfl (any_of HT_.out (by kernel_rfl)) (fun _ _ _ h => h) (Or.inl ⟨by rfl, ?_⟩) ?_ ?_
                  rotate_left
                  ·intro w'
                   go_simp
                   with_reducible rfl
                  rotate_left
                  ·simp only [Act.put, List.setIfInBounds_toArray, List.set_cons_zero, List.set_cons_succ, i64_w, i32_w]
                   rfl
                  refine pure_ (i := 5) (N := some 137) (v := ?_) (a' := ?_) #[true, true, true, true, true, true, false, false, false, false, false, false, false, false, false, false, false, false, false, false, false, false, false, false, false, false, false, false, false, false, false, false, false, false, false, false, false, false, false, false, false, false, false, false, false, false, false, false, false, false, false, false, false, false, false, false] rfl rfl (any_of HT_.out (by kernel_rfl)) (fun _ _ _ h => h) (Or.inl ⟨by rfl, ?_⟩) ?_ ?_
                  rotate_left
                  ·intro w'
                   go_simp
                   with_reducible rfl
                  rotate_left
                  ·simp only [Act.put, List.setIfInBounds_toArray, List.set_cons_zero, List.set_cons_succ, i64_w, i32_w]
                   rfl
                  refine pure_ (i := 6) (N := some 138) (v := ?_) (a' := ?_) #[true, true, true, true, true, true, true, false, false, false, false, false, false, false, false, false, false, false, false, false, false, false, false, false, false, false, false, false, false, false, false, false, false, false, false, false, false, false, false, false, false, false, false, false, false, false, false, false, false, false, false, false, false, false, false, false] rfl rfl (any_of HT_.out (by kernel_rfl)) (fun _ _ _ h => h) (Or.inl ⟨by rfl, ?_⟩) ?_ ?_
                  rotate_left
                  ·intro w'
                   go_simp
                   with_reducible rfl
                  rotate_left
                  ·simp only [Act.put, List.setIfInBounds_toArray, List.set_cons_zero, List.set_cons_succ, i64_w, i32_w]
                   rfl
                  refine pure_ (i := 7) (N := some 139) (v := ?_) (a' := ?_) #[true, true, true, true, true, true, true, true, false, false, false, false, false, false, false, false, false, false, false, false, false, false, false, false, false, false, false, false, false, false, false, false, false, false, false, false, false, false, false, false, false, false, false, false, false, false, false, false, false, false, false, false, false, false, false, false] rfl rfl (any_of HT_.out (by kernel_rfl)) (fun _ _ _ h => h) (Or.inl ⟨by rfl, ?_⟩) ?_ ?_
                  rotate_left
                  ·intro w'
                   go_simp
                   with_reducible rfl
                  rotate_left
                  ·simp only [Act.put, List.setIfInBounds_toArray, List.set_cons_zero, List.set_cons_succ, i64_w, i32_w]
                   rfl
                  refine pure_ (i := 8) (N := some 140) (v := ?_) (a' := ?_) #[true, true, true, true, true, true, true, true, true, false, false, false, false, false, false, false, false, false, false, false, false, false, false, false, false, false, false, false, false, false, false, false, false, false, false, false, false, false, false, false, false, false, false, false, false, false, false, false, false, false, false, false, false, false, false, false] rfl rfl (any_of HT_.out (by kernel_rfl)) (fun _ _ _ h => h) (Or.inl ⟨by rfl, ?_⟩) ?_ ?_
                  rotate_left
                  ·intro w'
                   go_simp
                   with_reducible rfl
                  rotate_left
                  ·simp only [Act.put, List.setIfInBounds_toArray, List.set_cons_zero, List.set_cons_succ, i64_w, i32_w]
                   rfl
                  refine pure_ (i := 9) (N := some 141) (v := ?_) (a' := ?_) #[true, true, true, true, true, true, true, true, true, true, false, false, false, false, false, false, false, false, false, false, false, false, false, false, false, false, false, false, false, false, false, false, false, false, false, false, false, false, false, false, false, false, false, false, false, false, false, false, false, false, false, false, false, false, false, false] rfl rfl (any_of HT_.out (by kernel_rfl)) (fun _ _ _ h => h) (Or.inl ⟨by rfl, ?_⟩) ?_ ?_
                  rotate_left
                  ·intro w'
                   go_simp
                   with_reducible rfl
                  rotate_left
                  ·simp only [Act.put, List.setIfInBounds_toArray, List.set_cons_zero, List.set_cons_succ, i64_w, i32_w]
                   rfl
                  refine pure_ (i := 10) (N := some 142) (v := ?_) (a' := ?_) #[true, true, true, true, true, true, true, true, true, true, true, false, false, false, false, false, false, false, false, false, false, false, false, false, false, false, false, false, false, false, false, false, false, false, false, false, false, false, false, false, false, false, false, false, false, false, false, false, false, false, false, false, false, false, false, false] rfl rfl (any_of HT_.out (by kernel_rfl)) (fun _ _ _ h => h) (Or.inl ⟨by rfl, ?_⟩) ?_ ?_
                  rotate_left
                  ·intro w'
                   go_simp
                   with_reducible rfl
                  rotate_left
                  ·simp only [Act.put, List.setIfInBounds_toArray, List.set_cons_zero, List.set_cons_succ, i64_w, i32_w]
                   rfl
                  refine pure_ (i := 11) (N := some 143) (v := ?_) (a' := ?_) #[true, true, true, true, true, true, true, true, true, true, true, true, false, false, false, false, false, false, false, false, false, false, false, false, false, false, false, false, false, false, false, false, false, false, false, false, false, false, false, false, false, false, false, false, false, false, false, false, false, false, false, false, false, false, false, false] rfl rfl (any_of HT_.out (by kernel_rfl)) (fun _ _ _ h => h) (Or.inl ⟨by rfl, ?_⟩) ?_ ?_
                  rotate_left
                  ·intro w'
                   go_simp
                   with_reducible rfl
                  rotate_left
                  ·simp only [Act.put, List.setIfInBounds_toArray, List.set_cons_zero, List.set_cons_succ, i64_w, i32_w]
                   rfl
                  refine pure_ (i := 12) (N := some 144) (v := ?_) (a' := ?_) #[true, true, true, true, true, true, true, true, true, true, true, true, true, false, false, false, false, false, false, false, false, false, false, false, false, false, false, false, false, false, false, false, false, false, false, false, false, false, false, false, false, false, false, false, false, false, false, false, false, false, false, false, false, false, false, false] rfl rfl (any_of HT_.out (by kernel_rfl)) (fun _ _ _ h => h) (Or.inl ⟨by rfl, ?_⟩) ?_ ?_
                  rotate_left
                  ·intro w'
                   go_simp
                   with_reducible rfl
                  rotate_left
                  ·simp only [Act.put, List.setIfInBounds_toArray, List.set_cons_zero, List.set_cons_succ, i64_w, i32_w]
                   rfl
                  refine pure_ (i := 13) (N := some 145) (v := ?_) (a' := ?_) #[true, true, true, true, true, true, true, true, true, true, true, true, true, true, false, false, false, false, false, false, false, false, false, false, false, false, false, false, false, false, false, false, false, false, false, false, false, false, false, false, false, false, false, false, false, false, false, false, false, false, false, false, false, false, false, false] rfl rfl (any_of HT_.out (by kernel_rfl)) (fun _ _ _ h => h) (Or.inl ⟨by rfl, ?_⟩) ?_ ?_
                  rotate_left
                  ·intro w'
                   go_simp
                   with_reducible rfl
                  rotate_left
                  ·simp only [Act.put, List.setIfInBounds_toArray, List.set_cons_zero, List.set_cons_succ, i64_w, i32_w]
                   rfl
                  refine pure_ (i := 14) (N := some 146) (v := ?_) (a' := ?_) #[true, true, true, true, true, true, true, true, true, true, true, true, true, true, true, false, false, false, false, false, false, false, false, false, false, false, false, false, false, false, false, false, false, false, false, false, false, false, false, false, false, false, false, false, false, false, false, false, false, false, false, false, false, false, false, false] rfl rfl (any_of HT_.out (by kernel_rfl)) (fun _ _ _ h => h) (Or.inl ⟨by rfl, ?_⟩) ?_ ?_
                  rotate_left
                  ·intro w'
                   go_simp
                   with_reducible rfl
                  rotate_left
                  ·simp only [Act.put, List.setIfInBounds_toArray, List.set_cons_zero, List.set_cons_succ, i64_w, i32_w]
                   rfl
                  refine pure_ (i := 15) (N := some 147) (v := ?_) (a' := ?_) #[true, true, true, true, true, true, true, true, true, true, true, true, true, true, true, true, false, false, false, false, false, false, false, false, false, false, false, false, false, false, false, false, false, false, false, false, false, false, false, false, false, false, false, false, false, false, false, false, false, false, false, false, false, false, false, false] rfl rfl (any_of HT_.out (by kernel_rfl)) (fun _ _ _ h => h) (Or.inl ⟨by rfl, ?_⟩) ?_ ?_
                  rotate_left
                  ·intro w'
                   go_simp
                   with_reducible rfl
                  rotate_left
                  ·simp only [Act.put, List.setIfInBounds_toArray, List.set_cons_zero, List.set_cons_succ, i64_w, i32_w]
                   rfl
                  refine pure_ (i := 16) (N := some 148) (v := ?_) (a' := ?_) #[true, true, true, true, true, true, true, true, true, true, true, true, true, true, true, true, true, false, false, false, false, false, false, false, false, false, false, false, false, false, false, false, false, false, false, false, false, false, false, false, false, false, false, false, false, false, false, false, false, false, false, false, false, false, false, false] rfl rfl (any_of HT_.out (by kernel_rfl)) (fun _ _ _ h => h) (Or.inl ⟨by rfl, ?_⟩) ?_ ?_
                  rotate_left
                  ·intro w'
                   go_simp
                   with_reducible rfl
                  rotate_left
                  ·simp only [Act.put, List.setIfInBounds_toArray, List.set_cons_zero, List.set_cons_succ, i64_w, i32_w]
                   rfl
                  refine pure_ (i := 17) (N := some 149) (v := ?_) (a' := ?_) #[true, true, true, true, true, true, true, true, true, true, true, true, true, true, true, true, true, true, false, false, false, false, false, false, false, false, false, false, false, false, false, false, false, false, false, false, false, false, false, false, false, false, false, false, false, false, false, false, false, false, false, false, false, false, false, false] rfl rfl (any_of HT_.out (by kernel_rfl)) (fun _ _ _ h => h) (Or.inl ⟨by rfl, ?_⟩) ?_ ?_
                  rotate_left
                  ·intro w'
                   go_simp
                   with_reducible rfl
                  rotate_left
                  ·simp only [Act.put, List.setIfInBounds_toArray, List.set_cons_zero, List.set_cons_succ, i64_w, i32_w]
                   rfl
                  refine pure_ (i := 18) (N := some 150) (v := ?_) (a' := ?_) #[true, true, true, true, true, true, true, true, true, true, true, true, true, true, true, true, true, true, true, false, false, false, false, false, false, false, false, false, false, false, false, false, false, false, false, false, false, false, false, false, false, false, false, false, false, false, false, false, false, false, false, false, false, false, false, false] rfl rfl (any_of HT_.out (by kernel_rfl)) (fun _ _ _ h => h) (Or.inl ⟨by rfl, ?_⟩) ?_ ?_
                  rotate_left
                  ·intro w'
                   go_simp
                   with_reducible rfl
                  rotate_left
                  ·simp only [Act.put, List.setIfInBounds_toArray, List.set_cons_zero, List.set_cons_succ, i64_w, i32_w]
                   rfl
                  refine pure_ (i := 19) (N := some 151) (v := ?_) (a' := ?_) #[true, true, true, true, true, true, true, true, true, true, true, true, true, true, true, true, true, true, true, true, false, false, false, false, false, false, false, false, false, false, false, false, false, false, false, false, false, false, false, false, false, false, false, false, false, false, false, false, false, false, false, false, false, false, false, false] rfl rfl (any_of HT_.out (by kernel_rfl)) (fun _ _ _ h => h) (Or.inl ⟨by rfl, ?_⟩) ?_ ?_
                  rotate_left
                  ·intro w'
                   go_simp
                   with_reducible rfl
                  rotate_left
                  ·simp only [Act.put, List.setIfInBounds_toArray, List.set_cons_zero, List.set_cons_succ, i64_w, i32_w]
                   rfl
                  refine pure_ (i := 20) (N := some 152) (v := ?_) (a' := ?_) #[true, true, true, true, true, true, true, true, true, true, true, true, true, true, true, true, true, true, true, true, true, false, false, false, false, false, false, false, false, false, false, false, false, false, false, false, false, false, false, false, false, false, false, false, false, false, false, false, false, false, false, false, false, false, false, false] rfl rfl (any_of HT_.out (by kernel_rfl)) (fun _ _ _ h => h) (Or.inl ⟨by rfl, ?_⟩) ?_ ?_
                  rotate_left
                  ·intro w'
                   go_simp
                   with_reducible rfl
                  rotate_left
                  ·simp only [Act.put, List.setIfInBounds_toArray, List.set_cons_zero, List.set_cons_succ, i64_w, i32_w]
                   rfl
                  refine pure_ (i := 21) (N := some 153) (v := ?_) (a' := ?_) #[true, true, true, true, true, true, true, true, true, true, true, true, true, true, true, true, true, true, true, true, true, true, false, false, false, false, false, false, false, false, false, false, false, false, false, false, false, false, false, false, false, false, false, false, false, false, false, false, false, false, false, false, false, false, false, false] rfl rfl (any_of HT_.out (by kernel_rfl)) (fun _ _ _ h => h) (Or.inl ⟨by rfl, ?_⟩) ?_ ?_
                  rotate_left
                  ·intro w'
                   go_simp
                   with_reducible rfl
                  rotate_left
                  ·simp only [Act.put, List.setIfInBounds_toArray, List.set_cons_zero, List.set_cons_succ, i64_w, i32_w]
                   rfl
                  refine pure_ (i := 22) (N := some 154) (v := ?_) (a' := ?_) #[true, true, true, true, true, true, true, true, true, true, true, true, true, true, true, true, true, true, true, true, true, true, true, false, false, false, false, false, false, false, false, false, false, false, false, false, false, false, false, false, false, false, false, false, false, false, false, false, false, false, false, false, false, false, false, false] rfl rfl (any_of HT_.out (by kernel_rfl)) (fun _ _ _ h => h) (Or.inl ⟨by rfl, ?_⟩) ?_ ?_
                  rotate_left
                  ·intro w'
                   go_simp
                   with_reducible rfl
                  rotate_left
                  ·simp only [Act.put, List.setIfInBounds_toArray, List.set_cons_zero, List.set_cons_succ, i64_w, i32_w]
                   rfl
                  refine pure_ (i := 23) (N := some 155) (v := ?_) (a' := ?_) #[true, true, true, true, true, true, true, true, true, true, true, true, true, true, true, true, true, true, true, true, true, true, true, true, false, false, false, false, false, false, false, false, false, false, false, false, false, false, false, false, false, false, false, false, false, false, false, false, false, false, false, false, false, false, false, false] rfl rfl (any_of HT_.out (by kernel_rfl)) (fun _ _ _ h => h) (Or.inl ⟨by rfl, ?_⟩) ?_ ?_
                  rotate_left
                  ·intro w'
                   go_simp
                   with_reducible rfl
                  rotate_left
                  ·simp only [Act.put, List.setIfInBounds_toArray, List.set_cons_zero, List.set_cons_succ, i64_w, i32_w]
                   rfl
                  refine pure_ (i := 24) (N := some 156) (v := ?_) (a' := ?_) #[true, true, true, true, true, true, true, true, true, true, true, true, true, true, true, true, true, true, true, true, true, true, true, true, true, false, false, false, false, false, false, false, false, false, false, false, false, false, false, false, false, false, false, false, false, false, false, false, false, false, false, false, false, false, false, false] rfl rfl (any_of HT_.out (by kernel_rfl)) (fun _ _ _ h => h) (Or.inl ⟨by rfl, ?_⟩) ?_ ?_
                  rotate_left
                  ·intro w'
                   go_simp
                   with_reducible rfl
                  rotate_left
                  ·simp only [Act.put, List.setIfInBounds_toArray, List.set_cons_zero, List.set_cons_succ, i64_w, i32_w]
                   rfl
                  refine pure_ (i := 25) (N := some 157) (v := ?_) (a' := ?_) #[true, true, true, true, true, true, true, true, true, true, true, true, true, true, true, true, true, true, true, true, true, true, true, true, true, true, false, false, false, false, false, false, false, false, false, false, false, false, false, false, false, false, false, false, false, false, false, false, false, false, false, false, false, false, false, false] rfl rfl (any_of HT_.out (by kernel_rfl)) (fun _ _ _ h => h) (Or.inl ⟨by rfl, ?_⟩) ?_ ?_
                  rotate_left
                  ·intro w'
                   go_simp
                   with_reducible rfl
                  rotate_left
                  ·simp only [Act.put, List.setIfInBounds_toArray, List.set_cons_zero, List.set_cons_succ, i64_w, i32_w]
                   rfl
                  refine pure_ (i := 26) (N := some 158) (v := ?_) (a' := ?_) #[true, true, true, true, true, true, true, true, true, true, true, true, true, true, true, true, true, true, true, true, true, true, true, true, true, true, true, false, false, false, false, false, false, false, false, false, false, false, false, false, false, false, false, false, false, false, false, false, false, false, false, false, false, false, false, false] rfl rfl (any_of HT_.out (by kernel_rfl)) (fun _ _ _ h => h) (Or.inl ⟨by rfl, ?_⟩) ?_ ?_
                  rotate_left
                  ·intro w'
                   go_simp
                   with_reducible rfl
                  rotate_left
                  ·simp only [Act.put, List.setIfInBounds_toArray, List.set_cons_zero, List.set_cons_succ, i64_w, i32_w]
                   rfl
                  refine pure_ (i := 27) (N := some 159) (v := ?_) (a' := ?_) #[true, true, true, true, true, true, true, true, true, true, true, true, true, true, true, true, true, true, true, true, true, true, true, true, true, true, true, true, false, false, false, false, false, false, false, false, false, false, false, false, false, false, false, false, false, false, false, false, false, false, false, false, false, false, false, false] rfl rfl (any_of HT_.out (by kernel_rfl)) (fun _ _ _ h => h) (Or.inl ⟨by rfl, ?_⟩) ?_ ?_
                  rotate_left
                  ·intro w'
                   go_simp
                   with_reducible rfl
                  rotate_left
                  ·simp only [Act.put, List.setIfInBounds_toArray, List.set_cons_zero, List.set_cons_succ, i64_w, i32_w]
                   rfl
                  refine pure_ (i := 28) (N := some 160) (v := ?_) (a' := ?_) #[true, true, true, true, true, true, true, true, true, true, true, true, true, true, true, true, true, true, true, true, true, true, true, true, true, true, true, true, true, false, false, false, false, false, false, false, false, false, false, false, false, false, false, false, false, false, false, false, false, false, false, false, false, false, false, false] rfl rfl (any_of HT_.out (by kernel_rfl)) (fun _ _ _ h => h) (Or.inl ⟨by rfl, ?_⟩) ?_ ?_
                  rotate_left
                  ·intro w'
                   go_simp
                   with_reducible rfl
                  rotate_left
                  ·simp only [Act.put, List.setIfInBounds_toArray, List.set_cons_zero, List.set_cons_succ, i64_w, i32_w]
                   rfl
                  refine pure_ (i := 29) (N := some 161) (v := ?_) (a' := ?_) #[true, true, true, true, true, true, true, true, true, true, true, true, true, true, true, true, true, true, true, true, true, true, true, true, true, true, true, true, true, true, false, false, false, false, false, false, false, false, false, false, false, false, false, false, false, false, false, false, false, false, false, false, false, false, false, false] rfl rfl (any_of HT_.out (by kernel_rfl)) (fun _ _ _ h => h) (Or.inl ⟨by rfl, ?_⟩) ?_ ?_
                  rotate_left
                  ·intro w'
                   go_simp
                   with_reducible rfl
                  rotate_left
                  ·simp only [Act.put, List.setIfInBounds_toArray, List.set_cons_zero, List.set_cons_succ, i64_w, i32_w]
                   rfl
                  refine pure_ (i := 30) (N := some 162) (v := ?_) (a' := ?_) #[true, true, true, true, true, true, true, true, true, true, true, true, true, true, true, true, true, true, true, true, true, true, true, true, true, true, true, true, true, true, true, false, false, false, false, false, false, false, false, false, false, false, false, false, false, false, false, false, false, false, false, false, false, false, false, false] rfl rfl (any_of HT_.out (by kernel_rfl)) (fun _ _ _ h => h) (Or.inl ⟨by rfl, ?_⟩) ?_ ?_
                  rotate_left
                  ·intro w'
                   go_simp
                   with_reducible rfl
                  rotate_left
                  ·simp only [Act.put, List.setIfInBounds_toArray, List.set_cons_zero, List.set_cons_succ, i64_w, i32_w]
                   rfl
                  refine pure_ (i := 31) (N := some 163) (v := ?_) (a' := ?_) #[true, true, true, true, true, true, true, true, true, true, true, true, true, true, true, true, true, true, true, true, true, true, true, true, true, true, true, true, true, true, true, true, false, false, false, false, false, false, false, false, false, false, false, false, false, false, false, false, false, false, false, false, false, false, false, false] rfl rfl (any_of HT_.out (by kernel_rfl)) (fun _ _ _ h => h) (Or.inl ⟨by rfl, ?_⟩) ?_ ?_
                  rotate_left
                  ·intro w'
                   go_simp
                   with_reducible rfl
                  rotate_left
                  ·simp only [Act.put, List.setIfInBounds_toArray, List.set_cons_zero, List.set_cons_succ, i64_w, i32_w]
                   rfl
                  refine pure_ (i := 32) (N := some 164) (v := ?_) (a' := ?_) #[true, true, true, true, true, true, true, true, true, true, true, true, true, true, true, true, true, true, true, true, true, true, true, true, true, true, true, true, true, true, true, true, true, false, false, false, false, false, false, false, false, false, false, false, false, false, false, false, false, false, false, false, false, false, false, false] rfl rfl (any_of HT_.out (by kernel_rfl)) (fun _ _ _ h => h) (Or.inl ⟨by rfl, ?_⟩) ?_ ?_
                  rotate_left
                  ·intro w'
                   go_simp
                   with_reducible rfl
                  rotate_left
                  ·simp only [Act.put, List.setIfInBounds_toArray, List.set_cons_zero, List.set_cons_succ, i64_w, i32_w]
                   rfl
                  refine pure_ (i := 33) (N := some 165) (v := ?_) (a' := ?_) #[true, true, true, true, true, true, true, true, true, true, true, true, true, true, true, true, true, true, true, true, true, true, true, true, true, true, true, true, true, true, true, true, true, true, false, false, false, false, false, false, false, false, false, false, false, false, false, false, false, false, false, false, false, false, false, false] rfl rfl (any_of HT_.out (by kernel_rfl)) (fun _ _ _ h => h) (Or.inl ⟨by rfl, ?_⟩) ?_ ?_
                  rotate_left
                  ·intro w'
                   go_simp
                   with_reducible rfl
                  rotate_left
                  ·simp only [Act.put, List.setIfInBounds_toArray, List.set_cons_zero, List.set_cons_succ, i64_w, i32_w]
                   rfl
                  refine pure_ (i := 34) (N := some 166) (v := ?_) (a' := ?_) #[true, true, true, true, true, true, true, true, true, true, true, true, true, true, true, true, true, true, true, true, true, true, true, true, true, true, true, true, true, true, true, true, true, true, true, false, false, false, false, false, false, false, false, false, false, false, false, false, false, false, false, false, false, false, false, false] rfl rfl (any_of HT_.out (by kernel_rfl)) (fun _ _ _ h => h) (Or.inl ⟨by rfl, ?_⟩) ?_ ?_
                  rotate_left
                  ·intro w'
                   go_simp
                   with_reducible rfl
                  rotate_left
                  ·simp only [Act.put, List.setIfInBounds_toArray, List.set_cons_zero, List.set_cons_succ, i64_w, i32_w]
                   rfl
                  refine pure_ (i := 35) (N := some 167) (v := ?_) (a' := ?_) #[true, true, true, true, true, true, true, true, true, true, true, true, true, true, true, true, true, true, true, true, true, true, true, true, true, true, true, true, true, true, true, true, true, true, true, true, false, false, false, false, false, false, false, false, false, false, false, false, false, false, false, false, false, false, false, false] rfl rfl (any_of HT_.out (by kernel_rfl)) (fun _ _ _ h => h) (Or.inl ⟨by rfl, ?_⟩) ?_ ?_
                  rotate_left
                  ·intro w'
                   go_simp
                   with_reducible rfl
                  rotate_left
                  ·simp only [Act.put, List.setIfInBounds_toArray, List.set_cons_zero, List.set_cons_succ, i64_w, i32_w]
                   rfl
                  refine pure_ (i := 36) (N := some 168) (v := ?_) (a' := ?_) #[true, true, true, true, true, true, true, true, true, true, true, true, true, true, true, true, true, true, true, true, true, true, true, true, true, true, true, true, true, true, true, true, true, true, true, true, true, false, false, false, false, false, false, false, false, false, false, false, false, false, false, false, false, false, false, false] rfl rfl (any_of HT_.out (by kernel_rfl)) (fun _ _ _ h => h) (Or.inl ⟨by rfl, ?_⟩) ?_ ?_
                  rotate_left
                  ·intro w'
                   go_simp
                   with_reducible rfl
                  rotate_left
                  ·simp only [Act.put, List.setIfInBounds_toArray, List.set_cons_zero, List.set_cons_succ, i64_w, i32_w]
                   rfl
                  refine pure_ (i := 37) (N := some 169) (v := ?_) (a' := ?_) #[true, true, true, true, true, true, true, true, true, true, true, true, true, true, true, true, true, true, true, true, true, true, true, true, true, true, true, true, true, true, true, true, true, true, true, true, true, true, false, false, false, false, false, false, false, false, false, false, false, false, false, false, false, false, false, false] rfl rfl (any_of HT_.out (by kernel_rfl)) (fun _ _ _ h => h) (Or.inl ⟨by rfl, ?_⟩) ?_ ?_
                  rotate_left
                  ·intro w'
                   go_simp
                   with_reducible rfl
                  rotate_left
                  ·simp only [Act.put, List.setIfInBounds_toArray, List.set_cons_zero, List.set_cons_succ, i64_w, i32_w]
                   rfl
                  refine pure_ (i := 38) (N := some 170) (v := ?_) (a' := ?_) #[true, true, true, true, true, true, true, true, true, true, true, true, true, true, true, true, true, true, true, true, true, true, true, true, true, true, true, true, true, true, true, true, true, true, true, true, true, true, true, false, false, false, false, false, false, false, false, false, false, false, false, false, false, false, false, false] rfl rfl (any_of HT_.out (by kernel_rfl)) (fun _ _ _ h => h) (Or.inl ⟨by rfl, ?_⟩) ?_ ?_
                  rotate_left
                  ·intro w'
                   go_simp
                   with_reducible rfl
                  rotate_left
                  ·simp only [Act.put, List.setIfInBounds_toArray, List.set_cons_zero, List.set_cons_succ, i64_w, i32_w]
                   rfl
                  refine pure_ (i := 39) (N := some 171) (v := ?_) (a' := ?_) #[true, true, true, true, true, true, true, true, true, true, true, true, true, true, true, true, true, true, true, true, true, true, true, true, true, true, true, true, true, true, true, true, true, true, true, true, true, true, true, true, false, false, false, false, false, false, false, false, false, false, false, false, false, false, false, false] rfl rfl (any_of HT_.out (by kernel_rfl)) (fun _ _ _ h => h) (Or.inl ⟨by rfl, ?_⟩) ?_ ?_
                  rotate_left
                  ·intro w'
                   go_simp
                   with_reducible rfl
                  rotate_left
                  ·simp only [Act.put, List.setIfInBounds_toArray, List.set_cons_zero, List.set_cons_succ, i64_w, i32_w]
                   rfl
                  refine pure_ (i := 40) (N := some 172) (v := ?_) (a' := ?_) #[true, true, true, true, true, true, true, true, true, true, true, true, true, true, true, true, true, true, true, true, true, true, true, true, true, true, true, true, true, true, true, true, true, true, true, true, true, true, true, true, true, false, false, false, false, false, false, false, false, false, false, false, false, false, false, false] rfl rfl (any_of HT_.out (by kernel_rfl)) (fun _ _ _ h => h) (Or.inl ⟨by rfl, ?_⟩) ?_ ?_
                  rotate_left
                  ·intro w'
                   go_simp
                   with_reducible rfl
                  rotate_left
                  ·simp only [Act.put, List.setIfInBounds_toArray, List.set_cons_zero, List.set_cons_succ, i64_w, i32_w]
                   rfl
                  refine pure_ (i := 41) (N := some 173) (v := ?_) (a' := ?_) #[true, true, true, true, true, true, true, true, true, true, true, true, true, true, true, true, true, true, true, true, true, true, true, true, true, true, true, true, true, true, true, true, true, true, true, true, true, true, true, true, true, true, false, false, false, false, false, false, false, false, false, false, false, false, false, false] rfl rfl (any_of HT_.out (by kernel_rfl)) (fun _ _ _ h => h) (Or.inl ⟨by rfl, ?_⟩) ?_ ?_
                  rotate_left
                  ·intro w'
                   go_simp
                   with_reducible rfl
                  rotate_left
                  ·simp only [Act.put, List.setIfInBounds_toArray, List.set_cons_zero, List.set_cons_succ, i64_w, i32_w]
                   rfl
                  refine pure_ (i := 42) (N := some 174) (v := ?_) (a' := ?_) #[true, true, true, true, true, true, true, true, true, true, true, true, true, true, true, true, true, true, true, true, true, true, true, true, true, true, true, true, true, true, true, true, true, true, true, true, true, true, true, true, true, true, true, false, false, false, false, false, false, false, false, false, false, false, false, false] rfl rfl (any_of HT_.out (by kernel_rfl)) (fun _ _ _ h => h) (Or.inl ⟨by rfl, ?_⟩) ?_ ?_
                  rotate_left
                  ·intro w'
                   go_simp
                   with_reducible rfl
                  rotate_left
                  ·simp only [Act.put, List.setIfInBounds_toArray, List.set_cons_zero, List.set_cons_succ, i64_w, i32_w]
                   rfl
                  refine pure_ (i := 43) (N := some 175) (v := ?_) (a' := ?_) #[true, true, true, true, true, true, true, true, true, true, true, true, true, true, true, true, true, true, true, true, true, true, true, true, true, true, true, true, true, true, true, true, true, true, true, true, true, true, true, true, true, true, true, true, false, false, false, false, false, false, false, false, false, false, false, false] rfl rfl (any_of HT_.out (by kernel_rfl)) (fun _ _ _ h => h) (Or.inl ⟨by rfl, ?_⟩) ?_ ?_
                  rotate_left
                  ·intro w'
                   go_simp
                   with_reducible rfl
                  rotate_left
                  ·simp only [Act.put, List.setIfInBounds_toArray, List.set_cons_zero, List.set_cons_succ, i64_w, i32_w]
                   rfl
                  refine pure_ (i := 45) (N := some 177) (v := ?_) (a' := ?_) #[true, true, true, true, true, true, true, true, true, true, true, true, true, true, true, true, true, true, true, true, true, true, true, true, true, true, true, true, true, true, true, true, true, true, true, true, true, true, true, true, true, true, true, true, false, true, false, false, false, false, false, false, false, false, false, false] rfl rfl (any_of HT_.out (by kernel_rfl)) (fun _ _ _ h => h) (Or.inl ⟨by rfl, ?_⟩) ?_ ?_
                  rotate_left
                  ·intro w'
                   go_simp
                   with_reducible rfl
                  rotate_left
                  ·simp only [Act.put, List.setIfInBounds_toArray, List.set_cons_zero, List.set_cons_succ, i64_w, i32_w]
                   rfl
                  refine pure_ (i := 48) (N := some 180) (v := ?_) (a' := ?_) #[true, true, true, true, true, true, true, true, true, true, true, true, true, true, true, true, true, true, true, true, true, true, true, true, true, true, true, true, true, true, true, true, true, true, true, true, true, true, true, true, true, true, true, true, false, true, false, false, true, false, false, false, false, false, false, false] rfl rfl (any_of HT_.out (by kernel_rfl)) (fun _ _ _ h => h) (Or.inl ⟨by rfl, ?_⟩) ?_ ?_
                  rotate_left
                  ·intro w'
                   go_simp
                   with_reducible rfl
                  rotate_left
                  ·simp only [Act.put, List.setIfInBounds_toArray, List.set_cons_zero, List.set_cons_succ, i64_w, i32_w]
                   rfl
                  refine take_ (i := 44) (N := some 176) (v := ?_) (a' := ?_) #[true, true, true, true, true, true, true, true, true, true, true, true, true, true, true, true, true, true, true, true, true, true, true, true, true, true, true, true, true, true, true, true, true, true, true, true, true, true, true, true, true, true, true, true, true, true, false, false, true, false, false, false, false, false, false, false] rfl rfl (take_ofW HT_.out HW_.out (by kernel_rfl)) (fun _ _ _ h => h) (Or.inl ⟨by rfl, ?_⟩) hHeld ?_ ?_
                  rotate_left
                  ·rintro w' ⟨s0, s1, s2, s3, s4⟩
                   go_simp
                   with_reducible rfl
                  rotate_left
                  ·simp only [Act.put, List.setIfInBounds_toArray, List.set_cons_zero, List.set_cons_succ, i64_w, i32_w]
                   rfl
                  refine take_ (i := 46) (N := some 178) (v := ?_) (a' := ?_) #[true, true, true, true, true, true, true, true, true, true, true, true, true, true, true, true, true, true, true, true, true, true, true, true, true, true, true, true, true, true, true, true, true, true, true, true, true, true, true, true, true, true, true, true, true, true, true, false, true, false, false, false, false, false, false, false] rfl rfl (take_ofW HT_.out HW_.out (by kernel_rfl)) (fun _ _ _ h => h) (Or.inl ⟨by rfl, ?_⟩) hHeld ?_ ?_
                  rotate_left
                  ·rintro w' ⟨s0, s1, s2, s3, s4⟩
                   go_simp
                   with_reducible rfl
                  rotate_left
                  ·simp only [Act.put, List.setIfInBounds_toArray, List.set_cons_zero, List.set_cons_succ, i64_w, i32_w]
                   rfl
                  refine pure_ (i := 47) (N := some 179) (v := ?_) (a' := ?_) #[true, true, true, true, true, true, true, true, true, true, true, true, true, true, true, true, true, true, true, true, true, true, true, true, true, true, true, true, true, true, true, true, true, true, true, true, true, true, true, true, true, true, true, true, true, true, true, true, true, false, false, false, false, false, false, false] rfl rfl (any_of HT_.out (by kernel_rfl)) (fun _ _ _ h => h) (Or.inl ⟨by rfl, ?_⟩) ?_ ?_
                  rotate_left
                  ·intro w'
                   go_simp
                   with_reducible rfl
                  rotate_left
                  ·simp only [Act.put, List.setIfInBounds_toArray, List.set_cons_zero, List.set_cons_succ, i64_w, i32_w]
                   rfl
                  refine take_ (i := 49) (N := some 181) (v := ?_) (a' := ?_) #[true, true, true, true, true, true, true, true, true, true, true, true, true, true, true, true, true, true, true, true, true, true, true, true, true, true, true, true, true, true, true, true, true, true, true, true, true, true, true, true, true, true, true, true, true, true, true, true, true, true, false, false, false, false, false, false] rfl rfl (take_ofW HT_.out HW_.out (by kernel_rfl)) (fun _ _ _ h => h) (Or.inl ⟨by rfl, ?_⟩) hHeld ?_ ?_
                  rotate_left
                  ·rintro w' ⟨s0, s1, s2, s3, s4⟩
                   go_simp
                   with_reducible rfl
                  rotate_left
                  ·simp only [Act.put, List.setIfInBounds_toArray, List.set_cons_zero, List.set_cons_succ, i64_w, i32_w]
                   rfl
                  refine one_ (i := 50) (N := some 182) #[true, true, true, true, true, true, true, true, true, true, true, true, true, true, true, true, true, true, true, true, true, true, true, true, true, true, true, true, true, true, true, true, true, true, true, true, true, true, true, true, true, true, true, true, true, true, true, true, true, true, true, false, false, false, false, false] rfl rfl (one_of HT_.out (by kernel_rfl)) (by decide) (fun K hK => ?_)
                  refine goes_ Try.func28 (by kernel_rfl) rfl #[.agg #[.int .i64 t960, .int .i64 t961, .slice Ao17 t962.length co17]] (by rfl) rfl rfl arr_ ?_
                  with_reducible refine (impl_RoundOf.calls kj12 t960 t961 _ _ t962 t997 _ ?side1 ?side2 A85.out).mono ?_
                  (case side1 => repeat (first | exact (Kd.R_reads' HO_968002.out).2.2 | (with_reducible refine Kd.C_alloc ?_ _) | (with_reducible refine Kd.C_drewN ?_ _) | (with_reducible refine Kd.C_drew ?_)))
                  (case side2 => exact (Kd.R_reads' HO_968002.out).2.1)
                  rintro e w103 ⟨rfl, hb⟩
                  refine ⟨_, rfl, ?_⟩
                  have n0_ := am_ (Kd.R_below (by (with_reducible repeat (first | apply Kd.R_alloc | apply Kd.R_drewN | apply Kd.R_drew)); exact HO_968002.out) hb)
                  have n1_ := am_ (bb_ BK967.out hb)
                  have n2_ := am_ (bb_ BK971.out hb)
                  have n3_ := am_ (bb_ BK975.out hb)
                  have n4_ := am_ (bb_ BK985.out hb)
                  have n5_ := am_ (below_step (hb4_ HB.out GE967.out GE971.out GE975.out GE985.out) hb)
                  clear HO_968002
                  clear BK967
                  clear BK971
                  clear BK975
                  clear BK985
                  clear HB
                  have HO_968002 := n0_
                  have BK967 := n1_
                  have BK971 := n2_
                  have BK975 := n3_
                  have BK985 := n4_
                  have HB := n5_
                  clear n0_ n1_ n2_ n3_ n4_ n5_
                  (try clear hb)
                  (try clear hb2)
                  (try clear hk)
                  (try clear hi)
                  refine hK.out _ _ ⟨(blk_cell BK971.out 0).trans rfl, (blk_cell BK971.out 1).trans rfl, (blk_cell BK967.out 0).trans rfl, (blk_cell BK967.out 1).trans rfl, (blk_cell BK967.out 2).trans rfl⟩ (fun hHeld => ?_)
                  clear hK K
                  refine norm_ (a' := ?_) ?_ ?_
                  rotate_left
                  ·show Act.put _ (some 182) _ = _
                   simp only [Act.put, List.setIfInBounds_toArray, List.set_cons_zero, List.set_cons_succ, i64_w, i32_w]
                   rfl
                  refine pure_ (i := 51) (N := some 183) (v := ?_) (a' := ?_) #[true, true, true, true, true, true, true, true, true, true, true, true, true, true, true, true, true, true, true, true, true, true, true, true, true, true, true, true, true, true, true, true, true, true, true, true, true, true, true, true, true, true, true, true, true, true, true, true, true, true, true, true, false, false, false, false] rfl rfl (any_of HT_.out (by kernel_rfl)) (fun _ _ _ h => h) (Or.inl ⟨by rfl, ?_⟩) ?_ ?_
                  rotate_left
                  ·intro w'
                   go_simp
                   with_reducible rfl
                  rotate_left
                  ·simp only [Act.put, List.setIfInBounds_toArray, List.set_cons_zero, List.set_cons_succ, i64_w, i32_w]
                   rfl
                  refine pure_ (i := 52) (N := some 184) (v := ?_) (a' := ?_) #[true, true, true, true, true, true, true, true, true, true, true, true, true, true, true, true, true, true, true, true, true, true, true, true, true, true, true, true, true, true, true, true, true, true, true, true, true, true, true, true, true, true, true, true, true, true, true, true, true, true, true, true, true, false, false, false] rfl rfl (any_of HT_.out (by kernel_rfl)) (fun _ _ _ h => h) (Or.inl ⟨by rfl, ?_⟩) ?_ ?_
                  rotate_left
                  ·intro w'
                   go_simp
                   with_reducible rfl
                  rotate_left
                  ·simp only [Act.put, List.setIfInBounds_toArray, List.set_cons_zero, List.set_cons_succ, i64_w, i32_w]
                   rfl
                  refine pure_ (i := 53) (N := some 185) (v := ?_) (a' := ?_) #[true, true, true, true, true, true, true, true, true, true, true, true, true, true, true, true, true, true, true, true, true, true, true, true, true, true, true, true, true, true, true, true, true, true, true, true, true, true, true, true, true, true, true, true, true, true, true, true, true, true, true, true, true, true, false, false] rfl rfl (any_of HT_.out (by kernel_rfl)) (fun _ _ _ h => h) (Or.inl ⟨by rfl, ?_⟩) ?_ ?_
                  rotate_left
                  ·intro w'
                   go_simp
                   with_reducible rfl
                  rotate_left
                  ·simp only [Act.put, List.setIfInBounds_toArray, List.set_cons_zero, List.set_cons_succ, i64_w, i32_w]
                   rfl
                  refine pure_ (i := 54) (N := some 186) (v := ?_) (a' := ?_) #[true, true, true, true, true, true, true, true, true, true, true, true, true, true, true, true, true, true, true, true, true, true, true, true, true, true, true, true, true, true, true, true, true, true, true, true, true, true, true, true, true, true, true, true, true, true, true, true, true, true, true, true, true, true, true, false] rfl rfl (any_of HT_.out (by kernel_rfl)) (fun _ _ _ h => h) (Or.inl ⟨by rfl, ?_⟩) ?_ ?_
                  rotate_left
                  ·intro w'
                   go_simp
                   with_reducible rfl
                  rotate_left
                  ·simp only [Act.put, List.setIfInBounds_toArray, List.set_cons_zero, List.set_cons_succ, i64_w, i32_w]
                   rfl
                  refine pure_ (i := 55) (N := some 2) (v := ?_) (a' := ?_) #[true, true, true, true, true, true, true, true, true, true, true, true, true, true, true, true, true, true, true, true, true, true, true, true, true, true, true, true, true, true, true, true, true, true, true, true, true, true, true, true, true, true, true, true, true, true, true, true, true, true, true, true, true, true, true, true] rfl rfl (any_of HT_.out (by kernel_rfl)) (fun _ _ _ h => h) (Or.inl ⟨by rfl, ?_⟩) ?_ ?_
                  rotate_left
                  ·intro w'
                   go_simp
                   with_reducible rfl
                  rotate_left
                  ·simp only [Act.put, List.setIfInBounds_toArray, List.set_cons_zero, List.set_cons_succ, i64_w, i32_w]
                   rfl
                  refine done_ (done_of HT_.out (by kernel_rfl)) ?_
                  try go_wp2
                  go_ret
                  exact ⟨er_, hb4_ HB.out GE967.out GE971.out GE975.out GE985.out⟩
                 ·replace c84 := Bool.eq_false_iff.mpr c84
                  subst c84
                  have H1 : (some false) = some r := by rw [if_neg (show ¬ (false = true) by decide)] at H; exact H
                  clear H
                  have H := H1
                  clear H1
                  obtain rfl := Option.some.inj H
                  exact absurd hr_ (by decide)
               ·rw [if_neg c82] at H
                have c82b0 : (t992 == t965) = false := beq_eq_false_iff_ne.mpr c82
                have c82b1 : (t992 != t965) = true := bne_iff_ne.mpr c82
                by_cases c104 : t996 = true
                ·subst c104
                 have H1 : ((impl_RoundOf.f kj12 t960 t961 t962).bind fun t998 => (some (t995 == (wrap64 ((wrap64 (t968 - t960)) - (wrap64 (t966 * t998))))))) = some r := by rw [if_pos rfl] at H; exact H
                 clear H
                 have H := H1
                 clear H1
                 replace H := Option.bind_eq_some_iff.mp H
                 obtain ⟨t998, A1050, H⟩ := H
                 replace H : (some (t995 == (wrap64 ((wrap64 (t968 - t960)) - (wrap64 (t966 * t998)))))) = some r := H
                 have A105 := Aside0.mk A1050
                 clear A1050
                 obtain rfl := Option.some.inj H
                 have hnb106 := NB967_971.out
                 have hnc106 := NB971_967.out
                 have hnb107 := NB967_975.out
                 have hnc107 := NB975_967.out
                 have hnb108 := NB967_985.out
                 have hnc108 := NB985_967.out
                 have hcz109_0 := bc_ BK967.out 0 (.int .i64 t960) rfl
                 have hcz109_1 := bc_ BK967.out 1 (.int .i64 t961) rfl
                 have hcz109_2 := bc_ BK967.out 2 (.slice Ao17 t962.length co17) rfl
                 have hfz109_0 := blk_frozen BK967.out 0
                 have hfz109_1 := blk_frozen BK967.out 1
                 have hfz109_2 := blk_frozen BK967.out 2
                 have hnb110 := NB971_975.out
                 have hnc110 := NB975_971.out
                 have hnb111 := NB971_985.out
                 have hnc111 := NB985_971.out
                 have hcz112_0 := bc_ BK971.out 0 (.int .i64 t968) rfl
                 have hcz112_1 := bc_ BK971.out 1 (.int .i64 t969) rfl
                 have hfz112_0 := blk_frozen BK971.out 0
                 have hfz112_1 := blk_frozen BK971.out 1
                 try go_wp2_with (first | ((with_reducible refine gate_callee (f := 29) rfl ?_); refine gl_ Try.func29 #[.agg #[.int .i64 t960, .int .i64 t961, .slice Ao17 t962.length co17], .int .i64 t968] ?_; (with_reducible refine (impl_SlotAt.calls kj12 t960 t961 _ _ t962 t968 t986 t987 true _ ?side1 ?side2 A71.out).mono ?_); (case side1 => repeat (first | exact (Kd.R_reads' HO_968002.out).2.2 | (with_reducible refine Kd.C_alloc ?_ _) | (with_reducible refine Kd.C_drewN ?_ _) | (with_reducible refine Kd.C_drew ?_))); (case side2 => exact (Kd.R_reads' HO_968002.out).2.1); rintro e w113 ⟨rfl, hb⟩; refine ⟨_, rfl, ?_⟩; replace HO_968002 := am_ (Kd.R_below (by (with_reducible repeat (first | apply Kd.R_alloc | apply Kd.R_drewN | apply Kd.R_drew)); exact HO_968002.out) hb); replace BK967 := am_ (bb_ BK967.out hb); replace BK971 := am_ (bb_ BK971.out hb); replace BK975 := am_ (bb_ BK975.out hb); replace BK985 := am_ (bb_ BK985.out hb); replace HB := am_ (below_step (hb4_ HB.out GE967.out GE971.out GE975.out GE985.out) hb); (try clear hb); (try clear hb2); (try clear hk); (try clear hi); obtain ⟨hcz114_0, hcz114_1, hcz114_2, hfz114_0, hfz114_1, hfz114_2⟩ := bc3_ BK967.out; obtain ⟨hcz115_0, hcz115_1, hfz115_0, hfz115_1⟩ := bc2_ BK971.out) | ((with_reducible refine gate_callee (f := 29) rfl ?_); refine gl_ Try.func29 #[.agg #[.int .i64 t960, .int .i64 t961, .slice Ao17 t962.length co17], .int .i64 (wrap64 (t969 - 1))] ?_; (with_reducible refine (impl_SlotAt.calls kj12 t960 t961 _ _ t962 (wrap64 (t969 - 1)) t989 t990 true _ ?side1 ?side2 A72.out).mono ?_); (case side1 => repeat (first | exact (Kd.R_reads' HO_968002.out).2.2 | (with_reducible refine Kd.C_alloc ?_ _) | (with_reducible refine Kd.C_drewN ?_ _) | (with_reducible refine Kd.C_drew ?_))); (case side2 => exact (Kd.R_reads' HO_968002.out).2.1); rintro e w116 ⟨rfl, hb⟩; refine ⟨_, rfl, ?_⟩; replace HO_968002 := am_ (Kd.R_below (by (with_reducible repeat (first | apply Kd.R_alloc | apply Kd.R_drewN | apply Kd.R_drew)); exact HO_968002.out) hb); replace BK967 := am_ (bb_ BK967.out hb); replace BK971 := am_ (bb_ BK971.out hb); replace BK975 := am_ (bb_ BK975.out hb); replace BK985 := am_ (bb_ BK985.out hb); replace HB := am_ (below_step (hb4_ HB.out GE967.out GE971.out GE975.out GE985.out) hb); (try clear hb); (try clear hb2); (try clear hk); (try clear hi); obtain ⟨hcz117_0, hcz117_1, hcz117_2, hfz117_0, hfz117_1, hfz117_2⟩ := bc3_ BK967.out; obtain ⟨hcz118_0, hcz118_1, hfz118_0, hfz118_1⟩ := bc2_ BK971.out) | ((with_reducible refine gate_callee (f := 29) rfl ?_); refine gl_ Try.func29 #[.agg #[.int .i64 t960, .int .i64 t961, .slice Ao17 t962.length co17], .int .i64 t969] ?_; (with_reducible refine (impl_SlotAt.calls kj12 t960 t961 _ _ t962 t969 t992 t993 true _ ?side1 ?side2 A73.out).mono ?_); (case side1 => repeat (first | exact (Kd.R_reads' HO_968002.out).2.2 | (with_reducible refine Kd.C_alloc ?_ _) | (with_reducible refine Kd.C_drewN ?_ _) | (with_reducible refine Kd.C_drew ?_))); (case side2 => exact (Kd.R_reads' HO_968002.out).2.1); rintro e w119 ⟨rfl, hb⟩; refine ⟨_, rfl, ?_⟩; replace HO_968002 := am_ (Kd.R_below (by (with_reducible repeat (first | apply Kd.R_alloc | apply Kd.R_drewN | apply Kd.R_drew)); exact HO_968002.out) hb); replace BK967 := am_ (bb_ BK967.out hb); replace BK971 := am_ (bb_ BK971.out hb); replace BK975 := am_ (bb_ BK975.out hb); replace BK985 := am_ (bb_ BK985.out hb); replace HB := am_ (below_step (hb4_ HB.out GE967.out GE971.out GE975.out GE985.out) hb); (try clear hb); (try clear hb2); (try clear hk); (try clear hi); obtain ⟨hcz120_0, hcz120_1, hcz120_2, hfz120_0, hfz120_1, hfz120_2⟩ := bc3_ BK967.out) | ((with_reducible refine gate_callee (f := 30) rfl ?_); refine gl_ Try.func30 #[.agg #[.int .i64 t960, .int .i64 t961, .slice Ao17 t962.length co17], .int .i64 t965] ?_; (with_reducible refine (impl_SlotFrom.calls kj12 t960 t961 _ _ t962 t965 t995 true _ ?side1 ?side2 A74.out).mono ?_); (case side1 => repeat (first | exact (Kd.R_reads' HO_968002.out).2.2 | (with_reducible refine Kd.C_alloc ?_ _) | (with_reducible refine Kd.C_drewN ?_ _) | (with_reducible refine Kd.C_drew ?_))); (case side2 => exact (Kd.R_reads' HO_968002.out).2.1); rintro e w121 ⟨rfl, hb⟩; refine ⟨_, rfl, ?_⟩; replace HO_968002 := am_ (Kd.R_below (by (with_reducible repeat (first | apply Kd.R_alloc | apply Kd.R_drewN | apply Kd.R_drew)); exact HO_968002.out) hb); replace BK967 := am_ (bb_ BK967.out hb); replace BK971 := am_ (bb_ BK971.out hb); replace BK975 := am_ (bb_ BK975.out hb); replace BK985 := am_ (bb_ BK985.out hb); replace HB := am_ (below_step (hb4_ HB.out GE967.out GE971.out GE975.out GE985.out) hb); (try clear hb); (try clear hb2); (try clear hk); (try clear hi)))
                 have n0_ := am_ (Kd.R_drew HO_968002.out)
                 have n1_ := am_ (blk_drew BK967.out)
                 have n2_ := am_ (blk_drew BK971.out)
                 have n3_ := am_ (blk_drew BK975.out)
                 have n4_ := am_ (blk_drew BK985.out)
                 have n5_ := am_ (below_drew1 HB.out)
                 clear HO_968002
                 clear BK967
                 clear BK971
                 clear BK975
                 clear BK985
                 clear HB
                 have HO_968002 := n0_
                 have BK967 := n1_
                 have BK971 := n2_
                 have BK975 := n3_
                 have BK985 := n4_
                 have HB := n5_
                 clear n0_ n1_ n2_ n3_ n4_ n5_
                 refine start_ (n := 56) (S := fun w' => w'.cell? ⟨gb971, 0, none⟩ = some (.int .i64 t968) ∧ w'.cell? ⟨gb971, 1, none⟩ = some (.int .i64 t969) ∧ w'.cell? ⟨gb967, 0, none⟩ = some (.int .i64 t960) ∧ w'.cell? ⟨gb967, 1, none⟩ = some (.int .i64 t961) ∧ w'.cell? ⟨gb967, 2, none⟩ = some (.slice Ao17 t962.length co17)) (ds := []) #[false, false, false, false, false, false, false, false, false, false, false, false, false, false, false, false, false, false, false, false, false, false, false, false, false, false, false, false, false, false, false, false, false, false, false, false, false, false, false, false, false, false, false, false, false, false, false, false, false, false, false, false, false, false, false, false] (by kernel_rfl) rfl rfl ⟨(blk_cell BK971.out 0).trans rfl, (blk_cell BK971.out 1).trans rfl, (blk_cell BK967.out 0).trans rfl, (blk_cell BK967.out 1).trans rfl, (blk_cell BK967.out 2).trans rfl⟩ (fun hHeld => ?_); refine with_tabW laws_FnApart.tab19 laws_FnApart.bits19 (fun HT_ HW_ => ?_)
                 generalize w121.drew = w122 at HO_968002 BK967 BK971 BK975 BK985 HB hHeld ⊢
                 refine pure_ (i := 0) (N := some 132) (v := ?_) (a' := ?_) #[true, false, false, false, false, false, false, false, false, false, false, false, false, false, false, false, false, false, false, false, false, false, false, false, false, false, false, false, false, false, false, false, false, false, false, false, false, false, false, false, false, false, false, false, false, false, false, false, false, false, false, false, false, false, false, false] rfl rfl (any_of HT_.out (by kernel_rfl)) (fun _ _ _ h => h) (Or.inl ⟨by rfl, ?_⟩) ?_ ?_
                 rotate_left
                 ·intro w'
                  go_simp
                  with_reducible rfl
                 rotate_left
                 ·simp only [Act.put, List.setIfInBounds_toArray, List.set_cons_zero, List.set_cons_succ, i64_w, i32_w]
                  rfl
                 refine pure_ (i := 1) (N := some 133) (v := ?_) (a' := ?_) #[true, true, false, false, false, false, false, false, false, false, false, false, false, false, false, false, false, false, false, false, false, false, false, false, false, false, false, false, false, false, false, false, false, false, false, false, false, false, false, false, false, false, false, false, false, false, false, false, false, false, false, false, false, false, false, false] rfl rfl (any_of HT_.out (by kernel_rfl)) (fun _ _ _ h => h) (Or.inl ⟨by rfl, ?_⟩) ?_ ?_
                 rotate_left
                 ·intro w'
                  go_simp
                  with_reducible rfl
                 rotate_left
                 ·simp only [Act.put, List.setIfInBounds_toArray, List.set_cons_zero, List.set_cons_succ, i64_w, i32_w]
                  rfl
                 refine pure_ (i := 2) (N := some 134) (v := ?_) (a' := ?_) #[true, true, true, false, false, false, false, false, false, false, false, false, false, false, false, false, false, false, false, false, false, false, false, false, false, false, false, false, false, false, false, false, false, false, false, false, false, false, false, false, false, false, false, false, false, false, false, false, false, false, false, false, false, false, false, false] rfl rfl (any_of HT_.out (by kernel_rfl)) (fun _ _ _ h => h) (Or.inl ⟨by rfl, ?_⟩) ?_ ?_
                 rotate_left
                 ·intro w'
                  go_simp
                  with_reducible rfl
                 rotate_left
                 ·simp only [Act.put, List.setIfInBounds_toArray, List.set_cons_zero, List.set_cons_succ, i64_w, i32_w]
                  rfl
                 refine pure_ (i := 3) (N := some 135) (v := ?_) (a' := ?_) #[true, true, true, true, false, false, false, false, false, false, false, false, false, false, false, false, false, false, false, false, false, false, false, false, false, false, false, false, false, false, false, false, false, false, false, false, false, false, false, false, false, false, false, false, false, false, false, false, false, false, false, false, false, false, false, false] rfl rfl (any_of HT_.out (by kernel_rfl)) (fun _ _ _ h => h) (Or.inl ⟨by rfl, ?_⟩) ?_ ?_
                 rotate_left
                 ·intro w'
                  go_simp
                  with_reducible rfl
                 rotate_left
                 ·simp only [Act.put, List.setIfInBounds_toArray, List.set_cons_zero, List.set_cons_succ, i64_w, i32_w]
                  rfl
                 refine pure_ (i := 4) (N := some 136) (v := ?_) (a' := ?_) #[true, true, true, true, true, false, false, false, false, false, false, false, false, false, false, false, false, false, false, false, false, false, false, false, false, false, false, false, false, false, false, false, false, false, false, false, false, false, false, false, false, false, false, false, false, false, false, false, false, false, false, false, false, false, false, false] rfl rfl (any_of HT_.out (by kernel_rfl)) (fun _ _ _ h => h) (Or.inl ⟨by rfl, ?_⟩) ?_ ?_
                 rotate_left
                 ·intro w'
                  go_simp
                  with_reducible rfl
                 rotate_left
                 ·simp only [Act.put, List.setIfInBounds_toArray, List.set_cons_zero, List.set_cons_succ, i64_w, i32_w]
                  rfl
                 refine pure_ (i := 5) (N := some 137) (v := ?_) (a' := ?_) #[true, true, true, true, true, true, false, false, false, false, false, false, false, false, false, false, false, false, false, false, false, false, false, false, false, false, false, false, false, false, false, false, false, false, false, false, false, false, false, false, false, false, false, false, false, false, false, false, false, false, false, false, false, false, false, false] rfl rfl (any_of HT_.out (by kernel_rfl)) (fun _ _ _ h => h) (Or.inl ⟨by rfl, ?_⟩) ?_ ?_
                 rotate_left
                 ·intro w'
                  go_simp
                  with_reducible rfl
                 rotate_left
                 ·simp only [Act.put, List.setIfInBounds_toArray, List.set_cons_zero, List.set_cons_succ, i64_w, i32_w]
                  rfl
                 refine pure_ (i := 6) (N := some 138) (v := ?_) (a' := ?_) #[true, true, true, true, true, true, true, false, false, false, false, false, false, false, false, false, false, false, false, false, false, false, false, false, false, false, false, false, false, false, false, false, false, false, false, false, false, false, false, false, false, false, false, false, false, false, false, false, false, false, false, false, false, false, false, false] rfl rfl (any_of HT_.out (by kernel_rfl)) (fun _ _ _ h => h) (Or.inl ⟨by rfl, ?_⟩) ?_ ?_
                 rotate_left
                 ·intro w'
                  go_simp
                  with_reducible rfl
                 rotate_left
                 ·simp only [Act.put, List.setIfInBounds_toArray, List.set_cons_zero, List.set_cons_succ, i64_w, i32_w]
                  rfl
                 refine pure_ (i := 7) (N := some 139) (v := ?_) (a' := ?_) #[true, true, true, true, true, true, true, true, false, false, false, false, false, false, false, false, false, false, false, false, false, false, false, false, false, false, false, false, false, false, false, false, false, false, false, false, false, false, false, false, false, false, false, false, false, false, false, false, false, false, false, false, false, false, false, false] rfl rfl (any_of HT_.out (by kernel_rfl)) (fun _ _ _ h => h) (Or.inl ⟨by rfl, ?_⟩) ?_ ?_
                 rotate_left
                 ·intro w'
                  go_simp
                  with_reducible rfl
                 rotate_left
                 ·simp only [Act.put, List.setIfInBounds_toArray, List.set_cons_zero, List.set_cons_succ, i64_w, i32_w]
                  rfl
                 refine pure_ (i := 8) (N := some 140) (v := ?_) (a' := ?_) #[true, true, true, true, true, true, true, true, true, false, false, false, false, false, false, false, false, false, false, false, false, false, false, false, false, false, false, false, false, false, false, false, false, false, false, false, false, false, false, false, false, false, false, false, false, false, false, false, false, false, false, false, false, false, false, false] rfl rfl (any_of HT_.out (by kernel_rfl)) (fun _ _ _ h => h) (Or.inl ⟨by rfl, ?_⟩) ?_ ?_
                 rotate_left
                 ·intro w'
                  go_simp
                  with_reducible rfl
                 rotate_left
                 ·simp only [Act.put, List.setIfInBounds_toArray, List.set_cons_zero, List.set_cons_succ, i64_w, i32_w]
                  rfl
                 refine pure_ (i := 9) (N := some 141) (v := ?_) (a' := ?_) #[true, true, true, true, true, true, true, true, true, true, false, false, false, false, false, false, false, false, false, false, false, false, false, false, false, false, false, false, false, false, false, false, false, false, false, false, false, false, false, false, false, false, false, false, false, false, false, false, false, false, false, false, false, false, false, false] rfl rfl (any_of HT_.out (by kernel_rfl)) (fun _ _ _ h => h) (Or.inl ⟨by rfl, ?_⟩) ?_ ?_
                 rotate_left
                 ·intro w'
                  go_simp
                  with_reducible rfl
                 rotate_left
                 ·simp only [Act.put, List.setIfInBounds_toArray, List.set_cons_zero, List.set_cons_succ, i64_w, i32_w]
                  rfl
                 refine pure_ (i := 10) (N := some 142) (v := ?_) (a' := ?_) #[true, true, true, true, true, true, true, true, true, true, true, false, false, false, false, false, false, false, false, false, false, false, false, false, false, false, false, false, false, false, false, false, false, false, false, false, false, false, false, false, false, false, false, false, false, false, false, false, false, false, false, false, false, false, false, false] rfl rfl (any_of HT_.out (by kernel_rfl)) (fun _ _ _ h => h) (Or.inl ⟨by rfl, ?_⟩) ?_ ?_
                 rotate_left
                 ·intro w'
                  go_simp
                  with_reducible rfl
                 rotate_left
                 ·simp only [Act.put, List.setIfInBounds_toArray, List.set_cons_zero, List.set_cons_succ, i64_w, i32_w]
                  rfl
                 refine pure_ (i := 11) (N := some 143) (v := ?_) (a' := ?_) #[true, true, true, true, true, true, true, true, true, true, true, true, false, false, false, false, false, false, false, false, false, false, false, false, false, false, false, false, false, false, false, false, false, false, false, false, false, false, false, false, false, false, false, false, false, false, false, false, false, false, false, false, false, false, false, false] rfl rfl (any_of HT_.out (by kernel_rfl)) (fun _ _ _ h => h) (Or.inl ⟨by rfl, ?_⟩) ?_ ?_
                 rotate_left
                 ·intro w'
                  go_simp
                  with_reducible rfl
                 rotate_left
                 ·simp only [Act.put, List.setIfInBounds_toArray, List.set_cons_zero, List.set_cons_succ, i64_w, i32_w]
                  rfl
                 refine pure_ (i := 12) (N := some 144) (v := ?_) (a' := ?_) #[true, true, true, true, true, true, true, true, true, true, true, true, true, false, false, false, false, false, false, false, false, false, false, false, false, false, false, false, false, false, false, false, false, false, false, false, false, false, false, false, false, false, false, false, false, false, false, false, false, false, false, false, false, false, false, false] rfl rfl (any_of HT_.out (by kernel_rfl)) (fun _ _ _ h => h) (Or.inl ⟨by rfl, ?_⟩) ?_ ?_
                 rotate_left
                 ·intro w'
                  go_simp
                  with_reducible rfl
                 rotate_left
                 ·simp only [Act.put, List.setIfInBounds_toArray, List.set_cons_zero, List.set_cons_succ, i64_w, i32_w]
                  rfl
                 refine pure_ (i := 13) (N := some 145) (v := ?_) (a' := ?_) #[true, true, true, true, true, true, true, true, true, true, true, true, true, true, false, false, false, false, false, false, false, false, false, false, false, false, false, false, false, false, false, false, false, false, false, false, false, false, false, false, false, false, false, false, false, false, false, false, false, false, false, false, false, false, false, false] rfl rfl (any_of HT_.out (by kernel_rfl)) (fun _ _ _ h => h) (Or.inl ⟨by rfl, ?_⟩) ?_ ?_
                 rotate_left
                 ·intro w'
                  go_simp
                  with_reducible rfl
                 rotate_left
                 ·simp only [Act.put, List.setIfInBounds_toArray, List.set_cons_zero, List.set_cons_succ, i64_w, i32_w]
                  rfl
                 refine pure_ (i := 14) (N := some 146) (v := ?_) (a' := ?_) #[true, true, true, true, true, true, true, true, true, true, true, true, true, true, true, false, false, false, false, false, false, false, false, false, false, false, false, false, false, false, false, false, false, false, false, false, false, false, false, false, false, false, false, false, false, false, false, false, false, false, false, false, false, false, false, false] rfl rfl (any_of HT_.out (by kernel_rfl)) (fun _ _ _ h => h) (Or.inl ⟨by rfl, ?_⟩) ?_ ?_
                 rotate_left
                 ·intro w'
                  go_simp
                  with_reducible rfl
                 rotate_left
                 ·simp only [Act.put, List.setIfInBounds_toArray, List.set_cons_zero, List.set_cons_succ, i64_w, i32_w]
                  rfl
                 refine pure_ (i := 15) (N := some 147) (v := ?_) (a' := ?_) #[true, true, true, true, true, true, true, true, true, true, true, true, true, true, true, true, false, false, false, false, false, false, false, false, false, false, false, false, false, false, false, false, false, false, false, false, false, false, false, false, false, false, false, false, false, false, false, false, false, false, false, false, false, false, false, false] rfl rfl (any_of HT_.out (by kernel_rfl)) (fun _ _ _ h => h) (Or.inl ⟨by rfl, ?_⟩) ?_ ?_
                 rotate_left
                 ·intro w'
                  go_simp
                  with_reducible rfl
                 rotate_left
                 ·simp only [Act.put, List.setIfInBounds_toArray, List.set_cons_zero, List.set_cons_succ, i64_w, i32_w]
                  rfl
                 refine pure_ (i := 16) (N := some 148) (v := ?_) (a' := ?_) #[true, true, true, true, true, true, true, true, true, true, true, true, true, true, true, true, true, false, false, false, false, false, false, false, false, false, false, false, false, false, false, false, false, false, false, false, false, false, false, false, false, false, false, false, false, false, false, false, false, false, false, false, false, false, false, false] rfl rfl (any_of HT_.out (by kernel_rfl)) (fun _ _ _ h => h) (Or.inl ⟨by rfl, ?_⟩) ?_ ?_
                 rotate_left
                 ·intro w'
                  go_simp
                  with_reducible rfl
                 rotate_left
                 ·simp only [Act.put, List.setIfInBounds_toArray, List.set_cons_zero, List.set_cons_succ, i64_w, i32_w]
                  rfl
                 refine pure_ (i := 17) (N := some 149) (v := ?_) (a' := ?_) #[true, true, true, true, true, true, true, true, true, true, true, true, true, true, true, true, true, true, false, false, false, false, false, false, false, false, false, false, false, false, false, false, false, false, false, false, false, false, false, false, false, false, false, false, false, false, false, false, false, false, false, false, false, false, false, false] rfl rfl (any_of HT_.out (by kernel_rfl)) (fun _ _ _ h => h) (Or.inl ⟨by rfl, ?_⟩) ?_ ?_
                 rotate_left
                 ·intro w'
                  go_simp
                  with_reducible rfl
                 rotate_left
                 ·simp only [Act.put, List.setIfInBounds_toArray, List.set_cons_zero, List.set_cons_succ, i64_w, i32_w]
                  rfl
                 refine pure_ (i := 18) (N := some 150) (v := ?_) (a' := ?_) #[true, true, true, true, true, true, true, true, true, true, true, true, true, true, true, true, true, true, true, false, false, false, false, false, false, false, false, false, false, false, false, false, false, false, false, false, false, false, false, false, false, false, false, false, false, false, false, false, false, false, false, false, false, false, false, false] rfl rfl (any_of HT_.out (by kernel_rfl)) (fun _ _ _ h => h) (Or.inl ⟨by rfl, ?_⟩) ?_ ?_
                 rotate_left
                 ·intro w'
                  go_simp
                  with_reducible rfl
                 rotate_left
                 ·simp only [Act.put, List.setIfInBounds_toArray, List.set_cons_zero, List.set_cons_succ, i64_w, i32_w]
                  rfl
                 refine pure_ (i := 19) (N := some 151) (v := ?_) (a' := ?_) #[true, true, true, true, true, true, true, true, true, true, true, true, true, true, true, true, true, true, true, true, false, false, false, false, false, false, false, false, false, false, false, false, false, false, false, false, false, false, false, false, false, false, false, false, false, false, false, false, false, false, false, false, false, false, false, false] rfl rfl (any_of HT_.out (by kernel_rfl)) (fun _ _ _ h => h) (Or.inl ⟨by rfl, ?_⟩) ?_ ?_
                 rotate_left
                 ·intro w'
                  go_simp
                  with_reducible rfl
                 rotate_left
                 ·simp only [Act.put, List.setIfInBounds_toArray, List.set_cons_zero, List.set_cons_succ, i64_w, i32_w]
                  rfl
                 refine pure_ (i := 20) (N := some 152) (v := ?_) (a' := ?_) #[true, true, true, true, true, true, true, true, true, true, true, true, true, true, true, true, true, true, true, true, true, false, false, false, false, false, false, false, false, false, false, false, false, false, false, false, false, false, false, false, false, false, false, false, false, false, false, false, false, false, false, false, false, false, false, false] rfl rfl (any_of HT_.out (by kernel_rfl)) (fun _ _ _ h => h) (Or.inl ⟨by rfl, ?_⟩) ?_ ?_
                 rotate_left
                 ·intro w'
                  go_simp
                  with_reducible rfl
                 rotate_left
                 ·simp only [Act.put, List.setIfInBounds_toArray, List.set_cons_zero, List.set_cons_succ, i64_w, i32_w]
                  rfl
                 refine pure_ (i := 21) (N := some 153) (v := ?_) (a' := ?_) #[true, true, true, true, true, true, true, true, true, true, true, true, true, true, true, true, true, true, true, true, true, true, false, false, false, false, false, false, false, false, false, false, false, false, false, false, false, false, false, false, false, false, false, false, false, false, false, false, false, false, false, false, false, false, false, false] rfl rfl (any_of HT_.out (by kernel_rfl)) (fun _ _ _ h => h) (Or.inl ⟨by rfl, ?_⟩) ?_ ?_
                 rotate_left
                 ·intro w'
                  go_simp
                  with_reducible rfl
                 rotate_left
                 ·simp only [Act.put, List.setIfInBounds_toArray, List.set_cons_zero, List.set_cons_succ, i64_w, i32_w]
                  rfl
                 refine pure_ (i := 22) (N := some 154) (v := ?_) (a' := ?_) #[true, true, true, true, true, true, true, true, true, true, true, true, true, true, true, true, true, true, true, true, true, true, true, false, false, false, false, false, false, false, false, false, false, false, false, false, false, false, false, false, false, false, false, false, false, false, false, false, false, false, false, false, false, false, false, false] rfl rfl (any_of HT_.out (by kernel_rfl)) (fun _ _ _ h => h) (Or.inl ⟨by rfl, ?_⟩) ?_ ?_
                 rotate_left
                 ·intro w'
                  go_simp
                  with_reducible rfl
                 rotate_left
                 ·simp only [Act.put, List.setIfInBounds_toArray, List.set_cons_zero, List.set_cons_succ, i64_w, i32_w]
                  rfl
                 refine pure_ (i := 23) (N := some 155) (v := ?_) (a' := ?_) #[true, true, true, true, true, true, true, true, true, true, true, true, true, true, true, true, true, true, true, true, true, true, true, true, false, false, false, false, false, false, false, false, false, false, false, false, false, false, false, false, false, false, false, false, false, false, false, false, false, false, false, false, false, false, false, false] rfl rfl (any_of HT_.out (by kernel_rfl)) (fun _ _ _ h => h) (Or.inl ⟨by rfl, ?_⟩) ?_ ?_
                 rotate_left
                 ·intro w'
                  go_simp
                  with_reducible rfl
                 rotate_left
                 ·simp only [Act.put, List.setIfInBounds_toArray, List.set_cons_zero, List.set_cons_succ, i64_w, i32_w]
                  rfl
                 refine pure_ (i := 24) (N := some 156) (v := ?_) (a' := ?_) #[true, true, true, true, true, true, true, true, true, true, true, true, true, true, true, true, true, true, true, true, true, true, true, true, true, false, false, false, false, false, false, false, false, false, false, false, false, false, false, false, false, false, false, false, false, false, false, false, false, false, false, false, false, false, false, false] rfl rfl (any_of HT_.out (by kernel_rfl)) (fun _ _ _ h => h) (Or.inl ⟨by rfl, ?_⟩) ?_ ?_
                 rotate_left
                 ·intro w'
                  go_simp
                  with_reducible rfl
                 rotate_left
                 ·simp only [Act.put, List.setIfInBounds_toArray, List.set_cons_zero, List.set_cons_succ, i64_w, i32_w]
                  rfl
                 refine pure_ (i := 25) (N := some 157) (v := ?_) (a' := ?_) #[true, true, true, true, true, true, true, true, true, true, true, true, true, true, true, true, true, true, true, true, true, true, true, true, true, true, false, false, false, false, false, false, false, false, false, false, false, false, false, false, false, false, false, false, false, false, false, false, false, false, false, false, false, false, false, false] rfl rfl (any_of HT_.out (by kernel_rfl)) (fun _ _ _ h => h) (Or.inl ⟨by rfl, ?_⟩) ?_ ?_
                 rotate_left
                 ·intro w'
                  go_simp
                  with_reducible rfl
                 rotate_left
                 ·simp only [Act.put, List.setIfInBounds_toArray, List.set_cons_zero, List.set_cons_succ, i64_w, i32_w]
                  rfl
                 refine pure_ (i := 26) (N := some 158) (v := ?_) (a' := ?_) #[true, true, true, true, true, true, true, true, true, true, true, true, true, true, true, true, true, true, true, true, true, true, true, true, true, true, true, false, false, false, false, false, false, false, false, false, false, false, false, false, false, false, false, false, false, false, false, false, false, false, false, false, false, false, false, false] rfl rfl (any_of HT_.out (by kernel_rfl)) (fun _ _ _ h => h) (Or.inl ⟨by rfl, ?_⟩) ?_ ?_
                 rotate_left
                 ·intro w'
                  go_simp
                  with_reducible rfl
                 rotate_left
                 ·simp only [Act.put, List.setIfInBounds_toArray, List.set_cons_zero, List.set_cons_succ, i64_w, i32_w]
                  rfl
                 refine pure_ (i := 27) (N := some 159) (v := ?_) (a' := ?_) #[true, true, true, true, true, true, true, true, true, true, true, true, true, true, true, true, true, true, true, true, true, true, true, true, true, true, true, true, false, false, false, false, false, false, false, false, false, false, false, false, false, false, false, false, false, false, false, false, false, false, false, false, false, false, false, false] rfl rfl (any_of HT_.out (by kernel_rfl)) (fun _ _ _ h => h) (Or.inl ⟨by rfl, ?_⟩) ?_ ?_
                 rotate_left
                 ·intro w'
                  go_simp
                  with_reducible rfl
                 rotate_left
                 ·simp only [Act.put, List.setIfInBounds_toArray, List.set_cons_zero, List.set_cons_succ, i64_w, i32_w]
                  rfl
                 refine pure_ (i := 28) (N := some 160) (v := ?_) (a' := ?_) #[true, true, true, true, true, true, true, true, true, true, true, true, true, true, true, true, true, true, true, true, true, true, true, true, true, true, true, true, true, false, false, false, false, false, false, false, false, false, false, false, false, false, false, false, false, false, false, false, false, false, false, false, false, false, false, false] rfl rfl (any_of HT_.out (by kernel_rfl)) (fun _ _ _ h => h) (Or.inl ⟨by rfl, ?_⟩) ?_ ?_
                 rotate_left
                 ·intro w'
                  go_simp
                  with_reducible rfl
                 rotate_left
                 ·simp only [Act.put, List.setIfInBounds_toArray, List.set_cons_zero, List.set_cons_succ, i64_w, i32_w]
                  rfl
                 refine pure_ (i := 29) (N := some 161) (v := ?_) (a' := ?_) #[true, true, true, true, true, true, true, true, true, true, true, true, true, true, true, true, true, true, true, true, true, true, true, true, true, true, true, true, true, true, false, false, false, false, false, false, false, false, false, false, false, false, false, false, false, false, false, false, false, false, false, false, false, false, false, false] rfl rfl (any_of HT_.out (by kernel_rfl)) (fun _ _ _ h => h) (Or.inl ⟨by rfl, ?_⟩) ?_ ?_
                 rotate_left
                 ·intro w'
                  go_simp
                  with_reducible rfl
                 rotate_left
                 ·simp only [Act.put, List.setIfInBounds_toArray, List.set_cons_zero, List.set_cons_succ, i64_w, i32_w]
                  rfl
                 refine pure_ (i := 30) (N := some 162) (v := ?_) (a' := ?_) #[true, true, true, true, true, true, true, true, true, true, true, true, true, true, true, true, true, true, true, true, true, true, true, true, true, true, true, true, true, true, true, false, false, false, false, false, false, false, false, false, false, false, false, false, false, false, false, false, false, false, false, false, false, false, false, false] rfl rfl (any_of HT_.out (by kernel_rfl)) (fun _ _ _ h => h) (Or.inl ⟨by rfl, ?_⟩) ?_ ?_
                 rotate_left
                 ·intro w'
                  go_simp
                  with_reducible rfl
                 rotate_left
                 ·simp only [Act.put, List.setIfInBounds_toArray, List.set_cons_zero, List.set_cons_succ, i64_w, i32_w]
                  rfl
                 refine pure_ (i := 31) (N := some 163) (v := ?_) (a' := ?_) #[true, true, true, true, true, true, true, true, true, true, true, true, true, true, true, true, true, true, true, true, true, true, true, true, true, true, true, true, true, true, true, true, false, false, false, false, false, false, false, false, false, false, false, false, false, false, false, false, false, false, false, false, false, false, false, false] rfl rfl (any_of HT_.out (by kernel_rfl)) (fun _ _ _ h => h) (Or.inl ⟨by rfl, ?_⟩) ?_ ?_
                 rotate_left
                 ·intro w'
                  go_simp
                  with_reducible rfl
                 rotate_left
                 ·simp only [Act.put, List.setIfInBounds_toArray, List.set_cons_zero, List.set_cons_succ, i64_w, i32_w]
                  rfl
                 refine pure_ (i := 32) (N := some 164) (v := undef) (a' := ?_) #[true, true, true, true, true, true, true, true, true, true, true, true, true, true, true, true, true, true, true, true, true, true, true, true, true, true, true, true, true, true, true, true, true, false, false, false, false, false, false, false, false, false, false, false, false, false, false, false, false, false, false, false, false, false, false, false] rfl rfl (any_of HT_.out (by kernel_rfl)) (fun _ _ _ h => h) (Or.inr ⟨by rfl, rfl⟩) ?_ ?_
                 rotate_left
                 ·simp only [Act.put, List.setIfInBounds_toArray, List.set_cons_zero, List.set_cons_succ, i64_w, i32_w]
                  rfl
                 refine pure_ (i := 33) (N := some 165) (v := undef) (a' := ?_) #[true, true, true, true, true, true, true, true, true, true, true, true, true, true, true, true, true, true, true, true, true, true, true, true, true, true, true, true, true, true, true, true, true, true, false, false, false, false, false, false, false, false, false, false, false, false, false, false, false, false, false, false, false, false, false, false] rfl rfl (any_of HT_.out (by kernel_rfl)) (fun _ _ _ h => h) (Or.inr ⟨by rfl, rfl⟩) ?_ ?_
                 rotate_left
                 ·simp only [Act.put, List.setIfInBounds_toArray, List.set_cons_zero, List.set_cons_succ, i64_w, i32_w]
                  rfl
                 refine pure_ (i := 34) (N := some 166) (v := undef) (a' := ?_) #[true, true, true, true, true, true, true, true, true, true, true, true, true, true, true, true, true, true, true, true, true, true, true, true, true, true, true, true, true, true, true, true, true, true, true, false, false, false, false, false, false, false, false, false, false, false, false, false, false, false, false, false, false, false, false, false] rfl rfl (any_of HT_.out (by kernel_rfl)) (fun _ _ _ h => h) (Or.inr ⟨by rfl, rfl⟩) ?_ ?_
                 rotate_left
                 ·simp only [Act.put, List.setIfInBounds_toArray, List.set_cons_zero, List.set_cons_succ, i64_w, i32_w]
                  rfl
                 refine pure_ (i := 35) (N := some 167) (v := ?_) (a' := ?_) #[true, true, true, true, true, true, true, true, true, true, true, true, true, true, true, true, true, true, true, true, true, true, true, true, true, true, true, true, true, true, true, true, true, true, true, true, false, false, false, false, false, false, false, false, false, false, false, false, false, false, false, false, false, false, false, false] rfl rfl (any_of HT_.out (by kernel_rfl)) (fun _ _ _ h => h) (Or.inl ⟨by rfl, ?_⟩) ?_ ?_
                 rotate_left
                 ·intro w'
                  go_simp
                  with_reducible rfl
                 rotate_left
                 ·simp only [Act.put, List.setIfInBounds_toArray, List.set_cons_zero, List.set_cons_succ, i64_w, i32_w]
                  rfl
                 refine pure_ (i := 36) (N := some 168) (v := ?_) (a' := ?_) #[true, true, true, true, true, true, true, true, true, true, true, true, true, true, true, true, true, true, true, true, true, true, true, true, true, true, true, true, true, true, true, true, true, true, true, true, true, false, false, false, false, false, false, false, false, false, false, false, false, false, false, false, false, false, false, false] rfl rfl (any_of HT_.out (by kernel_rfl)) (fun _ _ _ h => h) (Or.inl ⟨by rfl, ?_⟩) ?_ ?_
                 rotate_left
                 ·intro w'
                  go_simp
                  with_reducible rfl
                 rotate_left
                 ·simp only [Act.put, List.setIfInBounds_toArray, List.set_cons_zero, List.set_cons_succ, i64_w, i32_w]
                  rfl
                 refine pure_ (i := 37) (N := some 169) (v := ?_) (a' := ?_) #[true, true, true, true, true, true, true, true, true, true, true, true, true, true, true, true, true, true, true, true, true, true, true, true, true, true, true, true, true, true, true, true, true, true, true, true, true, true, false, false, false, false, false, false, false, false, false, false, false, false, false, false, false, false, false, false] rfl rfl (any_of HT_.out (by kernel_rfl)) (fun _ _ _ h => h) (Or.inl ⟨by rfl, ?_⟩) ?_ ?_
                 rotate_left
                 ·intro w'
                  go_simp
                  with_reducible rfl
                 rotate_left
                 ·simp only [Act.put, List.setIfInBounds_toArray, List.set_cons_zero, List.set_cons_succ, i64_w, i32_w]
                  rfl
                 refine pure_ (i := 38) (N := some 170) (v := ?_) (a' := ?_) #[true, true, true, true, true, true, true, true, true, true, true, true, true, true, true, true, true, true, true, true, true, true, true, true, true, true, true, true, true, true, true, true, true, true, true, true, true, true, true, false, false, false, false, false, false, false, false, false, false, false, false, false, false, false, false, false] rfl rfl (any_of HT_.out (by kernel_rfl)) (fun _ _ _ h => h) (Or.inl ⟨by rfl, ?_⟩) ?_ ?_
                 rotate_left
                 ·intro w'
                  go_simp
                  with_reducible rfl
                 rotate_left
                 ·simp only [Act.put, List.setIfInBounds_toArray, List.set_cons_zero, List.set_cons_succ, i64_w, i32_w]
                  rfl
                 refine pure_ (i := 39) (N := some 171) (v := ?_) (a' := ?_) #[true, true, true, true, true, true, true, true, true, true, true, true, true, true, true, true, true, true, true, true, true, true, true, true, true, true, true, true, true, true, true, true, true, true, true, true, true, true, true, true, false, false, false, false, false, false, false, false, false, false, false, false, false, false, false, false] rfl rfl (any_of HT_.out (by kernel_rfl)) (fun _ _ _ h => h) (Or.inl ⟨by rfl, ?_⟩) ?_ ?_
                 rotate_left
                 ·intro w'
                  go_simp
                  with_reducible rfl
                 rotate_left
                 ·simp only [Act.put, List.setIfInBounds_toArray, List.set_cons_zero, List.set_cons_succ, i64_w, i32_w]
                  rfl
                 refine pure_ (i := 40) (N := some 172) (v := ?_) (a' := ?_) #[true, true, true, true, true, true, true, true, true, true, true, true, true, true, true, true, true, true, true, true, true, true, true, true, true, true, true, true, true, true, true, true, true, true, true, true, true, true, true, true, true, false, false, false, false, false, false, false, false, false, false, false, false, false, false, false] rfl rfl (any_of HT_.out (by kernel_rfl)) (fun _ _ _ h => h) (Or.inl ⟨by rfl, ?_⟩) ?_ ?_
                 rotate_left
                 ·intro w'
                  go_simp
                  with_reducible rfl
                 rotate_left
                 ·simp only [Act.put, List.setIfInBounds_toArray, List.set_cons_zero, List.set_cons_succ, i64_w, i32_w]
                  rfl
                 refine pure_ (i := 41) (N := some 173) (v := ?_) (a' := ?_) #[true, true, true, true, true, true, true, true, true, true, true, true, true, true, true, true, true, true, true, true, true, true, true, true, true, true, true, true, true, true, true, true, true, true, true, true, true, true, true, true, true, true, false, false, false, false, false, false, false, false, false, false, false, false, false, false] rfl rfl (any_of HT_.out (by kernel_rfl)) (fun _ _ _ h => h) (Or.inl ⟨by rfl, ?_⟩) ?_ ?_
                 rotate_left
                 ·intro w'
                  go_simp
                  with_reducible rfl
                 rotate_left
                 ·simp only [Act.put, List.setIfInBounds_toArray, List.set_cons_zero, List.set_cons_succ, i64_w, i32_w]
                  rfl
                 refine pure_ (i := 42) (N := some 174) (v := ?_) (a' := ?_) #[true, true, true, true, true, true, true, true, true, true, true, true, true, true, true, true, true, true, true, true, true, true, true, true, true, true, true, true, true, true, true, true, true, true, true, true, true, true, true, true, true, true, true, false, false, false, false, false, false, false, false, false, false, false, false, false] rfl rfl (any_of HT_.out (by kernel_rfl)) (fun _ _ _ h => h) (Or.inl ⟨by rfl, ?_⟩) ?_ ?_
                 rotate_left
                 ·intro w'
                  go_simp
                  with_reducible rfl
                 rotate_left
                 ·simp only [Act.put, List.setIfInBounds_toArray, List.set_cons_zero, List.set_cons_succ, i64_w, i32_w]
                  rfl
                 refine pure_ (i := 43) (N := some 175) (v := ?_) (a' := ?_) #[true, true, true, true, true, true, true, true, true, true, true, true, true, true, true, true, true, true, true, true, true, true, true, true, true, true, true, true, true, true, true, true, true, true, true, true, true, true, true, true, true, true, true, true, false, false, false, false, false, false, false, false, false, false, false, false] rfl rfl (any_of HT_.out (by kernel_rfl)) (fun _ _ _ h => h) (Or.inl ⟨by rfl, ?_⟩) ?_ ?_
                 rotate_left
                 ·intro w'
                  go_simp
                  with_reducible rfl
                 rotate_left
                 ·simp only [Act.put, List.setIfInBounds_toArray, List.set_cons_zero, List.set_cons_succ, i64_w, i32_w]
                  rfl
                 refine pure_ (i := 45) (N := some 177) (v := ?_) (a' := ?_) #[true, true, true, true, true, true, true, true, true, true, true, true, true, true, true, true, true, true, true, true, true, true, true, true, true, true, true, true, true, true, true, true, true, true, true, true, true, true, true, true, true, true, true, true, false, true, false, false, false, false, false, false, false, false, false, false] rfl rfl (any_of HT_.out (by kernel_rfl)) (fun _ _ _ h => h) (Or.inl ⟨by rfl, ?_⟩) ?_ ?_
                 rotate_left
                 ·intro w'
                  go_simp
                  with_reducible rfl
                 rotate_left
                 ·simp only [Act.put, List.setIfInBounds_toArray, List.set_cons_zero, List.set_cons_succ, i64_w, i32_w]
                  rfl
                 refine pure_ (i := 48) (N := some 180) (v := ?_) (a' := ?_) #[true, true, true, true, true, true, true, true, true, true, true, true, true, true, true, true, true, true, true, true, true, true, true, true, true, true, true, true, true, true, true, true, true, true, true, true, true, true, true, true, true, true, true, true, false, true, false, false, true, false, false, false, false, false, false, false] rfl rfl (any_of HT_.out (by kernel_rfl)) (fun _ _ _ h => h) (Or.inl ⟨by rfl, ?_⟩) ?_ ?_
                 rotate_left
                 ·intro w'
                  go_simp
                  with_reducible rfl
                 rotate_left
                 ·simp only [Act.put, List.setIfInBounds_toArray, List.set_cons_zero, List.set_cons_succ, i64_w, i32_w]
                  rfl
                 refine take_ (i := 44) (N := some 176) (v := ?_) (a' := ?_) #[true, true, true, true, true, true, true, true, true, true, true, true, true, true, true, true, true, true, true, true, true, true, true, true, true, true, true, true, true, true, true, true, true, true, true, true, true, true, true, true, true, true, true, true, true, true, false, false, true, false, false, false, false, false, false, false] rfl rfl (take_ofW HT_.out HW_.out (by kernel_rfl)) (fun _ _ _ h => h) (Or.inl ⟨by rfl, ?_⟩) hHeld ?_ ?_
                 rotate_left
                 ·rintro w' ⟨s0, s1, s2, s3, s4⟩
                  go_simp
                  with_reducible rfl
                 rotate_left
                 ·simp only [Act.put, List.setIfInBounds_toArray, List.set_cons_zero, List.set_cons_succ, i64_w, i32_w]
                  rfl
                 refine take_ (i := 46) (N := some 178) (v := ?_) (a' := ?_) #[true, true, true, true, true, true, true, true, true, true, true, true, true, true, true, true, true, true, true, true, true, true, true, true, true, true, true, true, true, true, true, true, true, true, true, true, true, true, true, true, true, true, true, true, true, true, true, false, true, false, false, false, false, false, false, false] rfl rfl (take_ofW HT_.out HW_.out (by kernel_rfl)) (fun _ _ _ h => h) (Or.inl ⟨by rfl, ?_⟩) hHeld ?_ ?_
                 rotate_left
                 ·rintro w' ⟨s0, s1, s2, s3, s4⟩
                  go_simp
                  with_reducible rfl
                 rotate_left
                 ·simp only [Act.put, List.setIfInBounds_toArray, List.set_cons_zero, List.set_cons_succ, i64_w, i32_w]
                  rfl
                 refine pure_ (i := 47) (N := some 179) (v := ?_) (a' := ?_) #[true, true, true, true, true, true, true, true, true, true, true, true, true, true, true, true, true, true, true, true, true, true, true, true, true, true, true, true, true, true, true, true, true, true, true, true, true, true, true, true, true, true, true, true, true, true, true, true, true, false, false, false, false, false, false, false] rfl rfl (any_of HT_.out (by kernel_rfl)) (fun _ _ _ h => h) (Or.inl ⟨by rfl, ?_⟩) ?_ ?_
                 rotate_left
                 ·intro w'
                  go_simp
                  with_reducible rfl
                 rotate_left
                 ·simp only [Act.put, List.setIfInBounds_toArray, List.set_cons_zero, List.set_cons_succ, i64_w, i32_w]
                  rfl
                 refine take_ (i := 49) (N := some 181) (v := ?_) (a' := ?_) #[true, true, true, true, true, true, true, true, true, true, true, true, true, true, true, true, true, true, true, true, true, true, true, true, true, true, true, true, true, true, true, true, true, true, true, true, true, true, true, true, true, true, true, true, true, true, true, true, true, true, false, false, false, false, false, false] rfl rfl (take_ofW HT_.out HW_.out (by kernel_rfl)) (fun _ _ _ h => h) (Or.inl ⟨by rfl, ?_⟩) hHeld ?_ ?_
                 rotate_left
                 ·rintro w' ⟨s0, s1, s2, s3, s4⟩
                  go_simp
                  with_reducible rfl
                 rotate_left
                 ·simp only [Act.put, List.setIfInBounds_toArray, List.set_cons_zero, List.set_cons_succ, i64_w, i32_w]
                  rfl
                 refine one_ (i := 50) (N := some 182) #[true, true, true, true, true, true, true, true, true, true, true, true, true, true, true, true, true, true, true, true, true, true, true, true, true, true, true, true, true, true, true, true, true, true, true, true, true, true, true, true, true, true, true, true, true, true, true, true, true, true, true, false, false, false, false, false] rfl rfl (one_of HT_.out (by kernel_rfl)) (by decide) (fun K hK => ?_)
                 refine goes_ Try.func28 (by kernel_rfl) rfl #[.agg #[.int .i64 t960, .int .i64 t961, .slice Ao17 t962.length co17]] (by rfl) rfl rfl arr_ ?_
                 with_reducible refine (impl_RoundOf.calls kj12 t960 t961 _ _ t962 t998 _ ?side1 ?side2 A105.out).mono ?_
                 (case side1 => repeat (first | exact (Kd.R_reads' HO_968002.out).2.2 | (with_reducible refine Kd.C_alloc ?_ _) | (with_reducible refine Kd.C_drewN ?_ _) | (with_reducible refine Kd.C_drew ?_)))
                 (case side2 => exact (Kd.R_reads' HO_968002.out).2.1)
                 rintro e w123 ⟨rfl, hb⟩
                 refine ⟨_, rfl, ?_⟩
                 have n0_ := am_ (Kd.R_below (by (with_reducible repeat (first | apply Kd.R_alloc | apply Kd.R_drewN | apply Kd.R_drew)); exact HO_968002.out) hb)
                 have n1_ := am_ (bb_ BK967.out hb)
                 have n2_ := am_ (bb_ BK971.out hb)
                 have n3_ := am_ (bb_ BK975.out hb)
                 have n4_ := am_ (bb_ BK985.out hb)
                 have n5_ := am_ (below_step (hb4_ HB.out GE967.out GE971.out GE975.out GE985.out) hb)
                 clear HO_968002
                 clear BK967
                 clear BK971
                 clear BK975
                 clear BK985
                 clear HB
                 have HO_968002 := n0_
                 have BK967 := n1_
                 have BK971 := n2_
                 have BK975 := n3_
                 have BK985 := n4_
                 have HB := n5_
                 clear n0_ n1_ n2_ n3_ n4_ n5_
                 (try clear hb)
                 (try clear hb2)
                 (try clear hk)
                 (try clear hi)
                 refine hK.out _ _ ⟨(blk_cell BK971.out 0).trans rfl, (blk_cell BK971.out 1).trans rfl, (blk_cell BK967.out 0).trans rfl, (blk_cell BK967.out 1).trans rfl, (blk_cell BK967.out 2).trans rfl⟩ (fun hHeld => ?_)
                 clear hK K
                 refine norm_ (a' := ?_) ?_ ?_
                 rotate_left
                 ·show Act.put _ (some 182) _ = _
                  simp only [Act.put, List.setIfInBounds_toArray, List.set_cons_zero, List.set_cons_succ, i64_w, i32_w]
                  rfl
                 refine pure_ (i := 51) (N := some 183) (v := ?_) (a' := ?_) #[true, true, true, true, true, true, true, true, true, true, true, true, true, true, true, true, true, true, true, true, true, true, true, true, true, true, true, true, true, true, true, true, true, true, true, true, true, true, true, true, true, true, true, true, true, true, true, true, true, true, true, true, false, false, false, false] rfl rfl (any_of HT_.out (by kernel_rfl)) (fun _ _ _ h => h) (Or.inl ⟨by rfl, ?_⟩) ?_ ?_
                 rotate_left
                 ·intro w'
                  go_simp
                  with_reducible rfl
                 rotate_left
                 ·simp only [Act.put, List.setIfInBounds_toArray, List.set_cons_zero, List.set_cons_succ, i64_w, i32_w]
                  rfl
                 refine pure_ (i := 52) (N := some 184) (v := ?_) (a' := ?_) #[true, true, true, true, true, true, true, true, true, true, true, true, true, true, true, true, true, true, true, true, true, true, true, true, true, true, true, true, true, true, true, true, true, true, true, true, true, true, true, true, true, true, true, true, true, true, true, true, true, true, true, true, true, false, false, false] rfl rfl (any_of HT_.out (by kernel_rfl)) (fun _ _ _ h => h) (Or.inl ⟨by rfl, ?_⟩) ?_ ?_
                 rotate_left
                 ·intro w'
                  go_simp
                  with_reducible rfl
                 rotate_left
                 ·simp only [Act.put, List.setIfInBounds_toArray, List.set_cons_zero, List.set_cons_succ, i64_w, i32_w]
                  rfl
                 refine pure_ (i := 53) (N := some 185) (v := ?_) (a' := ?_) #[true, true, true, true, true, true, true, true, true, true, true, true, true, true, true, true, true, true, true, true, true, true, true, true, true, true, true, true, true, true, true, true, true, true, true, true, true, true, true, true, true, true, true, true, true, true, true, true, true, true, true, true, true, true, false, false] rfl rfl (any_of HT_.out (by kernel_rfl)) (fun _ _ _ h => h) (Or.inl ⟨by rfl, ?_⟩) ?_ ?_
                 rotate_left
                 ·intro w'
                  go_simp
                  with_reducible rfl
                 rotate_left
                 ·simp only [Act.put, List.setIfInBounds_toArray, List.set_cons_zero, List.set_cons_succ, i64_w, i32_w]
                  rfl
                 refine pure_ (i := 54) (N := some 186) (v := ?_) (a' := ?_) #[true, true, true, true, true, true, true, true, true, true, true, true, true, true, true, true, true, true, true, true, true, true, true, true, true, true, true, true, true, true, true, true, true, true, true, true, true, true, true, true, true, true, true, true, true, true, true, true, true, true, true, true, true, true, true, false] rfl rfl (any_of HT_.out (by kernel_rfl)) (fun _ _ _ h => h) (Or.inl ⟨by rfl, ?_⟩) ?_ ?_
                 rotate_left
                 ·intro w'
                  go_simp
                  with_reducible rfl
                 rotate_left
                 ·simp only [Act.put, List.setIfInBounds_toArray, List.set_cons_zero, List.set_cons_succ, i64_w, i32_w]
                  rfl
                 refine pure_ (i := 55) (N := some 2) (v := ?_) (a' := ?_) #[true, true, true, true, true, true, true, true, true, true, true, true, true, true, true, true, true, true, true, true, true, true, true, true, true, true, true, true, true, true, true, true, true, true, true, true, true, true, true, true, true, true, true, true, true, true, true, true, true, true, true, true, true, true, true, true] rfl rfl (any_of HT_.out (by kernel_rfl)) (fun _ _ _ h => h) (Or.inl ⟨by rfl, ?_⟩) ?_ ?_
                 rotate_left
                 ·intro w'
                  go_simp
                  with_reducible rfl
                 rotate_left
                 ·simp only [Act.put, List.setIfInBounds_toArray, List.set_cons_zero, List.set_cons_succ, i64_w, i32_w]
                  rfl
                 refine done_ (done_of HT_.out (by kernel_rfl)) ?_
                 try go_wp2
                 go_ret
                 exact ⟨er_, hb4_ HB.out GE967.out GE971.out GE975.out GE985.out⟩
                ·replace c104 := Bool.eq_false_iff.mpr c104
                 subst c104
                 have H1 : (some false) = some r := by rw [if_neg (show ¬ (false = true) by decide)] at H; exact H
                 clear H
                 have H := H1
                 clear H1
                 obtain rfl := Option.some.inj H
                 exact absurd hr_ (by decide)
              ·replace c81 := Bool.eq_false_iff.mpr c81
               subst c81
               have H1 : (if t996 = true then ((impl_RoundOf.f kj12 t960 t961 t962).bind fun t999 => (some (t995 == (wrap64 ((wrap64 (t968 - t960)) - (wrap64 (t966 * t999))))))) else (some false)) = some r := by rw [if_neg (show ¬ (false = true) by decide)] at H; exact H
               clear H
               have H := H1
               clear H1
               by_cases c124 : t996 = true
               ·subst c124
                have H1 : ((impl_RoundOf.f kj12 t960 t961 t962).bind fun t999 => (some (t995 == (wrap64 ((wrap64 (t968 - t960)) - (wrap64 (t966 * t999))))))) = some r := by rw [if_pos rfl] at H; exact H
                clear H
                have H := H1
                clear H1
                replace H := Option.bind_eq_some_iff.mp H
                obtain ⟨t999, A1250, H⟩ := H
                replace H : (some (t995 == (wrap64 ((wrap64 (t968 - t960)) - (wrap64 (t966 * t999)))))) = some r := H
                have A125 := Aside0.mk A1250
                clear A1250
                obtain rfl := Option.some.inj H
                have hnb126 := NB967_971.out
                have hnc126 := NB971_967.out
                have hnb127 := NB967_975.out
                have hnc127 := NB975_967.out
                have hnb128 := NB967_985.out
                have hnc128 := NB985_967.out
                have hcz129_0 := bc_ BK967.out 0 (.int .i64 t960) rfl
                have hcz129_1 := bc_ BK967.out 1 (.int .i64 t961) rfl
                have hcz129_2 := bc_ BK967.out 2 (.slice Ao17 t962.length co17) rfl
                have hfz129_0 := blk_frozen BK967.out 0
                have hfz129_1 := blk_frozen BK967.out 1
                have hfz129_2 := blk_frozen BK967.out 2
                have hnb130 := NB971_975.out
                have hnc130 := NB975_971.out
                have hnb131 := NB971_985.out
                have hnc131 := NB985_971.out
                have hcz132_0 := bc_ BK971.out 0 (.int .i64 t968) rfl
                have hcz132_1 := bc_ BK971.out 1 (.int .i64 t969) rfl
                have hfz132_0 := blk_frozen BK971.out 0
                have hfz132_1 := blk_frozen BK971.out 1
                try go_wp2_with (first | ((with_reducible refine gate_callee (f := 29) rfl ?_); refine gl_ Try.func29 #[.agg #[.int .i64 t960, .int .i64 t961, .slice Ao17 t962.length co17], .int .i64 t968] ?_; (with_reducible refine (impl_SlotAt.calls kj12 t960 t961 _ _ t962 t968 t986 t987 true _ ?side1 ?side2 A71.out).mono ?_); (case side1 => repeat (first | exact (Kd.R_reads' HO_968002.out).2.2 | (with_reducible refine Kd.C_alloc ?_ _) | (with_reducible refine Kd.C_drewN ?_ _) | (with_reducible refine Kd.C_drew ?_))); (case side2 => exact (Kd.R_reads' HO_968002.out).2.1); rintro e w133 ⟨rfl, hb⟩; refine ⟨_, rfl, ?_⟩; replace HO_968002 := am_ (Kd.R_below (by (with_reducible repeat (first | apply Kd.R_alloc | apply Kd.R_drewN | apply Kd.R_drew)); exact HO_968002.out) hb); replace BK967 := am_ (bb_ BK967.out hb); replace BK971 := am_ (bb_ BK971.out hb); replace BK975 := am_ (bb_ BK975.out hb); replace BK985 := am_ (bb_ BK985.out hb); replace HB := am_ (below_step (hb4_ HB.out GE967.out GE971.out GE975.out GE985.out) hb); (try clear hb); (try clear hb2); (try clear hk); (try clear hi); obtain ⟨hcz134_0, hcz134_1, hcz134_2, hfz134_0, hfz134_1, hfz134_2⟩ := bc3_ BK967.out; obtain ⟨hcz135_0, hcz135_1, hfz135_0, hfz135_1⟩ := bc2_ BK971.out) | ((with_reducible refine gate_callee (f := 29) rfl ?_); refine gl_ Try.func29 #[.agg #[.int .i64 t960, .int .i64 t961, .slice Ao17 t962.length co17], .int .i64 (wrap64 (t969 - 1))] ?_; (with_reducible refine (impl_SlotAt.calls kj12 t960 t961 _ _ t962 (wrap64 (t969 - 1)) t989 t990 true _ ?side1 ?side2 A72.out).mono ?_); (case side1 => repeat (first | exact (Kd.R_reads' HO_968002.out).2.2 | (with_reducible refine Kd.C_alloc ?_ _) | (with_reducible refine Kd.C_drewN ?_ _) | (with_reducible refine Kd.C_drew ?_))); (case side2 => exact (Kd.R_reads' HO_968002.out).2.1); rintro e w136 ⟨rfl, hb⟩; refine ⟨_, rfl, ?_⟩; replace HO_968002 := am_ (Kd.R_below (by (with_reducible repeat (first | apply Kd.R_alloc | apply Kd.R_drewN | apply Kd.R_drew)); exact HO_968002.out) hb); replace BK967 := am_ (bb_ BK967.out hb); replace BK971 := am_ (bb_ BK971.out hb); replace BK975 := am_ (bb_ BK975.out hb); replace BK985 := am_ (bb_ BK985.out hb); replace HB := am_ (below_step (hb4_ HB.out GE967.out GE971.out GE975.out GE985.out) hb); (try clear hb); (try clear hb2); (try clear hk); (try clear hi); obtain ⟨hcz137_0, hcz137_1, hcz137_2, hfz137_0, hfz137_1, hfz137_2⟩ := bc3_ BK967.out; obtain ⟨hcz138_0, hcz138_1, hfz138_0, hfz138_1⟩ := bc2_ BK971.out) | ((with_reducible refine gate_callee (f := 29) rfl ?_); refine gl_ Try.func29 #[.agg #[.int .i64 t960, .int .i64 t961, .slice Ao17 t962.length co17], .int .i64 t969] ?_; (with_reducible refine (impl_SlotAt.calls kj12 t960 t961 _ _ t962 t969 t992 t993 false _ ?side1 ?side2 A73.out).mono ?_); (case side1 => repeat (first | exact (Kd.R_reads' HO_968002.out).2.2 | (with_reducible refine Kd.C_alloc ?_ _) | (with_reducible refine Kd.C_drewN ?_ _) | (with_reducible refine Kd.C_drew ?_))); (case side2 => exact (Kd.R_reads' HO_968002.out).2.1); rintro e w139 ⟨rfl, hb⟩; refine ⟨_, rfl, ?_⟩; replace HO_968002 := am_ (Kd.R_below (by (with_reducible repeat (first | apply Kd.R_alloc | apply Kd.R_drewN | apply Kd.R_drew)); exact HO_968002.out) hb); replace BK967 := am_ (bb_ BK967.out hb); replace BK971 := am_ (bb_ BK971.out hb); replace BK975 := am_ (bb_ BK975.out hb); replace BK985 := am_ (bb_ BK985.out hb); replace HB := am_ (below_step (hb4_ HB.out GE967.out GE971.out GE975.out GE985.out) hb); (try clear hb); (try clear hb2); (try clear hk); (try clear hi); obtain ⟨hcz140_0, hcz140_1, hcz140_2, hfz140_0, hfz140_1, hfz140_2⟩ := bc3_ BK967.out) | ((with_reducible refine gate_callee (f := 30) rfl ?_); refine gl_ Try.func30 #[.agg #[.int .i64 t960, .int .i64 t961, .slice Ao17 t962.length co17], .int .i64 t965] ?_; (with_reducible refine (impl_SlotFrom.calls kj12 t960 t961 _ _ t962 t965 t995 true _ ?side1 ?side2 A74.out).mono ?_); (case side1 => repeat (first | exact (Kd.R_reads' HO_968002.out).2.2 | (with_reducible refine Kd.C_alloc ?_ _) | (with_reducible refine Kd.C_drewN ?_ _) | (with_reducible refine Kd.C_drew ?_))); (case side2 => exact (Kd.R_reads' HO_968002.out).2.1); rintro e w141 ⟨rfl, hb⟩; refine ⟨_, rfl, ?_⟩; replace HO_968002 := am_ (Kd.R_below (by (with_reducible repeat (first | apply Kd.R_alloc | apply Kd.R_drewN | apply Kd.R_drew)); exact HO_968002.out) hb); replace BK967 := am_ (bb_ BK967.out hb); replace BK971 := am_ (bb_ BK971.out hb); replace BK975 := am_ (bb_ BK975.out hb); replace BK985 := am_ (bb_ BK985.out hb); replace HB := am_ (below_step (hb4_ HB.out GE967.out GE971.out GE975.out GE985.out) hb); (try clear hb); (try clear hb2); (try clear hk); (try clear hi)))
                have n0_ := am_ (Kd.R_drew HO_968002.out)
                have n1_ := am_ (blk_drew BK967.out)
                have n2_ := am_ (blk_drew BK971.out)
                have n3_ := am_ (blk_drew BK975.out)
                have n4_ := am_ (blk_drew BK985.out)
                have n5_ := am_ (below_drew1 HB.out)
                clear HO_968002
                clear BK967
                clear BK971
                clear BK975
                clear BK985
                clear HB
                have HO_968002 := n0_
                have BK967 := n1_
                have BK971 := n2_
                have BK975 := n3_
                have BK985 := n4_
                have HB := n5_
                clear n0_ n1_ n2_ n3_ n4_ n5_
                refine start_ (n := 56) (S := fun w' => w'.cell? ⟨gb971, 0, none⟩ = some (.int .i64 t968) ∧ w'.cell? ⟨gb971, 1, none⟩ = some (.int .i64 t969) ∧ w'.cell? ⟨gb967, 0, none⟩ = some (.int .i64 t960) ∧ w'.cell? ⟨gb967, 1, none⟩ = some (.int .i64 t961) ∧ w'.cell? ⟨gb967, 2, none⟩ = some (.slice Ao17 t962.length co17)) (ds := []) #[false, false, false, false, false, false, false, false, false, false, false, false, false, false, false, false, false, false, false, false, false, false, false, false, false, false, false, false, false, false, false, false, false, false, false, false, false, false, false, false, false, false, false, false, false, false, false, false, false, false, false, false, false, false, false, false] (by kernel_rfl) rfl rfl ⟨(blk_cell BK971.out 0).trans rfl, (blk_cell BK971.out 1).trans rfl, (blk_cell BK967.out 0).trans rfl, (blk_cell BK967.out 1).trans rfl, (blk_cell BK967.out 2).trans rfl⟩ (fun hHeld => ?_); refine with_tabW laws_FnApart.tab19 laws_FnApart.bits19 (fun HT_ HW_ => ?_)
                generalize w141.drew = w142 at HO_968002 BK967 BK971 BK975 BK985 HB hHeld ⊢
                refine pure_ (i := 0) (N := some 132) (v := ?_) (a' := ?_) #[true, false, false, false, false, false, false, false, false, false, false, false, false, false, false, false, false, false, false, false, false, false, false, false, false, false, false, false, false, false, false, false, false, false, false, false, false, false, false, false, false, false, false, false, false, false, false, false, false, false, false, false, false, false, false, false] rfl rfl (any_of HT_.out (by kernel_rfl)) (fun _ _ _ h => h) (Or.inl ⟨by rfl, ?_⟩) ?_ ?_
                rotate_left
                ·intro w'
                 go_simp
                 with_reducible rfl
                rotate_left
                ·simp only [Act.put, List.setIfInBounds_toArray, List.set_cons_zero, List.set_cons_succ, i64_w, i32_w]
                 rfl
                refine pure_ (i := 1) (N := some 133) (v := ?_) (a' := ?_) #[true, true, false, false, false, false, false, false, false, false, false, false, false, false, false, false, false, false, false, false, false, false, false, false, false, false, false, false, false, false, false, false, false, false, false, false, false, false, false, false, false, false, false, false, false, false, false, false, false, false, false, false, false, false, false, false] rfl rfl (any_of HT_.out (by kernel_rfl)) (fun _ _ _ h => h) (Or.inl ⟨by rfl, ?_⟩) ?_ ?_
                rotate_left
                ·intro w'
                 go_simp
                 with_reducible rfl
                rotate_left
                ·simp only [Act.put, List.setIfInBounds_toArray, List.set_cons_zero, List.set_cons_succ, i64_w, i32_w]
                 rfl
                refine pure_ (i := 2) (N := some 134) (v := ?_) (a' := ?_) #[true, true, true, false, false, false, false, false, false, false, false, false, false, false, false, false, false, false, false, false, false, false, false, false, false, false, false, false, false, false, false, false, false, false, false, false, false, false, false, false, false, false, false, false, false, false, false, false, false, false, false, false, false, false, false, false] rfl rfl (any_of HT_.out (by kernel_rfl)) (fun _ _ _ h => h) (Or.inl ⟨by rfl, ?_⟩) ?_ ?_
                rotate_left
                ·intro w'
                 go_simp
                 with_reducible rfl
                rotate_left
                ·simp only [Act.put, List.setIfInBounds_toArray, List.set_cons_zero, List.set_cons_succ, i64_w, i32_w]
                 rfl
                refine pure_ (i := 3) (N := some 135) (v := ?_) (a' := ?_) #[true, true, true, true, false, false, false, false, false, false, false, false, false, false, false, false, false, false, false, false, false, false, false, false, false, false, false, false, false, false, false, false, false, false, false, false, false, false, false, false, false, false, false, false, false, false, false, false, false, false, false, false, false, false, false, false] rfl rfl (any_of HT_.out (by kernel_rfl)) (fun _ _ _ h => h) (Or.inl ⟨by rfl, ?_⟩) ?_ ?_
                rotate_left
                ·intro w'
                 go_simp
                 with_reducible rfl
                rotate_left
                ·simp only [Act.put, List.setIfInBounds_toArray, List.set_cons_zero, List.set_cons_succ, i64_w, i32_w]
                 rfl
                refine pure_ (i := 4) (N := some 136) (v := ?_) (a' := ?_) #[true, true, true, true, true, false, false, false, false, false, false, false, false, false, false, false, false, false, false, false, false, false, false, false, false, false, false, false, false, false, false, false, false, false, false, false, false, false, false, false, false, false, false, false, false, false, false, false, false, false, false, false, false, false, false, false] rfl rfl (any_of HT_.out (by kernel_rfl)) (fun _ _ _ h => h) (Or.inl ⟨by rfl, ?_⟩) ?_ ?_
                rotate_left
                ·intro w'
                 go_simp
                 with_reducible rfl
                rotate_left
                ·simp only [Act.put, List.setIfInBounds_toArray, List.set_cons_zero, List.set_cons_succ, i64_w, i32_w]
                 rfl
                refine pure_ (i := 5) (N := some 137) (v := ?_) (a' := ?_) #[true, true, true, true, true, true, false, false, false, false, false, false, false, false, false, false, false, false, false, false, false, false, false, false, false, false, false, false, false, false, false, false, false, false, false, false, false, false, false, false, false, false, false, false, false, false, false, false, false, false, false, false, false, false, false, false] rfl rfl (any_of HT_.out (by kernel_rfl)) (fun _ _ _ h => h) (Or.inl ⟨by rfl, ?_⟩) ?_ ?_
                rotate_left
                ·intro w'
                 go_simp
                 with_reducible rfl
                rotate_left
                ·simp only [Act.put, List.setIfInBounds_toArray, List.set_cons_zero, List.set_cons_succ, i64_w, i32_w]
                 rfl
                refine pure_ (i := 6) (N := some 138) (v := ?_) (a' := ?_) #[true, true, true, true, true, true, true, false, false, false, false, false, false, false, false, false, false, false, false, false, false, false, false, false, false, false, false, false, false, false, false, false, false, false, false, false, false, false, false, false, false, false, false, false, false, false, false, false, false, false, false, false, false, false, false, false] rfl rfl (any_of HT_.out (by kernel_rfl)) (fun _ _ _ h => h) (Or.inl ⟨by rfl, ?_⟩) ?_ ?_
                rotate_left
                ·intro w'
                 go_simp
                 with_reducible rfl
                rotate_left
                ·simp only [Act.put, List.setIfInBounds_toArray, List.set_cons_zero, List.set_cons_succ, i64_w, i32_w]
                 rfl
                refine pure_ (i := 7) (N := some 139) (v := ?_) (a' := ?_) #[true, true, true, true, true, true, true, true, false, false, false, false, false, false, false, false, false, false, false, false, false, false, false, false, false, false, false, false, false, false, false, false, false, false, false, false, false, false, false, false, false, false, false, false, false, false, false, false, false, false, false, false, false, false, false, false] rfl rfl (any_of HT_.out (by kernel_rfl)) (fun _ _ _ h => h) (Or.inl ⟨by rfl, ?_⟩) ?_ ?_
                rotate_left
                ·intro w'
                 go_simp
                 with_reducible rfl
                rotate_left
                ·simp only [Act.put, List.setIfInBounds_toArray, List.set_cons_zero, List.set_cons_succ, i64_w, i32_w]
                 rfl
                refine pure_ (i := 8) (N := some 140) (v := ?_) (a' := ?_) #[true, true, true, true, true, true, true, true, true, false, false, false, false, false, false, false, false, false, false, false, false, false, false, false, false, false, false, false, false, false, false, false, false, false, false, false, false, false, false, false, false, false, false, false, false, false, false, false, false, false, false, false, false, false, false, false] rfl rfl (any_of HT_.out (by kernel_rfl)) (fun _ _ _ h => h) (Or.inl ⟨by rfl, ?_⟩) ?_ ?_
                rotate_left
                ·intro w'
                 go_simp
                 with_reducible rfl
                rotate_left
                ·simp only [Act.put, List.setIfInBounds_toArray, List.set_cons_zero, List.set_cons_succ, i64_w, i32_w]
                 rfl
                refine pure_ (i := 9) (N := some 141) (v := ?_) (a' := ?_) #[true, true, true, true, true, true, true, true, true, true, false, false, false, false, false, false, false, false, false, false, false, false, false, false, false, false, false, false, false, false, false, false, false, false, false, false, false, false, false, false, false, false, false, false, false, false, false, false, false, false, false, false, false, false, false, false] rfl rfl (any_of HT_.out (by kernel_rfl)) (fun _ _ _ h => h) (Or.inl ⟨by rfl, ?_⟩) ?_ ?_
                rotate_left
                ·intro w'
                 go_simp
                 with_reducible rfl
                rotate_left
                ·simp only [Act.put, List.setIfInBounds_toArray, List.set_cons_zero, List.set_cons_succ, i64_w, i32_w]
                 rfl
                refine pure_ (i := 10) (N := some 142) (v := ?_) (a' := ?_) #[true, true, true, true, true, true, true, true, true, true, true, false, false, false, false, false, false, false, false, false, false, false, false, false, false, false, false, false, false, false, false, false, false, false, false, false, false, false, false, false, false, false, false, false, false, false, false, false, false, false, false, false, false, false, false, false] rfl rfl (any_of HT_.out (by kernel_rfl)) (fun _ _ _ h => h) (Or.inl ⟨by rfl, ?_⟩) ?_ ?_
                rotate_left
                ·intro w'
                 go_simp
                 with_reducible rfl
                rotate_left
                ·simp only [Act.put, List.setIfInBounds_toArray, List.set_cons_zero, List.set_cons_succ, i64_w, i32_w]
                 rfl
                refine pure_ (i := 11) (N := some 143) (v := ?_) (a' := ?_) #[true, true, true, true, true, true, true, true, true, true, true, true, false, false, false, false, false, false, false, false, false, false, false, false, false, false, false, false, false, false, false, false, false, false, false, false, false, false, false, false, false, false, false, false, false, false, false, false, false, false, false, false, false, false, false, false] rfl rfl (any_of HT_.out (by kernel_rfl)) (fun _ _ _ h => h) (Or.inl ⟨by rfl, ?_⟩) ?_ ?_
                rotate_left
                ·intro w'
                 go_simp
                 with_reducible rfl
                rotate_left
                ·simp only [Act.put, List.setIfInBounds_toArray, List.set_cons_zero, List.set_cons_succ, i64_w, i32_w]
                 rfl
                refine pure_ (i := 12) (N := some 144) (v := ?_) (a' := ?_) #[true, true, true, true, true, true, true, true, true, true, true, true, true, false, false, false, false, false, false, false, false, false, false, false, false, false, false, false, false, false, false, false, false, false, false, false, false, false, false, false, false, false, false, false, false, false, false, false, false, false, false, false, false, false, false, false] rfl rfl (any_of HT_.out (by kernel_rfl)) (fun _ _ _ h => h) (Or.inl ⟨by rfl, ?_⟩) ?_ ?_
                rotate_left
                ·intro w'
                 go_simp
                 with_reducible rfl
                rotate_left
                ·simp only [Act.put, List.setIfInBounds_toArray, List.set_cons_zero, List.set_cons_succ, i64_w, i32_w]
                 rfl
                refine pure_ (i := 13) (N := some 145) (v := ?_) (a' := ?_) #[true, true, true, true, true, true, true, true, true, true, true, true, true, true, false, false, false, false, false, false, false, false, false, false, false, false, false, false, false, false, false, false, false, false, false, false, false, false, false, false, false, false, false, false, false, false, false, false, false, false, false, false, false, false, false, false] rfl rfl (any_of HT_.out (by kernel_rfl)) (fun _ _ _ h => h) (Or.inl ⟨by rfl, ?_⟩) ?_ ?_
                rotate_left
                ·intro w'
                 go_simp
                 with_reducible rfl
                rotate_left
                ·simp only [Act.put, List.setIfInBounds_toArray, List.set_cons_zero, List.set_cons_succ, i64_w, i32_w]
                 rfl
                refine pure_ (i := 14) (N := some 146) (v := ?_) (a' := ?_) #[true, true, true, true, true, true, true, true, true, true, true, true, true, true, true, false, false, false, false, false, false, false, false, false, false, false, false, false, false, false, false, false, false, false, false, false, false, false, false, false, false, false, false, false, false, false, false, false, false, false, false, false, false, false, false, false] rfl rfl (any_of HT_.out (by kernel_rfl)) (fun _ _ _ h => h) (Or.inl ⟨by rfl, ?_⟩) ?_ ?_
                rotate_left
                ·intro w'
                 go_simp
                 with_reducible rfl
                rotate_left
                ·simp only [Act.put, List.setIfInBounds_toArray, List.set_cons_zero, List.set_cons_succ, i64_w, i32_w]
                 rfl
                refine pure_ (i := 15) (N := some 147) (v := ?_) (a' := ?_) #[true, true, true, true, true, true, true, true, true, true, true, true, true, true, true, true, false, false, false, false, false, false, false, false, false, false, false, false, false, false, false, false, false, false, false, false, false, false, false, false, false, false, false, false, false, false, false, false, false, false, false, false, false, false, false, false] rfl rfl (any_of HT_.out (by kernel_rfl)) (fun _ _ _ h => h) (Or.inl ⟨by rfl, ?_⟩) ?_ ?_
                rotate_left
                ·intro w'
                 go_simp
                 with_reducible rfl
                rotate_left
                ·simp only [Act.put, List.setIfInBounds_toArray, List.set_cons_zero, List.set_cons_succ, i64_w, i32_w]
                 rfl
                refine pure_ (i := 16) (N := some 148) (v := ?_) (a' := ?_) #[true, true, true, true, true, true, true, true, true, true, true, true, true, true, true, true, true, false, false, false, false, false, false, false, false, false, false, false, false, false, false, false, false, false, false, false, false, false, false, false, false, false, false, false, false, false, false, false, false, false, false, false, false, false, false, false] rfl rfl (any_of HT_.out (by kernel_rfl)) (fun _ _ _ h => h) (Or.inl ⟨by rfl, ?_⟩) ?_ ?_
                rotate_left
                ·intro w'
                 go_simp
                 with_reducible rfl
                rotate_left
                ·simp only [Act.put, List.setIfInBounds_toArray, List.set_cons_zero, List.set_cons_succ, i64_w, i32_w]
                 rfl
                refine pure_ (i := 17) (N := some 149) (v := ?_) (a' := ?_) #[true, true, true, true, true, true, true, true, true, true, true, true, true, true, true, true, true, true, false, false, false, false, false, false, false, false, false, false, false, false, false, false, false, false, false, false, false, false, false, false, false, false, false, false, false, false, false, false, false, false, false, false, false, false, false, false] rfl rfl (any_of HT_.out (by kernel_rfl)) (fun _ _ _ h => h) (Or.inl ⟨by rfl, ?_⟩) ?_ ?_
                rotate_left
                ·intro w'
                 go_simp
                 with_reducible rfl
                rotate_left
                ·simp only [Act.put, List.setIfInBounds_toArray, List.set_cons_zero, List.set_cons_succ, i64_w, i32_w]
                 rfl
                refine pure_ (i := 18) (N := some 150) (v := ?_) (a' := ?_) #[true, true, true, true, true, true, true, true, true, true, true, true, true, true, true, true, true, true, true, false, false, false, false, false, false, false, false, false, false, false, false, false, false, false, false, false, false, false, false, false, false, false, false, false, false, false, false, false, false, false, false, false, false, false, false, false] rfl rfl (any_of HT_.out (by kernel_rfl)) (fun _ _ _ h => h) (Or.inl ⟨by rfl, ?_⟩) ?_ ?_
                rotate_left
                ·intro w'
                 go_simp
                 with_reducible rfl
                rotate_left
                ·simp only [Act.put, List.setIfInBounds_toArray, List.set_cons_zero, List.set_cons_succ, i64_w, i32_w]
                 rfl
                refine pure_ (i := 19) (N := some 151) (v := ?_) (a' := ?_) #[true, true, true, true, true, true, true, true, true, true, true, true, true, true, true, true, true, true, true, true, false, false, false, false, false, false, false, false, false, false, false, false, false, false, false, false, false, false, false, false, false, false, false, false, false, false, false, false, false, false, false, false, false, false, false, false] rfl rfl (any_of HT_.out (by kernel_rfl)) (fun _ _ _ h => h) (Or.inl ⟨by rfl, ?_⟩) ?_ ?_
                rotate_left
                ·intro w'
                 go_simp
                 with_reducible rfl
                rotate_left
                ·simp only [Act.put, List.setIfInBounds_toArray, List.set_cons_zero, List.set_cons_succ, i64_w, i32_w]
                 rfl
                refine pure_ (i := 20) (N := some 152) (v := ?_) (a' := ?_) #[true, true, true, true, true, true, true, true, true, true, true, true, true, true, true, true, true, true, true, true, true, false, false, false, false, false, false, false, false, false, false, false, false, false, false, false, false, false, false, false, false, false, false, false, false, false, false, false, false, false, false, false, false, false, false, false] rfl rfl (any_of HT_.out (by kernel_rfl)) (fun _ _ _ h => h) (Or.inl ⟨by rfl, ?_⟩) ?_ ?_
                rotate_left
                ·intro w'
                 go_simp
                 with_reducible rfl
                rotate_left
                ·simp only [Act.put, List.setIfInBounds_toArray, List.set_cons_zero, List.set_cons_succ, i64_w, i32_w]
                 rfl
                refine pure_ (i := 21) (N := some 153) (v := ?_) (a' := ?_) #[true, true, true, true, true, true, true, true, true, true, true, true, true, true, true, true, true, true, true, true, true, true, false, false, false, false, false, false, false, false, false, false, false, false, false, false, false, false, false, false, false, false, false, false, false, false, false, false, false, false, false, false, false, false, false, false] rfl rfl (any_of HT_.out (by kernel_rfl)) (fun _ _ _ h => h) (Or.inl ⟨by rfl, ?_⟩) ?_ ?_
                rotate_left
                ·intro w'
                 go_simp
                 with_reducible rfl
                rotate_left
                ·simp only [Act.put, List.setIfInBounds_toArray, List.set_cons_zero, List.set_cons_succ, i64_w, i32_w]
                 rfl
                refine pure_ (i := 22) (N := some 154) (v := ?_) (a' := ?_) #[true, true, true, true, true, true, true, true, true, true, true, true, true, true, true, true, true, true, true, true, true, true, true, false, false, false, false, false, false, false, false, false, false, false, false, false, false, false, false, false, false, false, false, false, false, false, false, false, false, false, false, false, false, false, false, false] rfl rfl (any_of HT_.out (by kernel_rfl)) (fun _ _ _ h => h) (Or.inl ⟨by rfl, ?_⟩) ?_ ?_
                rotate_left
                ·intro w'
                 go_simp
                 with_reducible rfl
                rotate_left
                ·simp only [Act.put, List.setIfInBounds_toArray, List.set_cons_zero, List.set_cons_succ, i64_w, i32_w]
                 rfl
                refine pure_ (i := 23) (N := some 155) (v := ?_) (a' := ?_) #[true, true, true, true, true, true, true, true, true, true, true, true, true, true, true, true, true, true, true, true, true, true, true, true, false, false, false, false, false, false, false, false, false, false, false, false, false, false, false, false, false, false, false, false, false, false, false, false, false, false, false, false, false, false, false, false] rfl rfl (any_of HT_.out (by kernel_rfl)) (fun _ _ _ h => h) (Or.inl ⟨by rfl, ?_⟩) ?_ ?_
                rotate_left
                ·intro w'
                 go_simp
                 with_reducible rfl
                rotate_left
                ·simp only [Act.put, List.setIfInBounds_toArray, List.set_cons_zero, List.set_cons_succ, i64_w, i32_w]
                 rfl
                refine pure_ (i := 24) (N := some 156) (v := ?_) (a' := ?_) #[true, true, true, true, true, true, true, true, true, true, true, true, true, true, true, true, true, true, true, true, true, true, true, true, true, false, false, false, false, false, false, false, false, false, false, false, false, false, false, false, false, false, false, false, false, false, false, false, false, false, false, false, false, false, false, false] rfl rfl (any_of HT_.out (by kernel_rfl)) (fun _ _ _ h => h) (Or.inl ⟨by rfl, ?_⟩) ?_ ?_
                rotate_left
                ·intro w'
                 go_simp
                 with_reducible rfl
                rotate_left
                ·simp only [Act.put, List.setIfInBounds_toArray, List.set_cons_zero, List.set_cons_succ, i64_w, i32_w]
                 rfl
                refine pure_ (i := 25) (N := some 157) (v := ?_) (a' := ?_) #[true, true, true, true, true, true, true, true, true, true, true, true, true, true, true, true, true, true, true, true, true, true, true, true, true, true, false, false, false, false, false, false, false, false, false, false, false, false, false, false, false, false, false, false, false, false, false, false, false, false, false, false, false, false, false, false] rfl rfl (any_of HT_.out (by kernel_rfl)) (fun _ _ _ h => h) (Or.inl ⟨by rfl, ?_⟩) ?_ ?_
                rotate_left
                ·intro w'
                 go_simp
                 with_reducible rfl
                rotate_left
                ·simp only [Act.put, List.setIfInBounds_toArray, List.set_cons_zero, List.set_cons_succ, i64_w, i32_w]
                 rfl
                refine pure_ (i := 26) (N := some 158) (v := ?_) (a' := ?_) #[true, true, true, true, true, true, true, true, true, true, true, true, true, true, true, true, true, true, true, true, true, true, true, true, true, true, true, false, false, false, false, false, false, false, false, false, false, false, false, false, false, false, false, false, false, false, false, false, false, false, false, false, false, false, false, false] rfl rfl (any_of HT_.out (by kernel_rfl)) (fun _ _ _ h => h) (Or.inl ⟨by rfl, ?_⟩) ?_ ?_
                rotate_left
                ·intro w'
                 go_simp
                 with_reducible rfl
                rotate_left
                ·simp only [Act.put, List.setIfInBounds_toArray, List.set_cons_zero, List.set_cons_succ, i64_w, i32_w]
                 rfl
                refine pure_ (i := 27) (N := some 159) (v := undef) (a' := ?_) #[true, true, true, true, true, true, true, true, true, true, true, true, true, true, true, true, true, true, true, true, true, true, true, true, true, true, true, true, false, false, false, false, false, false, false, false, false, false, false, false, false, false, false, false, false, false, false, false, false, false, false, false, false, false, false, false] rfl rfl (any_of HT_.out (by kernel_rfl)) (fun _ _ _ h => h) (Or.inr ⟨by rfl, rfl⟩) ?_ ?_
                rotate_left
                ·simp only [Act.put, List.setIfInBounds_toArray, List.set_cons_zero, List.set_cons_succ, i64_w, i32_w]
                 rfl
                refine pure_ (i := 28) (N := some 160) (v := undef) (a' := ?_) #[true, true, true, true, true, true, true, true, true, true, true, true, true, true, true, true, true, true, true, true, true, true, true, true, true, true, true, true, true, false, false, false, false, false, false, false, false, false, false, false, false, false, false, false, false, false, false, false, false, false, false, false, false, false, false, false] rfl rfl (any_of HT_.out (by kernel_rfl)) (fun _ _ _ h => h) (Or.inr ⟨by rfl, rfl⟩) ?_ ?_
                rotate_left
                ·simp only [Act.put, List.setIfInBounds_toArray, List.set_cons_zero, List.set_cons_succ, i64_w, i32_w]
                 rfl
                refine pure_ (i := 29) (N := some 161) (v := undef) (a' := ?_) #[true, true, true, true, true, true, true, true, true, true, true, true, true, true, true, true, true, true, true, true, true, true, true, true, true, true, true, true, true, true, false, false, false, false, false, false, false, false, false, false, false, false, false, false, false, false, false, false, false, false, false, false, false, false, false, false] rfl rfl (any_of HT_.out (by kernel_rfl)) (fun _ _ _ h => h) (Or.inr ⟨by rfl, rfl⟩) ?_ ?_
                rotate_left
                ·simp only [Act.put, List.setIfInBounds_toArray, List.set_cons_zero, List.set_cons_succ, i64_w, i32_w]
                 rfl
                refine pure_ (i := 30) (N := some 162) (v := ?_) (a' := ?_) #[true, true, true, true, true, true, true, true, true, true, true, true, true, true, true, true, true, true, true, true, true, true, true, true, true, true, true, true, true, true, true, false, false, false, false, false, false, false, false, false, false, false, false, false, false, false, false, false, false, false, false, false, false, false, false, false] rfl rfl (any_of HT_.out (by kernel_rfl)) (fun _ _ _ h => h) (Or.inl ⟨by rfl, ?_⟩) ?_ ?_
                rotate_left
                ·intro w'
                 go_simp
                 with_reducible rfl
                rotate_left
                ·simp only [Act.put, List.setIfInBounds_toArray, List.set_cons_zero, List.set_cons_succ, i64_w, i32_w]
                 rfl
                refine pure_ (i := 31) (N := some 163) (v := ?_) (a' := ?_) #[true, true, true, true, true, true, true, true, true, true, true, true, true, true, true, true, true, true, true, true, true, true, true, true, true, true, true, true, true, true, true, true, false, false, false, false, false, false, false, false, false, false, false, false, false, false, false, false, false, false, false, false, false, false, false, false] rfl rfl (any_of HT_.out (by kernel_rfl)) (fun _ _ _ h => h) (Or.inl ⟨by rfl, ?_⟩) ?_ ?_
                rotate_left
                ·intro w'
                 go_simp
                 with_reducible rfl
                rotate_left
                ·simp only [Act.put, List.setIfInBounds_toArray, List.set_cons_zero, List.set_cons_succ, i64_w, i32_w]
                 rfl
                refine pure_ (i := 32) (N := some 164) (v := undef) (a' := ?_) #[true, true, true, true, true, true, true, true, true, true, true, true, true, true, true, true, true, true, true, true, true, true, true, true, true, true, true, true, true, true, true, true, true, false, false, false, false, false, false, false, false, false, false, false, false, false, false, false, false, false, false, false, false, false, false, false] rfl rfl (any_of HT_.out (by kernel_rfl)) (fun _ _ _ h => h) (Or.inr ⟨by rfl, rfl⟩) ?_ ?_
                rotate_left
                ·simp only [Act.put, List.setIfInBounds_toArray, List.set_cons_zero, List.set_cons_succ, i64_w, i32_w]
                 rfl
                refine pure_ (i := 33) (N := some 165) (v := undef) (a' := ?_) #[true, true, true, true, true, true, true, true, true, true, true, true, true, true, true, true, true, true, true, true, true, true, true, true, true, true, true, true, true, true, true, true, true, true, false, false, false, false, false, false, false, false, false, false, false, false, false, false, false, false, false, false, false, false, false, false] rfl rfl (any_of HT_.out (by kernel_rfl)) (fun _ _ _ h => h) (Or.inr ⟨by rfl, rfl⟩) ?_ ?_
                rotate_left
                ·simp only [Act.put, List.setIfInBounds_toArray, List.set_cons_zero, List.set_cons_succ, i64_w, i32_w]
                 rfl
                refine pure_ (i := 34) (N := some 166) (v := undef) (a' := ?_) #[true, true, true, true, true, true, true, true, true, true, true, true, true, true, true, true, true, true, true, true, true, true, true, true, true, true, true, true, true, true, true, true, true, true, true, false, false, false, false, false, false, false, false, false, false, false, false, false, false, false, false, false, false, false, false, false] rfl rfl (any_of HT_.out (by kernel_rfl)) (fun _ _ _ h => h) (Or.inr ⟨by rfl, rfl⟩) ?_ ?_
                rotate_left
                ·simp only [Act.put, List.setIfInBounds_toArray, List.set_cons_zero, List.set_cons_succ, i64_w, i32_w]
                 rfl
                refine pure_ (i := 35) (N := some 167) (v := ?_) (a' := ?_) #[true, true, true, true, true, true, true, true, true, true, true, true, true, true, true, true, true, true, true, true, true, true, true, true, true, true, true, true, true, true, true, true, true, true, true, true, false, false, false, false, false, false, false, false, false, false, false, false, false, false, false, false, false, false, false, false] rfl rfl (any_of HT_.out (by kernel_rfl)) (fun _ _ _ h => h) (Or.inl ⟨by rfl, ?_⟩) ?_ ?_
                rotate_left
                ·intro w'
                 go_simp
                 with_reducible rfl
                rotate_left
                ·simp only [Act.put, List.setIfInBounds_toArray, List.set_cons_zero, List.set_cons_succ, i64_w, i32_w]
                 rfl
                refine pure_ (i := 36) (N := some 168) (v := ?_) (a' := ?_) #[true, true, true, true, true, true, true, true, true, true, true, true, true, true, true, true, true, true, true, true, true, true, true, true, true, true, true, true, true, true, true, true, true, true, true, true, true, false, false, false, false, false, false, false, false, false, false, false, false, false, false, false, false, false, false, false] rfl rfl (any_of HT_.out (by kernel_rfl)) (fun _ _ _ h => h) (Or.inl ⟨by rfl, ?_⟩) ?_ ?_
                rotate_left
                ·intro w'
                 go_simp
                 with_reducible rfl
                rotate_left
                ·simp only [Act.put, List.setIfInBounds_toArray, List.set_cons_zero, List.set_cons_succ, i64_w, i32_w]
                 rfl
                refine pure_ (i := 37) (N := some 169) (v := ?_) (a' := ?_) #[true, true, true, true, true, true, true, true, true, true, true, true, true, true, true, true, true, true, true, true, true, true, true, true, true, true, true, true, true, true, true, true, true, true, true, true, true, true, false, false, false, false, false, false, false, false, false, false, false, false, false, false, false, false, false, false] rfl rfl (any_of HT_.out (by kernel_rfl)) (fun _ _ _ h => h) (Or.inl ⟨by rfl, ?_⟩) ?_ ?_
                rotate_left
                ·intro w'
                 go_simp
                 with_reducible rfl
                rotate_left
                ·simp only [Act.put, List.setIfInBounds_toArray, List.set_cons_zero, List.set_cons_succ, i64_w, i32_w]
                 rfl
                refine pure_ (i := 38) (N := some 170) (v := ?_) (a' := ?_) #[true, true, true, true, true, true, true, true, true, true, true, true, true, true, true, true, true, true, true, true, true, true, true, true, true, true, true, true, true, true, true, true, true, true, true, true, true, true, true, false, false, false, false, false, false, false, false, false, false, false, false, false, false, false, false, false] rfl rfl (any_of HT_.out (by kernel_rfl)) (fun _ _ _ h => h) (Or.inl ⟨by rfl, ?_⟩) ?_ ?_
                rotate_left
                ·intro w'
                 go_simp
                 with_reducible rfl
                rotate_left
                ·simp only [Act.put, List.setIfInBounds_toArray, List.set_cons_zero, List.set_cons_succ, i64_w, i32_w]
                 rfl
                refine pure_ (i := 39) (N := some 171) (v := ?_) (a' := ?_) #[true, true, true, true, true, true, true, true, true, true, true, true, true, true, true, true, true, true, true, true, true, true, true, true, true, true, true, true, true, true, true, true, true, true, true, true, true, true, true, true, false, false, false, false, false, false, false, false, false, false, false, false, false, false, false, false] rfl rfl (any_of HT_.out (by kernel_rfl)) (fun _ _ _ h => h) (Or.inl ⟨by rfl, ?_⟩) ?_ ?_
                rotate_left
                ·intro w'
                 go_simp
                 with_reducible rfl
                rotate_left
                ·simp only [Act.put, List.setIfInBounds_toArray, List.set_cons_zero, List.set_cons_succ, i64_w, i32_w]
                 rfl
                refine pure_ (i := 40) (N := some 172) (v := ?_) (a' := ?_) #[true, true, true, true, true, true, true, true, true, true, true, true, true, true, true, true, true, true, true, true, true, true, true, true, true, true, true, true, true, true, true, true, true, true, true, true, true, true, true, true, true, false, false, false, false, false, false, false, false, false, false, false, false, false, false, false] rfl rfl (any_of HT_.out (by kernel_rfl)) (fun _ _ _ h => h) (Or.inl ⟨by rfl, ?_⟩) ?_ ?_
                rotate_left
                ·intro w'
                 go_simp
                 with_reducible rfl
                rotate_left
                ·simp only [Act.put, List.setIfInBounds_toArray, List.set_cons_zero, List.set_cons_succ, i64_w, i32_w]
                 rfl
                refine pure_ (i := 41) (N := some 173) (v := ?_) (a' := ?_) #[true, true, true, true, true, true, true, true, true, true, true, true, true, true, true, true, true, true, true, true, true, true, true, true, true, true, true, true, true, true, true, true, true, true, true, true, true, true, true, true, true, true, false, false, false, false, false, false, false, false, false, false, false, false, false, false] rfl rfl (any_of HT_.out (by kernel_rfl)) (fun _ _ _ h => h) (Or.inl ⟨by rfl, ?_⟩) ?_ ?_
                rotate_left
                ·intro w'
                 go_simp
                 with_reducible rfl
                rotate_left
                ·simp only [Act.put, List.setIfInBounds_toArray, List.set_cons_zero, List.set_cons_succ, i64_w, i32_w]
                 rfl
                refine pure_ (i := 42) (N := some 174) (v := ?_) (a' := ?_) #[true, true, true, true, true, true, true, true, true, true, true, true, true, true, true, true, true, true, true, true, true, true, true, true, true, true, true, true, true, true, true, true, true, true, true, true, true, true, true, true, true, true, true, false, false, false, false, false, false, false, false, false, false, false, false, false] rfl rfl (any_of HT_.out (by kernel_rfl)) (fun _ _ _ h => h) (Or.inl ⟨by rfl, ?_⟩) ?_ ?_
                rotate_left
                ·intro w'
                 go_simp
                 with_reducible rfl
                rotate_left
                ·simp only [Act.put, List.setIfInBounds_toArray, List.set_cons_zero, List.set_cons_succ, i64_w, i32_w]
                 rfl
                refine pure_ (i := 43) (N := some 175) (v := ?_) (a' := ?_) #[true, true, true, true, true, true, true, true, true, true, true, true, true, true, true, true, true, true, true, true, true, true, true, true, true, true, true, true, true, true, true, true, true, true, true, true, true, true, true, true, true, true, true, true, false, false, false, false, false, false, false, false, false, false, false, false] rfl rfl (any_of HT_.out (by kernel_rfl)) (fun _ _ _ h => h) (Or.inl ⟨by rfl, ?_⟩) ?_ ?_
                rotate_left
                ·intro w'
                 go_simp
                 with_reducible rfl
                rotate_left
                ·simp only [Act.put, List.setIfInBounds_toArray, List.set_cons_zero, List.set_cons_succ, i64_w, i32_w]
                 rfl
                refine pure_ (i := 45) (N := some 177) (v := ?_) (a' := ?_) #[true, true, true, true, true, true, true, true, true, true, true, true, true, true, true, true, true, true, true, true, true, true, true, true, true, true, true, true, true, true, true, true, true, true, true, true, true, true, true, true, true, true, true, true, false, true, false, false, false, false, false, false, false, false, false, false] rfl rfl (any_of HT_.out (by kernel_rfl)) (fun _ _ _ h => h) (Or.inl ⟨by rfl, ?_⟩) ?_ ?_
                rotate_left
                ·intro w'
                 go_simp
                 with_reducible rfl
                rotate_left
                ·simp only [Act.put, List.setIfInBounds_toArray, List.set_cons_zero, List.set_cons_succ, i64_w, i32_w]
                 rfl
                refine pure_ (i := 48) (N := some 180) (v := ?_) (a' := ?_) #[true, true, true, true, true, true, true, true, true, true, true, true, true, true, true, true, true, true, true, true, true, true, true, true, true, true, true, true, true, true, true, true, true, true, true, true, true, true, true, true, true, true, true, true, false, true, false, false, true, false, false, false, false, false, false, false] rfl rfl (any_of HT_.out (by kernel_rfl)) (fun _ _ _ h => h) (Or.inl ⟨by rfl, ?_⟩) ?_ ?_
                rotate_left
                ·intro w'
                 go_simp
                 with_reducible rfl
                rotate_left
                ·simp only [Act.put, List.setIfInBounds_toArray, List.set_cons_zero, List.set_cons_succ, i64_w, i32_w]
                 rfl
                refine take_ (i := 44) (N := some 176) (v := ?_) (a' := ?_) #[true, true, true, true, true, true, true, true, true, true, true, true, true, true, true, true, true, true, true, true, true, true, true, true, true, true, true, true, true, true, true, true, true, true, true, true, true, true, true, true, true, true, true, true, true, true, false, false, true, false, false, false, false, false, false, false] rfl rfl (take_ofW HT_.out HW_.out (by kernel_rfl)) (fun _ _ _ h => h) (Or.inl ⟨by rfl, ?_⟩) hHeld ?_ ?_
                rotate_left
                ·rintro w' ⟨s0, s1, s2, s3, s4⟩
                 go_simp
                 with_reducible rfl
                rotate_left
                ·simp only [Act.put, List.setIfInBounds_toArray, List.set_cons_zero, List.set_cons_succ, i64_w, i32_w]
                 rfl
                refine take_ (i := 46) (N := some 178) (v := ?_) (a' := ?_) #[true, true, true, true, true, true, true, true, true, true, true, true, true, true, true, true, true, true, true, true, true, true, true, true, true, true, true, true, true, true, true, true, true, true, true, true, true, true, true, true, true, true, true, true, true, true, true, false, true, false, false, false, false, false, false, false] rfl rfl (take_ofW HT_.out HW_.out (by kernel_rfl)) (fun _ _ _ h => h) (Or.inl ⟨by rfl, ?_⟩) hHeld ?_ ?_
                rotate_left
                ·rintro w' ⟨s0, s1, s2, s3, s4⟩
                 go_simp
                 with_reducible rfl
                rotate_left
                ·simp only [Act.put, List.setIfInBounds_toArray, List.set_cons_zero, List.set_cons_succ, i64_w, i32_w]
                 rfl
                refine pure_ (i := 47) (N := some 179) (v := ?_) (a' := ?_) #[true, true, true, true, true, true, true, true, true, true, true, true, true, true, true, true, true, true, true, true, true, true, true, true, true, true, true, true, true, true, true, true, true, true, true, true, true, true, true, true, true, true, true, true, true, true, true, true, true, false, false, false, false, false, false, false] rfl rfl (any_of HT_.out (by kernel_rfl)) (fun _ _ _ h => h) (Or.inl ⟨by rfl, ?_⟩) ?_ ?_
                rotate_left
                ·intro w'
                 go_simp
                 with_reducible rfl
                rotate_left
                ·simp only [Act.put, List.setIfInBounds_toArray, List.set_cons_zero, List.set_cons_succ, i64_w, i32_w]
                 rfl
                refine take_ (i := 49) (N := some 181) (v := ?_) (a' := ?_) #[true, true, true, true, true, true, true, true, true, true, true, true, true, true, true, true, true, true, true, true, true, true, true, true, true, true, true, true, true, true, true, true, true, true, true, true, true, true, true, true, true, true, true, true, true, true, true, true, true, true, false, false, false, false, false, false] rfl rfl (take_ofW HT_.out HW_.out (by kernel_rfl)) (fun _ _ _ h => h) (Or.inl ⟨by rfl, ?_⟩) hHeld ?_ ?_
                rotate_left
                ·rintro w' ⟨s0, s1, s2, s3, s4⟩
                 go_simp
                 with_reducible rfl
                rotate_left
                ·simp only [Act.put, List.setIfInBounds_toArray, List.set_cons_zero, List.set_cons_succ, i64_w, i32_w]
                 rfl
                refine one_ (i := 50) (N := some 182) #[true, true, true, true, true, true, true, true, true, true, true, true, true, true, true, true, true, true, true, true, true, true, true, true, true, true, true, true, true, true, true, true, true, true, true, true, true, true, true, true, true, true, true, true, true, true, true, true, true, true, true, false, false, false, false, false] rfl rfl (one_of HT_.out (by kernel_rfl)) (by decide) (fun K hK => ?_)
                refine goes_ Try.func28 (by kernel_rfl) rfl #[.agg #[.int .i64 t960, .int .i64 t961, .slice Ao17 t962.length co17]] (by rfl) rfl rfl arr_ ?_
                with_reducible refine (impl_RoundOf.calls kj12 t960 t961 _ _ t962 t999 _ ?side1 ?side2 A125.out).mono ?_
                (case side1 => repeat (first | exact (Kd.R_reads' HO_968002.out).2.2 | (with_reducible refine Kd.C_alloc ?_ _) | (with_reducible refine Kd.C_drewN ?_ _) | (with_reducible refine Kd.C_drew ?_)))
                (case side2 => exact (Kd.R_reads' HO_968002.out).2.1)
                rintro e w143 ⟨rfl, hb⟩
                refine ⟨_, rfl, ?_⟩
                have n0_ := am_ (Kd.R_below (by (with_reducible repeat (first | apply Kd.R_alloc | apply Kd.R_drewN | apply Kd.R_drew)); exact HO_968002.out) hb)
                have n1_ := am_ (bb_ BK967.out hb)
                have n2_ := am_ (bb_ BK971.out hb)
                have n3_ := am_ (bb_ BK975.out hb)
                have n4_ := am_ (bb_ BK985.out hb)
                have n5_ := am_ (below_step (hb4_ HB.out GE967.out GE971.out GE975.out GE985.out) hb)
                clear HO_968002
                clear BK967
                clear BK971
                clear BK975
                clear BK985
                clear HB
                have HO_968002 := n0_
                have BK967 := n1_
                have BK971 := n2_
                have BK975 := n3_
                have BK985 := n4_
                have HB := n5_
                clear n0_ n1_ n2_ n3_ n4_ n5_
                (try clear hb)
                (try clear hb2)
                (try clear hk)
                (try clear hi)
                refine hK.out _ _ ⟨(blk_cell BK971.out 0).trans rfl, (blk_cell BK971.out 1).trans rfl, (blk_cell BK967.out 0).trans rfl, (blk_cell BK967.out 1).trans rfl, (blk_cell BK967.out 2).trans rfl⟩ (fun hHeld => ?_)
                clear hK K
                refine norm_ (a' := ?_) ?_ ?_
                rotate_left
                ·show Act.put _ (some 182) _ = _
                 simp only [Act.put, List.setIfInBounds_toArray, List.set_cons_zero, List.set_cons_succ, i64_w, i32_w]
                 rfl
                refine pure_ (i := 51) (N := some 183) (v := ?_) (a' := ?_) #[true, true, true, true, true, true, true, true, true, true, true, true, true, true, true, true, true, true, true, true, true, true, true, true, true, true, true, true, true, true, true, true, true, true, true, true, true, true, true, true, true, true, true, true, true, true, true, true, true, true, true, true, false, false, false, false] rfl rfl (any_of HT_.out (by kernel_rfl)) (fun _ _ _ h => h) (Or.inl ⟨by rfl, ?_⟩) ?_ ?_
                rotate_left
                ·intro w'
                 go_simp
                 with_reducible rfl
                rotate_left
                ·simp only [Act.put, List.setIfInBounds_toArray, List.set_cons_zero, List.set_cons_succ, i64_w, i32_w]
                 rfl
                refine pure_ (i := 52) (N := some 184) (v := ?_) (a' := ?_) #[true, true, true, true, true, true, true, true, true, true, true, true, true, true, true, true, true, true, true, true, true, true, true, true, true, true, true, true, true, true, true, true, true, true, true, true, true, true, true, true, true, true, true, true, true, true, true, true, true, true, true, true, true, false, false, false] rfl rfl (any_of HT_.out (by kernel_rfl)) (fun _ _ _ h => h) (Or.inl ⟨by rfl, ?_⟩) ?_ ?_
                rotate_left
                ·intro w'
                 go_simp
                 with_reducible rfl
                rotate_left
                ·simp only [Act.put, List.setIfInBounds_toArray, List.set_cons_zero, List.set_cons_succ, i64_w, i32_w]
                 rfl
                refine pure_ (i := 53) (N := some 185) (v := ?_) (a' := ?_) #[true, true, true, true, true, true, true, true, true, true, true, true, true, true, true, true, true, true, true, true, true, true, true, true, true, true, true, true, true, true, true, true, true, true, true, true, true, true, true, true, true, true, true, true, true, true, true, true, true, true, true, true, true, true, false, false] rfl rfl (any_of HT_.out (by kernel_rfl)) (fun _ _ _ h => h) (Or.inl ⟨by rfl, ?_⟩) ?_ ?_
                rotate_left
                ·intro w'
                 go_simp
                 with_reducible rfl
                rotate_left
                ·simp only [Act.put, List.setIfInBounds_toArray, List.set_cons_zero, List.set_cons_succ, i64_w, i32_w]
                 rfl
                refine pure_ (i := 54) (N := some 186) (v := ?_) (a' := ?_) #[true, true, true, true, true, true, true, true, true, true, true, true, true, true, true, true, true, true, true, true, true, true, true, true, true, true, true, true, true, true, true, true, true, true, true, true, true, true, true, true, true, true, true, true, true, true, true, true, true, true, true, true, true, true, true, false] rfl rfl (any_of HT_.out (by kernel_rfl)) (fun _ _ _ h => h) (Or.inl ⟨by rfl, ?_⟩) ?_ ?_
                rotate_left
                ·intro w'
                 go_simp
                 with_reducible rfl
                rotate_left
                ·simp only [Act.put, List.setIfInBounds_toArray, List.set_cons_zero, List.set_cons_succ, i64_w, i32_w]
                 rfl
                refine pure_ (i := 55) (N := some 2) (v := ?_) (a' := ?_) #[true, true, true, true, true, true, true, true, true, true, true, true, true, true, true, true, true, true, true, true, true, true, true, true, true, true, true, true, true, true, true, true, true, true, true, true, true, true, true, true, true, true, true, true, true, true, true, true, true, true, true, true, true, true, true, true] rfl rfl (any_of HT_.out (by kernel_rfl)) (fun _ _ _ h => h) (Or.inl ⟨by rfl, ?_⟩) ?_ ?_
                rotate_left
                ·intro w'
                 go_simp
                 with_reducible rfl
                rotate_left
                ·simp only [Act.put, List.setIfInBounds_toArray, List.set_cons_zero, List.set_cons_succ, i64_w, i32_w]
                 rfl
                refine done_ (done_of HT_.out (by kernel_rfl)) ?_
                try go_wp2
                go_ret
                exact ⟨er_, hb4_ HB.out GE967.out GE971.out GE975.out GE985.out⟩
               ·replace c124 := Bool.eq_false_iff.mpr c124
                subst c124
                have H1 : (some false) = some r := by rw [if_neg (show ¬ (false = true) by decide)] at H; exact H
                clear H
                have H := H1
                clear H1
                obtain rfl := Option.some.inj H
                exact absurd hr_ (by decide)
             ·rw [if_neg c80] at H
              have c80b0 : (t990 == t966) = false := beq_eq_false_iff_ne.mpr c80
              have c80b1 : (t990 != t966) = true := bne_iff_ne.mpr c80
              obtain rfl := Option.some.inj H
              exact absurd hr_ (by decide)
            ·rw [if_neg c79] at H
             have c79b0 : (t989 == t965) = false := beq_eq_false_iff_ne.mpr c79
             have c79b1 : (t989 != t965) = true := bne_iff_ne.mpr c79
             obtain rfl := Option.some.inj H
             exact absurd hr_ (by decide)
           ·rw [if_neg c78] at H
            have c78b0 : (t987 == t966) = false := beq_eq_false_iff_ne.mpr c78
            have c78b1 : (t987 != t966) = true := bne_iff_ne.mpr c78
            obtain rfl := Option.some.inj H
            exact absurd hr_ (by decide)
          ·rw [if_neg c77] at H
           have c77b0 : (t986 == t965) = false := beq_eq_false_iff_ne.mpr c77
           have c77b1 : (t986 != t965) = true := bne_iff_ne.mpr c77
           obtain rfl := Option.some.inj H
           exact absurd hr_ (by decide)
         ·replace c76 := Bool.eq_false_iff.mpr c76
          subst c76
          have H1 : (some false) = some r := by rw [if_neg (show ¬ (false = true) by decide)] at H; exact H
          clear H
          have H := H1
          clear H1
          obtain rfl := Option.some.inj H
          exact absurd hr_ (by decide)
        ·replace c75 := Bool.eq_false_iff.mpr c75
         subst c75
         have H1 : (some false) = some r := by rw [if_neg (show ¬ (false = true) by decide)] at H; exact H
         clear H
         have H := H1
         clear H1
         obtain rfl := Option.some.inj H
         exact absurd hr_ (by decide)
   ·replace c8 := Bool.eq_false_iff.mpr c8
    subst c8
    have H1 : ((impl_RoundOf.f k 0 2 (([(⟨0, 7⟩ : S42)] : List (S42)))).bind fun t979 => (some (t979 == 9))) = some r := by rw [if_neg (show ¬ (false = true) by decide)] at H; exact H
    clear H
    have H := H1
    clear H1
    obtain ⟨y976, hy976⟩ : ∃ y_ : List (S42), y_ = (([(⟨0, 7⟩ : S42)] : List (S42))) := ⟨_, rfl⟩
    replace H : ((impl_RoundOf.f k 0 2 y976).bind fun t979 => (some (t979 == 9))) = some r := by first | (rw [hy976]; with_reducible exact H) | (have H2_ := (Option.bind_some _ _).symm.trans H; rw [hy976]; with_reducible exact H2_) | (have H2_ := (Option.bind_some _ _).symm.trans H; with_reducible exact H2_) | with_reducible exact H | (rw [hy976]; exact H) | exact H
    have Ny976 := Aside0.mk hy976
    clear hy976
    replace H := Option.bind_eq_some_iff.mp H
    obtain ⟨t979, A1440, H⟩ := H
    replace H : (some (t979 == 9)) = some r := H
    have A144 := Aside0.mk A1440
    clear A1440
    obtain rfl := Option.some.inj H
    go_enter Try.func6, Try.ntmps6
    go_wp2_with (first | ((with_reducible refine gate_callee (f := 8) rfl ?_); refine gl_ Try.func8 #[.slice A0 l0.length c0] ?_; (with_reducible refine (laws_big.calls _ _ l0 false _ ?side1 ?side2 A2.out).mono ?_); (case side1 => repeat (first | exact HR0.out | (with_reducible refine Kd.C_alloc ?_ _) | (with_reducible refine Kd.C_drewN ?_ _) | (with_reducible refine Kd.C_drew ?_))); (case side2 => exact HC0.out); rintro e w' ⟨rfl, ⟨nd, rfl⟩⟩; refine ⟨_, rfl, ?_⟩) | ((with_reducible refine gate_callee (f := 27) rfl ?_); refine gl_ Try.func27 #[.slice A0 l0.length c0] ?_; (with_reducible refine (spec_DrawOccurrence.calls k _ _ l0 t960 t961 t962 t965 t966 _ ?side1 ?side2 A4.out).mono ?_); (case side1 => repeat (first | exact HR0.out | (with_reducible refine Kd.C_alloc ?_ _) | (with_reducible refine Kd.C_drewN ?_ _) | (with_reducible refine Kd.C_drew ?_))); (case side2 => exact HC0.out); rintro e w145 ⟨v963, rfl, ho0, hb⟩; refine ⟨_, rfl, ?_⟩; have HO964 := am_ (Kd.R_lower ho0 (below_size (hb_ HB.out))); replace HB := am_ (below_step (hb_ HB.out) hb); (try clear hb); (try clear hb2); (try clear hk); (try clear hi); (try clear ho0)) | ((with_reducible refine gate_dst (N := 3) rfl ?_); refine be_ (N := 3) (cs := #[.int .i64 0, .int .i64 0, .slice none 0 0]) (t := 30) ?_; intro gb967 hg w146 hbox hb; have BK967 := am_ (hbox); have GW967 := am_ (hy_ hg (hb_ HB.out) : w.heap.size ≤ gb967); have GE967 := GW967; replace HO964 := am_ (Kd.R_below (by (with_reducible repeat (first | apply Kd.R_alloc | apply Kd.R_drewN | apply Kd.R_drew)); exact HO964.out) hb); replace HB := am_ (below_step (hb_ HB.out) hb); clear hb hbox hg; obtain ⟨hcz147_0, hcz147_1, hcz147_2, hfz147_0, hfz147_1, hfz147_2⟩ := bc3_ BK967.out; obtain ⟨Ao148, co148, eo148⟩ := Kd.R_slice HO964.out; subst eo148) | ((with_reducible refine gate_callee (f := 12) rfl ?_); refine gl_ Try.func12 #[.agg #[.int .i64 t960, .int .i64 t961, .slice Ao148 t962.length co148], .int .i64 t965, .int .i64 t966] ?_; (with_reducible refine (impl_Occurrence.calls k t960 t961 _ _ t962 t965 t966 t968 t969 false _ ?side1 ?side2 A5.out).mono ?_); (case side1 => refine (Kd.R_reads' (e := 42) (base := w.heap.size) (ok := fun k_ => True) (n := t962.length) (c := co148) ?_).2.2; exact (by (with_reducible repeat (first | apply Kd.R_alloc | apply Kd.R_drewN | apply Kd.R_drew)); exact (Kd.R_mono (Kd.R_far (p := ⟨gb967, 2, none⟩) (Kd.R_far (p := ⟨gb967, 1, none⟩) (Kd.R_far (p := ⟨gb967, 0, none⟩) (Kd.R_types HO964.out BK967.out (by decide)) (fun _ hk => hk.2) (.int .i64 t960)) (fun _ hk => hk.2) (.int .i64 t961)) (fun _ hk => hk.2) (.slice Ao148 t962.length co148)) (fun _ h_ => h_.1)))); (case side2 => exact (Kd.R_reads' HO964.out).2.1); rintro e w149 ⟨rfl, hb⟩; refine ⟨_, rfl, ?_⟩; replace HO964 := am_ (Kd.R_below (by (with_reducible repeat (first | apply Kd.R_alloc | apply Kd.R_drewN | apply Kd.R_drew)); exact (Kd.R_mono (Kd.R_far (p := ⟨gb967, 2, none⟩) (Kd.R_far (p := ⟨gb967, 1, none⟩) (Kd.R_far (p := ⟨gb967, 0, none⟩) (Kd.R_types HO964.out BK967.out (by decide)) (fun _ hk => hk.2) (.int .i64 t960)) (fun _ hk => hk.2) (.int .i64 t961)) (fun _ hk => hk.2) (.slice Ao148 t962.length co148)) (fun _ h_ => h_.1))) hb); replace BK967 := am_ (blk_below (g := gb967) (o := .cells #[.int .i64 t960, .int .i64 t961, .slice Ao148 t962.length co148] 30 (0, 0)) (by (with_reducible repeat (first | refine blk_drewN ?_ _ | refine blk_drew ?_ | refine blk_alloc ?_ _)); refine blk_put (cs := #[.int .i64 t960, .int .i64 t961, .slice none 0 0]) ?_ 2 _ rfl; (with_reducible repeat (first | refine blk_drewN ?_ _ | refine blk_drew ?_ | refine blk_alloc ?_ _)); refine blk_put (cs := #[.int .i64 t960, .int .i64 0, .slice none 0 0]) ?_ 1 _ rfl; (with_reducible repeat (first | refine blk_drewN ?_ _ | refine blk_drew ?_ | refine blk_alloc ?_ _)); refine blk_put (cs := #[.int .i64 0, .int .i64 0, .slice none 0 0]) ?_ 0 _ rfl; (with_reducible repeat (first | refine blk_drewN ?_ _ | refine blk_drew ?_ | refine blk_alloc ?_ _)); exact BK967.out) hb); replace HB := am_ (below_step (hb1_ HB.out GE967.out) hb); (try clear hb); (try clear hb2); (try clear hk); (try clear hi)) | ((with_reducible refine gate_dst (N := 6) rfl ?_); refine be_ (N := 6) (cs := #[.int .i64 0, .int .i64 0]) (t := 25) ?_; intro gb971 hg w150 hbox hb; have BK971 := am_ (hbox); have GW971 := am_ (hy_ hg (hb1_ HB.out GE967.out) : w.heap.size ≤ gb971); have GE971 := GW971; have NB967_971 := am_ (bl_ hg BK967.out : gb967 ≠ gb971); have NB971_967 := nb_ NB967_971; replace HO964 := am_ (Kd.R_below (by (with_reducible repeat (first | apply Kd.R_alloc | apply Kd.R_drewN | apply Kd.R_drew)); exact HO964.out) hb); replace BK967 := am_ (bb_ BK967.out hb); replace HB := am_ (below_step (hb1_ HB.out GE967.out) hb); clear hb hbox hg; have hnb151 := NB971_967.out; have hnc151 := NB967_971.out; obtain ⟨hcz152_0, hcz152_1, hfz152_0, hfz152_1⟩ := bc2_ BK971.out; obtain ⟨hcz153_0, hcz153_1, hcz153_2, hfz153_0, hfz153_1, hfz153_2⟩ := bc3_ BK967.out) | ((with_reducible refine gate_callee (f := 26) rfl ?_); refine gl_ Try.func26 #[.agg #[.int .i64 t960, .int .i64 t961, .slice Ao148 t962.length co148], .int .i64 t965, .int .i64 t966] ?_; (with_reducible refine (spec_Occurrence.calls k t960 t961 _ _ t962 t965 t966 t972 t973 t974 _ ?side1 ?side2 A6.out).mono ?_); (case side1 => refine (Kd.R_reads' (e := 42) (base := w.heap.size) (ok := fun k_ => True) (n := t962.length) (c := co148) ?_).2.2; exact (by (with_reducible repeat (first | apply Kd.R_alloc | apply Kd.R_drewN | apply Kd.R_drew)); exact (Kd.R_mono (Kd.R_far (p := ⟨gb971, 1, none⟩) (Kd.R_far (p := ⟨gb971, 0, none⟩) (Kd.R_types HO964.out BK971.out (by decide)) (fun _ hk => hk.2) (.int .i64 t968)) (fun _ hk => hk.2) (.int .i64 t969)) (fun _ h_ => h_.1)))); (case side2 => exact (Kd.R_reads' HO964.out).2.1); rintro e w154 ⟨rfl, hb⟩; refine ⟨_, rfl, ?_⟩; replace HO964 := am_ (Kd.R_below (by (with_reducible repeat (first | apply Kd.R_alloc | apply Kd.R_drewN | apply Kd.R_drew)); exact (Kd.R_mono (Kd.R_far (p := ⟨gb971, 1, none⟩) (Kd.R_far (p := ⟨gb971, 0, none⟩) (Kd.R_types HO964.out BK971.out (by decide)) (fun _ hk => hk.2) (.int .i64 t968)) (fun _ hk => hk.2) (.int .i64 t969)) (fun _ h_ => h_.1))) hb); replace BK967 := am_ (blk_below (g := gb967) (o := .cells #[.int .i64 t960, .int .i64 t961, .slice Ao148 t962.length co148] 30 (0, 0)) (by (with_reducible repeat (first | refine blk_drewN ?_ _ | refine blk_drew ?_ | refine blk_alloc ?_ _)); refine blk_far ?_ NB967_971.out _; (with_reducible repeat (first | refine blk_drewN ?_ _ | refine blk_drew ?_ | refine blk_alloc ?_ _)); refine blk_far ?_ NB967_971.out _; (with_reducible repeat (first | refine blk_drewN ?_ _ | refine blk_drew ?_ | refine blk_alloc ?_ _)); exact BK967.out) hb); replace BK971 := am_ (blk_below (g := gb971) (o := .cells #[.int .i64 t968, .int .i64 t969] 25 (0, 0)) (by (with_reducible repeat (first | refine blk_drewN ?_ _ | refine blk_drew ?_ | refine blk_alloc ?_ _)); refine blk_put (cs := #[.int .i64 t968, .int .i64 0]) ?_ 1 _ rfl; (with_reducible repeat (first | refine blk_drewN ?_ _ | refine blk_drew ?_ | refine blk_alloc ?_ _)); refine blk_put (cs := #[.int .i64 0, .int .i64 0]) ?_ 0 _ rfl; (with_reducible repeat (first | refine blk_drewN ?_ _ | refine blk_drew ?_ | refine blk_alloc ?_ _)); exact BK971.out) hb); replace HB := am_ (below_step (hb2_ HB.out GE967.out GE971.out) hb); (try clear hb); (try clear hb2); (try clear hk); (try clear hi)) | ((with_reducible refine gate_dst (N := 8) rfl ?_); refine be_ (N := 8) (cs := #[.int .i64 0, .int .i64 0]) (t := 25) ?_; intro gb975 hg w155 hbox hb; have BK975 := am_ (hbox); have GW975 := am_ (hy_ hg (hb2_ HB.out GE967.out GE971.out) : w.heap.size ≤ gb975); have GE975 := GW975; have NB967_975 := am_ (bl_ hg BK967.out : gb967 ≠ gb975); have NB975_967 := nb_ NB967_975; have NB971_975 := am_ (bl_ hg BK971.out : gb971 ≠ gb975); have NB975_971 := nb_ NB971_975; replace HO964 := am_ (Kd.R_below (by (with_reducible repeat (first | apply Kd.R_alloc | apply Kd.R_drewN | apply Kd.R_drew)); exact HO964.out) hb); replace BK967 := am_ (bb_ BK967.out hb); replace BK971 := am_ (bb_ BK971.out hb); replace HB := am_ (below_step (hb2_ HB.out GE967.out GE971.out) hb); clear hb hbox hg; have hnb156 := NB975_967.out; have hnc156 := NB967_975.out; have hnb157 := NB975_971.out; have hnc157 := NB971_975.out; obtain ⟨hcz158_0, hcz158_1, hfz158_0, hfz158_1⟩ := bc2_ BK975.out) | ((with_reducible refine gate_dst (N := 53) rfl ?_); refine Kd.R_lit k42 _ 42 ?hg (N := 53) ?hd (xs := ([(⟨0, 7⟩ : S42)] : List (S42))) (inner := [.int .i64 0, .int .i64 7]) (ok := fun _ => True) (okp := fun _ => True) ?hr ?hp (fun _ hk => hk) trivial (Below.refl _ _) (Nat.le_refl _) (by simp) ?_; (case hd => rfl); (case hg => rfl); (case hr => first|(go_simp;done)|(go_simp;rfl)); (case hp => exact (Reps.c2 (show Kd.M k42 _ _ _ (⟨0, 7⟩ : S42) [.int .i64 0, .int .i64 7] from (k42_mkM _ _ _ (⟨0, 7⟩ : S42) )) (Reps.none _ _))); intro v977 w159 ho160 hb hg_ hnew_; clear hg_ hnew_; (first | rw [← Ny976.out] at ho160 | (simp only [Int.reduceToNat] at ho160; rw [← Ny976.out] at ho160)); have HO978 := am_ (Kd.R_lower (Kd.R_new' ho160 (Kd.R_lt (by (with_reducible repeat (first | apply Kd.R_alloc | apply Kd.R_drewN | apply Kd.R_drew)); exact (Kd.R_mono (Kd.R_far (p := ⟨gb975, 1, none⟩) (Kd.R_far (p := ⟨gb975, 0, none⟩) (Kd.R_types HO964.out BK975.out (by decide)) (fun _ hk => hk.2) (.int .i64 t972)) (fun _ hk => hk.2) (.int .i64 t973)) (fun _ h_ => h_.1))))) (below_size (hb3_ HB.out GE967.out GE971.out GE975.out))); replace HO964 := am_ (Kd.R_elder' (by (with_reducible repeat (first | apply Kd.R_alloc | apply Kd.R_drewN | apply Kd.R_drew)); exact (Kd.R_mono (Kd.R_far (p := ⟨gb975, 1, none⟩) (Kd.R_far (p := ⟨gb975, 0, none⟩) (Kd.R_types HO964.out BK975.out (by decide)) (fun _ hk => hk.2) (.int .i64 t972)) (fun _ hk => hk.2) (.int .i64 t973)) (fun _ h_ => h_.1))) (Kd.R_base ho160) hb); replace BK967 := am_ (blk_below (g := gb967) (o := .cells #[.int .i64 t960, .int .i64 t961, .slice Ao148 t962.length co148] 30 (0, 0)) (by (with_reducible repeat (first | refine blk_drewN ?_ _ | refine blk_drew ?_ | refine blk_alloc ?_ _)); refine blk_far ?_ NB967_975.out _; (with_reducible repeat (first | refine blk_drewN ?_ _ | refine blk_drew ?_ | refine blk_alloc ?_ _)); refine blk_far ?_ NB967_975.out _; (with_reducible repeat (first | refine blk_drewN ?_ _ | refine blk_drew ?_ | refine blk_alloc ?_ _)); exact BK967.out) hb); replace BK971 := am_ (blk_below (g := gb971) (o := .cells #[.int .i64 t968, .int .i64 t969] 25 (0, 0)) (by (with_reducible repeat (first | refine blk_drewN ?_ _ | refine blk_drew ?_ | refine blk_alloc ?_ _)); refine blk_far ?_ NB971_975.out _; (with_reducible repeat (first | refine blk_drewN ?_ _ | refine blk_drew ?_ | refine blk_alloc ?_ _)); refine blk_far ?_ NB971_975.out _; (with_reducible repeat (first | refine blk_drewN ?_ _ | refine blk_drew ?_ | refine blk_alloc ?_ _)); exact BK971.out) hb); replace BK975 := am_ (blk_below (g := gb975) (o := .cells #[.int .i64 t972, .int .i64 t973] 25 (0, 0)) (by (with_reducible repeat (first | refine blk_drewN ?_ _ | refine blk_drew ?_ | refine blk_alloc ?_ _)); refine blk_put (cs := #[.int .i64 t972, .int .i64 0]) ?_ 1 _ rfl; (with_reducible repeat (first | refine blk_drewN ?_ _ | refine blk_drew ?_ | refine blk_alloc ?_ _)); refine blk_put (cs := #[.int .i64 0, .int .i64 0]) ?_ 0 _ rfl; (with_reducible repeat (first | refine blk_drewN ?_ _ | refine blk_drew ?_ | refine blk_alloc ?_ _)); exact BK975.out) hb); replace HB := am_ (below_step (hb3_ HB.out GE967.out GE971.out GE975.out) hb); clear hb ho160; obtain ⟨Ao161, co161, eo161⟩ := Kd.R_slice HO978.out; subst eo161) | ((with_reducible refine gate_callee (f := 28) rfl ?_); refine gl_ Try.func28 #[.agg #[.int .i64 0, .int .i64 2, .slice Ao161 y976.length co161]] ?_; (with_reducible refine (impl_RoundOf.calls k 0 2 _ _ y976 t979 _ ?side1 ?side2 A144.out).mono ?_); (case side1 => repeat (first | exact (Kd.R_reads' HO978.out).2.2 | (with_reducible refine Kd.C_alloc ?_ _) | (with_reducible refine Kd.C_drewN ?_ _) | (with_reducible refine Kd.C_drew ?_))); (case side2 => exact (Kd.R_reads' HO978.out).2.1); rintro e w162 ⟨rfl, hb⟩; refine ⟨_, rfl, ?_⟩; replace HO964 := am_ (Kd.R_below (by (with_reducible repeat (first | apply Kd.R_alloc | apply Kd.R_drewN | apply Kd.R_drew)); exact HO964.out) hb); replace HO978 := am_ (Kd.R_below (by (with_reducible repeat (first | apply Kd.R_alloc | apply Kd.R_drewN | apply Kd.R_drew)); exact HO978.out) hb); replace BK967 := am_ (bb_ BK967.out hb); replace BK971 := am_ (bb_ BK971.out hb); replace BK975 := am_ (bb_ BK975.out hb); replace HB := am_ (below_step (hb3_ HB.out GE967.out GE971.out GE975.out) hb); (try clear hb); (try clear hb2); (try clear hk); (try clear hi)))
    go_ret
    exact ⟨er_, hb3_ HB.out GE967.out GE971.out GE975.out⟩
end Go.Proofs.Ytllpmpfchidhoaa.P
