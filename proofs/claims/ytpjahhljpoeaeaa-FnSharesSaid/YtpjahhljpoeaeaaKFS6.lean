/- Texts of the seat's proofs, part 6: functions of the program told as plain functions, with their contracts, and what is shown of them. No condition. -/
import Derived.Test.YtpjahhljpoeaeaaUKFS
import Derived.Test.YtpjahhljpoeaeaaKFS1
import Derived.Test.YtpjahhljpoeaeaaKFS2
import Derived.Test.YtpjahhljpoeaeaaKFS4
import Derived.Test.YtpjahhljpoeaeaaKFS5
set_option linter.unusedVariables false
set_option linter.unusedSimpArgs false
namespace Go.Proofs.Ytpjahhljpoeaeaa.P
open Go.RowKit Go.Proofs.YtpjahhljpoeaeaaW.PrintWords Go.Proofs.YtpjahhljpoeaeaaW.PrintLast Go.Proofs.YtpjahhljpoeaeaaW.PrintMore
attribute [local go_sem] max2_int min2_int max_two min_two max_three min_three max_four min_four
set_option linter.unusedVariables false
set_option linter.unusedSimpArgs false
def laws_FnShares.l0 : Nat → Int → List Int → Int → Int → Int → Int → Int → List (S79) → Int → Int → Option (Bool)
  | 0, _, _, _, _, _, _, _, _, _, _ => none
  | k + 1, x4, x7, x8, x9, x10, x1105000, x1105001, x1105002, x1109000, x1109001 => if x10 < (x7.length : Int) then (if 0 ≤ x10 then ((impl_ShareOf.f k x1105000 x1105001 x1105002 (rd x7 x10)).bind fun bt1118 => (if bt1118.2.2 = true then (if bt1118.2.1 < 1 then (some false) else (if bt1118.2.1 = 0 then (none) else (if (Int.tmod x8 bt1118.2.1) = 0 then (if bt1118.1 < 1 then (some false) else (if x10 > 0 then (if 0 ≤ (wrap64 (x10 - 1)) then (if (wrap64 (x10 - 1)) < (x7.length : Int) then (if (rd x7 (wrap64 (x10 - 1))) ≥ (rd x7 x10) then (some false) else (laws_FnShares.l0 k x4 x7 x8 (wrap64 (x9 + (wrap64 (bt1118.1 * (wrap64 (Int.tdiv x8 bt1118.2.1)))))) (wrap64 (x10 + 1)) x1105000 x1105001 x1105002 x1109000 x1109001)) else (none)) else (none)) else (laws_FnShares.l0 k x4 x7 x8 (wrap64 (x9 + (wrap64 (bt1118.1 * (wrap64 (Int.tdiv x8 bt1118.2.1)))))) (wrap64 (x10 + 1)) x1105000 x1105001 x1105002 x1109000 x1109001))) else (some false)))) else (some false))) else (none)) else (if x9 = x8 then ((laws_within.f k x7 x4).bind fun t1124 => (some ((x1109000 == 0) == (!t1124)))) else (some false))
def laws_FnShares.f (k : Nat) (l0 : List Int) : Option (Bool) := (laws_big.f l0).bind fun t1097 => (if t1097 = true then (some true) else ((spec_DrawShareOf.f k l0).bind fun bt1098 => ((impl_ShareOf.f k bt1098.1 bt1098.2.1 bt1098.2.2.1 bt1098.2.2.2).bind fun bt1105 => ((spec_PlanOk.f k bt1098.1 bt1098.2.1 bt1098.2.2.1).bind fun t1109 => (if (bt1105.2.2 != t1109) = true then (some false) else (if bt1105.2.2 = true then ((impl_OwnersOf.f k bt1098.1 bt1098.2.1 bt1098.2.2.1).bind fun t1113 => ((impl_RoundOf.f k bt1098.1 bt1098.2.1 bt1098.2.2.1).bind fun t1116 => (laws_FnShares.l0 k bt1098.2.2.2 t1113 t1116 (wrap64 (bt1098.2.1 * (bt1098.2.2.1.length : Int))) 0 bt1098.1 bt1098.2.1 bt1098.2.2.1 bt1105.1 bt1105.2.1))) else ((impl_OwnersOf.f k bt1098.1 bt1098.2.1 bt1098.2.2.1).bind fun t1110 => (some ((t1110.length : Int) == 0)))))))))
def laws_FnShares.T15 : Bool × List (List Nat × List Nat) := (true, [([], []), ([], []), ([], []), ([1, 2], [1, 2]), ([3], [3]), ([0, 4], [0, 4]), ([5], [5]), ([6], [6]), ([6], [6]), ([], []), ([9, 7, 5, 0, 1, 2, 3, 4, 5, 6, 7, 9], [7, 9]), ([8, 10, 0, 1, 2, 3, 4, 5, 6, 7, 8, 9, 10], [8])])
def laws_FnShares.B15 : List Nat := [0, 0, 0, 6, 14, 31, 63, 127, 127, 0, 767, 2047]
theorem laws_FnShares.tab15 : rtab .any (opsOf Try.f7 15) = laws_FnShares.T15 := by kernel_rfl
theorem laws_FnShares.bits15 : waitsOk laws_FnShares.T15.2 laws_FnShares.B15 = true := by kernel_rfl
def laws_FnShares.T16 : Bool × List (List Nat × List Nat) := (true, [([], []), ([0], [0]), ([1], [1]), ([2], [2]), ([3, 2], [2, 3]), ([4, 2], [2, 4]), ([2, 5], [2, 5]), ([6, 2], [6]), ([7], [7]), ([7], [7]), ([9, 7], [7, 9]), ([8, 10, 7], [7, 8, 10]), ([11, 7], [7, 11]), ([7, 12], [7, 12]), ([13, 7], [13]), ([14], [14]), ([15, 14], [14, 15]), ([16, 14], [14, 16]), ([14, 17], [14, 17]), ([18, 14], [18]), ([19], [19]), ([20, 19], [19, 20]), ([21, 19, 19], [19, 21]), ([22], [22]), ([22], [22]), ([24, 22], [22, 24]), ([23, 25, 22], [22, 23, 25]), ([26, 22], [22, 26]), ([22], [22]), ([22], [22]), ([28, 29, 22], [22, 28, 29]), ([30, 22], [22, 30]), ([27, 31, 22], [22, 27, 31]), ([22, 32, 19], [19, 22, 32]), ([19, 33], [19, 33])])
def laws_FnShares.B16 : List Nat := [0, 1, 3, 7, 15, 31, 63, 127, 255, 255, 767, 2047, 4095, 8191, 16383, 32767, 65535, 131071, 262143, 524287, 1048575, 2097151, 4194303, 8388607, 8388607, 25165823, 67108863, 134217727, 8388607, 8388607, 813694975, 1887436799, 4294967295, 8589934591, 17179869183]
theorem laws_FnShares.tab16 : rtab .any (opsOf Try.f7 16) = laws_FnShares.T16 := by kernel_rfl
theorem laws_FnShares.bits16 : waitsOk laws_FnShares.T16.2 laws_FnShares.B16 = true := by kernel_rfl
def laws_FnShares.T18 : Bool × List (List Nat × List Nat) := (true, [([], []), ([], []), ([1], [1]), ([], []), ([], []), ([4], [4]), ([3, 5], [3, 5]), ([2, 6], [2, 6]), ([0, 7], [0, 7]), ([8, 0, 1, 2, 3, 4, 5, 6, 7, 8], [0, 8])])
def laws_FnShares.B18 : List Nat := [0, 0, 2, 0, 0, 16, 56, 126, 255, 511]
theorem laws_FnShares.tab18 : rtab .any (opsOf Try.f7 18) = laws_FnShares.T18 := by kernel_rfl
theorem laws_FnShares.bits18 : waitsOk laws_FnShares.T18.2 laws_FnShares.B18 = true := by kernel_rfl
def laws_FnShares.T19 : Bool × List (List Nat × List Nat) := (true, [([], []), ([], []), ([0, 1], [0, 1]), ([2], [2]), ([3], [3]), ([4, 3], [3, 4]), ([5, 3], [3, 5]), ([3], [3]), ([3], [3]), ([7, 8, 3, 3], [3, 7, 8]), ([9, 3], [3, 9]), ([6, 10, 3], [3, 6, 10]), ([3, 11], [3, 11]), ([12, 9, 0, 1, 2, 3, 4, 5, 6, 7, 8, 9, 10, 11, 12], [12])])
def laws_FnShares.B19 : List Nat := [0, 0, 3, 7, 15, 31, 63, 15, 15, 399, 911, 2047, 4095, 8191]
theorem laws_FnShares.tab19 : rtab .any (opsOf Try.f7 19) = laws_FnShares.T19 := by kernel_rfl
theorem laws_FnShares.bits19 : waitsOk laws_FnShares.T19.2 laws_FnShares.B19 = true := by kernel_rfl
set_option maxHeartbeats 8000000 in
set_option maxRecDepth 100000 in
theorem laws_FnShares.calls (k : Nat) (A0 : Option Addr) (c0 : Nat) (l0 : List Int) (r : Bool) (w : World) (hr0 : Kd.C (Kd.int .u8) w A0 l0.length l0) (hc0 : l0.length ≤ c0) (hr_ : r = true) (h : laws_FnShares.f k l0 = some r) :
    Calls Try.prog 7 #[.slice A0 l0.length c0] w fun e w' => e = .returned (.bool r) ∧ Below w.heap.size w w' := by
  have hu39 := Try.underlying39
  have hu70 := Try.underlying70
  have HR0 := Aside0.mk hr0
  have HC0 := Aside0.mk hc0
  clear hr0 hc0
  have HB := Aside0.mk (Below.refl w.heap.size w)
  have H : ((laws_big.f l0).bind fun t1097 => (if t1097 = true then (some true) else ((spec_DrawShareOf.f k l0).bind fun bt1098 => ((impl_ShareOf.f k bt1098.1 bt1098.2.1 bt1098.2.2.1 bt1098.2.2.2).bind fun bt1105 => ((spec_PlanOk.f k bt1098.1 bt1098.2.1 bt1098.2.2.1).bind fun t1109 => (if (bt1105.2.2 != t1109) = true then (some false) else (if bt1105.2.2 = true then ((impl_OwnersOf.f k bt1098.1 bt1098.2.1 bt1098.2.2.1).bind fun t1113 => ((impl_RoundOf.f k bt1098.1 bt1098.2.1 bt1098.2.2.1).bind fun t1116 => (laws_FnShares.l0 k bt1098.2.2.2 t1113 t1116 (wrap64 (bt1098.2.1 * (bt1098.2.2.1.length : Int))) 0 bt1098.1 bt1098.2.1 bt1098.2.2.1 bt1105.1 bt1105.2.1))) else ((impl_OwnersOf.f k bt1098.1 bt1098.2.1 bt1098.2.2.1).bind fun t1110 => (some ((t1110.length : Int) == 0)))))))))) = some r := h
  clear h
  replace H := Option.bind_eq_some_iff.mp H
  obtain ⟨t1097, A20, H⟩ := H
  replace H : (if t1097 = true then (some true) else ((spec_DrawShareOf.f k l0).bind fun bt1098 => ((impl_ShareOf.f k bt1098.1 bt1098.2.1 bt1098.2.2.1 bt1098.2.2.2).bind fun bt1105 => ((spec_PlanOk.f k bt1098.1 bt1098.2.1 bt1098.2.2.1).bind fun t1109 => (if (bt1105.2.2 != t1109) = true then (some false) else (if bt1105.2.2 = true then ((impl_OwnersOf.f k bt1098.1 bt1098.2.1 bt1098.2.2.1).bind fun t1113 => ((impl_RoundOf.f k bt1098.1 bt1098.2.1 bt1098.2.2.1).bind fun t1116 => (laws_FnShares.l0 k bt1098.2.2.2 t1113 t1116 (wrap64 (bt1098.2.1 * (bt1098.2.2.1.length : Int))) 0 bt1098.1 bt1098.2.1 bt1098.2.2.1 bt1105.1 bt1105.2.1))) else ((impl_OwnersOf.f k bt1098.1 bt1098.2.1 bt1098.2.2.1).bind fun t1110 => (some ((t1110.length : Int) == 0))))))))) = some r := H
  have A2 := Aside0.mk A20
  clear A20
  by_cases c3 : t1097 = true
  · subst c3
    have H1 : (some true) = some r := by rw [if_pos rfl] at H; exact H
    clear H
    have H := H1
    clear H1
    obtain rfl := Option.some.inj H
    go_enter Try.func7, Try.ntmps7
    go_wp2_with (first | ((with_reducible refine gate_callee (f := 26) rfl ?_); refine goesL_ (some 14) rfl rfl Try.func26 (by kernel_rfl) rfl #[.slice A0 l0.length c0] rfl arr_ ?_; (with_reducible refine (laws_big.calls _ _ l0 true _ ?side1 ?side2 A2.out).mono ?_); (case side1 => repeat (first | exact HR0.out | (with_reducible refine Kd.C_alloc ?_ _) | (with_reducible refine Kd.C_drewN ?_ _) | (with_reducible refine Kd.C_drew ?_))); (case side2 => exact HC0.out); rintro e w' ⟨rfl, ⟨nd, rfl⟩⟩; refine ⟨_, rfl, ?_⟩))
    go_ret
    exact ⟨er_, hb_ HB.out⟩
  · replace c3 := Bool.eq_false_iff.mpr c3
    subst c3
    have H1 : ((spec_DrawShareOf.f k l0).bind fun bt1098 => ((impl_ShareOf.f k bt1098.1 bt1098.2.1 bt1098.2.2.1 bt1098.2.2.2).bind fun bt1105 => ((spec_PlanOk.f k bt1098.1 bt1098.2.1 bt1098.2.2.1).bind fun t1109 => (if (bt1105.2.2 != t1109) = true then (some false) else (if bt1105.2.2 = true then ((impl_OwnersOf.f k bt1098.1 bt1098.2.1 bt1098.2.2.1).bind fun t1113 => ((impl_RoundOf.f k bt1098.1 bt1098.2.1 bt1098.2.2.1).bind fun t1116 => (laws_FnShares.l0 k bt1098.2.2.2 t1113 t1116 (wrap64 (bt1098.2.1 * (bt1098.2.2.1.length : Int))) 0 bt1098.1 bt1098.2.1 bt1098.2.2.1 bt1105.1 bt1105.2.1))) else ((impl_OwnersOf.f k bt1098.1 bt1098.2.1 bt1098.2.2.1).bind fun t1110 => (some ((t1110.length : Int) == 0)))))))) = some r := by rw [if_neg (show ¬ (false = true) by decide)] at H; exact H
    clear H
    have H := H1
    clear H1
    replace H := Option.bind_eq_some_iff.mp H
    obtain ⟨⟨t1098, t1099, t1100, t1103⟩, A40, H⟩ := H
    replace H : ((impl_ShareOf.f k t1098 t1099 t1100 t1103).bind fun bt1105 => ((spec_PlanOk.f k t1098 t1099 t1100).bind fun t1109 => (if (bt1105.2.2 != t1109) = true then (some false) else (if bt1105.2.2 = true then ((impl_OwnersOf.f k t1098 t1099 t1100).bind fun t1113 => ((impl_RoundOf.f k t1098 t1099 t1100).bind fun t1116 => (laws_FnShares.l0 k t1103 t1113 t1116 (wrap64 (t1099 * (t1100.length : Int))) 0 t1098 t1099 t1100 bt1105.1 bt1105.2.1))) else ((impl_OwnersOf.f k t1098 t1099 t1100).bind fun t1110 => (some ((t1110.length : Int) == 0))))))) = some r := H
    have A4 := Aside0.mk A40
    clear A40
    replace H := Option.bind_eq_some_iff.mp H
    obtain ⟨⟨t1105, t1106, t1107⟩, A50, H⟩ := H
    replace H : ((spec_PlanOk.f k t1098 t1099 t1100).bind fun t1109 => (if (t1107 != t1109) = true then (some false) else (if t1107 = true then ((impl_OwnersOf.f k t1098 t1099 t1100).bind fun t1113 => ((impl_RoundOf.f k t1098 t1099 t1100).bind fun t1116 => (laws_FnShares.l0 k t1103 t1113 t1116 (wrap64 (t1099 * (t1100.length : Int))) 0 t1098 t1099 t1100 t1105 t1106))) else ((impl_OwnersOf.f k t1098 t1099 t1100).bind fun t1110 => (some ((t1110.length : Int) == 0)))))) = some r := H
    have A5 := Aside0.mk A50
    clear A50
    replace H := Option.bind_eq_some_iff.mp H
    obtain ⟨t1109, A60, H⟩ := H
    replace H : (if (t1107 != t1109) = true then (some false) else (if t1107 = true then ((impl_OwnersOf.f k t1098 t1099 t1100).bind fun t1113 => ((impl_RoundOf.f k t1098 t1099 t1100).bind fun t1116 => (laws_FnShares.l0 k t1103 t1113 t1116 (wrap64 (t1099 * (t1100.length : Int))) 0 t1098 t1099 t1100 t1105 t1106))) else ((impl_OwnersOf.f k t1098 t1099 t1100).bind fun t1110 => (some ((t1110.length : Int) == 0))))) = some r := H
    have A6 := Aside0.mk A60
    clear A60
    by_cases c7 : (t1107 != t1109) = true
    · rw [if_pos c7] at H
      have c7b0 : (t1107 != t1109) = true := c7
      (try (have c7b1 : decide (t1107 = t1109) = false := by simpa using c7))
      (try (have c7b2 : (t1107 == t1109) = false := by simpa using c7))
      (try (have c7b3 : ¬ (t1107 = t1109) := by simpa using c7))
      clear c7
      obtain rfl := Option.some.inj H
      exact absurd hr_ (by decide)
    · rw [if_neg c7] at H
      have c7b0 : (t1107 != t1109) = false := by simpa using c7
      (try (have c7b1 : decide (t1107 = t1109) = true := by simpa using c7))
      (try (have c7b2 : (t1107 == t1109) = true := by simpa using c7))
      clear c7
      by_cases c8 : t1107 = true
      · subst c8
        have H1 : ((impl_OwnersOf.f k t1098 t1099 t1100).bind fun t1113 => ((impl_RoundOf.f k t1098 t1099 t1100).bind fun t1116 => (laws_FnShares.l0 k t1103 t1113 t1116 (wrap64 (t1099 * (t1100.length : Int))) 0 t1098 t1099 t1100 t1105 t1106))) = some r := by rw [if_pos rfl] at H; exact H
        clear H
        have H := H1
        clear H1
        replace H := Option.bind_eq_some_iff.mp H
        obtain ⟨t1113, A90, H⟩ := H
        replace H : ((impl_RoundOf.f k t1098 t1099 t1100).bind fun t1116 => (laws_FnShares.l0 k t1103 t1113 t1116 (wrap64 (t1099 * (t1100.length : Int))) 0 t1098 t1099 t1100 t1105 t1106)) = some r := H
        have A9 := Aside0.mk A90
        clear A90
        replace H := Option.bind_eq_some_iff.mp H
        obtain ⟨t1116, A100, H⟩ := H
        replace H : (laws_FnShares.l0 k t1103 t1113 t1116 (wrap64 (t1099 * (t1100.length : Int))) 0 t1098 t1099 t1100 t1105 t1106) = some r := H
        have A10 := Aside0.mk A100
        clear A100
        have H' := Aside0.mk H
        clear H
        go_enter Try.func7, Try.ntmps7
        go_wp2_with (first | ((with_reducible refine gate_callee (f := 26) rfl ?_); refine goesL_ (some 14) rfl rfl Try.func26 (by kernel_rfl) rfl #[.slice A0 l0.length c0] rfl arr_ ?_; (with_reducible refine (laws_big.calls _ _ l0 false _ ?side1 ?side2 A2.out).mono ?_); (case side1 => repeat (first | exact HR0.out | (with_reducible refine Kd.C_alloc ?_ _) | (with_reducible refine Kd.C_drewN ?_ _) | (with_reducible refine Kd.C_drew ?_))); (case side2 => exact HC0.out); rintro e w' ⟨rfl, ⟨nd, rfl⟩⟩; refine ⟨_, rfl, ?_⟩) | ((with_reducible refine gate_callee (f := 37) rfl ?_); refine goesL_ (some 17) rfl rfl Try.func37 (by kernel_rfl) rfl #[.slice A0 l0.length c0] rfl arr_ ?_; (with_reducible refine (spec_DrawShareOf.calls k _ _ l0 t1098 t1099 t1100 t1103 _ ?side1 ?side2 A4.out).mono ?_); (case side1 => repeat (first | exact HR0.out | (with_reducible refine Kd.C_alloc ?_ _) | (with_reducible refine Kd.C_drewN ?_ _) | (with_reducible refine Kd.C_drew ?_))); (case side2 => exact HC0.out); rintro e w11 ⟨v1101, rfl, ho0, hb⟩; refine ⟨_, rfl, ?_⟩; have n0_ := Aside0.mk (Kd.R_lower ho0 (below_size (hb_ HB.out))); have n1_ := Aside0.mk (below_step (hb_ HB.out) hb); clear HB; have HO1102 := n0_; have HB := n1_; clear n0_ n1_; (try clear hb); (try clear hb2); (try clear hk); (try clear hi); (try clear ho0)) | ((with_reducible refine gate_dst (N := 3) rfl ?_); refine box_event ?hg (N := 3) ?hd (cs := #[.int .i64 0, .int .i64 0, .slice none 0 0]) (t := 39) ?hr ?_; (case hd => rfl); (case hg => rfl); (case hr => first | (go_simp; done) | (go_simp; rfl)); intro gb1104 hg w12 hbox hb; have n0_ := Aside0.mk (Kd.R_below (by (with_reducible repeat (first | apply Kd.R_alloc | apply Kd.R_drewN | apply Kd.R_drew)); exact HO1102.out) hb); have n1_ := Aside0.mk (below_step (hb_ HB.out) hb); have n2_ := Aside0.mk (hbox); have n3_ := Aside0.mk ((by rw [hg]; exact (below_size (hb_ HB.out)) : w.heap.size ≤ gb1104)); have n4_ := Aside0.mk ((by rw [hg]; exact (below_size (hb_ HB.out)) : w.heap.size ≤ gb1104)); clear HO1102; clear HB; have HO1102 := n0_; have HB := n1_; have BK1104 := n2_; have GW1104 := n3_; have GE1104 := n4_; clear n0_ n1_ n2_ n3_ n4_; clear hb hbox hg; have hcz13_0 := bc_ BK1104.out 0 (.int .i64 0) rfl; have hcz13_1 := bc_ BK1104.out 1 (.int .i64 0) rfl; have hcz13_2 := bc_ BK1104.out 2 (.slice none 0 0) rfl; have hfz13_0 := blk_frozen BK1104.out 0; have hfz13_1 := blk_frozen BK1104.out 1; have hfz13_2 := blk_frozen BK1104.out 2; obtain ⟨Ao14, co14, eo14⟩ := Kd.R_slice HO1102.out; subst eo14) | ((with_reducible refine gate_callee (f := 38) rfl ?_); refine goesL_ (some 23) rfl rfl Try.func38 (by kernel_rfl) rfl #[.agg #[.int .i64 t1098, .int .i64 t1099, .slice Ao14 t1100.length co14], .int .i64 t1103] rfl arr_ ?_; (with_reducible refine (impl_ShareOf.calls k t1098 t1099 _ _ t1100 t1103 t1105 t1106 true _ ?side1 ?side2 A5.out).mono ?_); (case side1 => refine (Kd.R_reads' (e := 79) (base := w.heap.size) (ok := fun k_ => True) (n := t1100.length) (c := co14) ?_).2.2; exact (by (with_reducible repeat (first | apply Kd.R_alloc | apply Kd.R_drewN | apply Kd.R_drew)); exact (Kd.R_mono (Kd.R_far (p := ⟨gb1104, 2, none⟩) (Kd.R_far (p := ⟨gb1104, 1, none⟩) (Kd.R_far (p := ⟨gb1104, 0, none⟩) (Kd.R_types HO1102.out BK1104.out (by decide)) (fun _ hk => hk.2) (.int .i64 t1098)) (fun _ hk => hk.2) (.int .i64 t1099)) (fun _ hk => hk.2) (.slice Ao14 t1100.length co14)) (fun _ h_ => h_.1)))); (case side2 => exact (Kd.R_reads' HO1102.out).2.1); rintro e w15 ⟨rfl, hb⟩; refine ⟨_, rfl, ?_⟩; have n0_ := Aside0.mk (Kd.R_below (by (with_reducible repeat (first | apply Kd.R_alloc | apply Kd.R_drewN | apply Kd.R_drew)); exact (Kd.R_mono (Kd.R_far (p := ⟨gb1104, 2, none⟩) (Kd.R_far (p := ⟨gb1104, 1, none⟩) (Kd.R_far (p := ⟨gb1104, 0, none⟩) (Kd.R_types HO1102.out BK1104.out (by decide)) (fun _ hk => hk.2) (.int .i64 t1098)) (fun _ hk => hk.2) (.int .i64 t1099)) (fun _ hk => hk.2) (.slice Ao14 t1100.length co14)) (fun _ h_ => h_.1))) hb); have n1_ := Aside0.mk (blk_below (g := gb1104) (o := .cells #[.int .i64 t1098, .int .i64 t1099, .slice Ao14 t1100.length co14] 39 (0, 0)) (by (with_reducible repeat (first | refine blk_drewN ?_ _ | refine blk_drew ?_ | refine blk_alloc ?_ _)); refine blk_put (cs := #[.int .i64 t1098, .int .i64 t1099, .slice none 0 0]) ?_ 2 _ rfl; (with_reducible repeat (first | refine blk_drewN ?_ _ | refine blk_drew ?_ | refine blk_alloc ?_ _)); refine blk_put (cs := #[.int .i64 t1098, .int .i64 0, .slice none 0 0]) ?_ 1 _ rfl; (with_reducible repeat (first | refine blk_drewN ?_ _ | refine blk_drew ?_ | refine blk_alloc ?_ _)); refine blk_put (cs := #[.int .i64 0, .int .i64 0, .slice none 0 0]) ?_ 0 _ rfl; (with_reducible repeat (first | refine blk_drewN ?_ _ | refine blk_drew ?_ | refine blk_alloc ?_ _)); exact BK1104.out) hb); have n2_ := Aside0.mk (below_step (hb1_ HB.out GE1104.out) hb); clear HO1102; clear BK1104; clear HB; have HO1102 := n0_; have BK1104 := n1_; have HB := n2_; clear n0_ n1_ n2_; (try clear hb); (try clear hb2); (try clear hk); (try clear hi)) | ((with_reducible refine gate_dst (N := 5) rfl ?_); refine box_event ?hg (N := 5) ?hd (cs := #[.int .i64 0, .int .i64 0]) (t := 70) ?hr ?_; (case hd => rfl); (case hg => rfl); (case hr => first | (go_simp; done) | (go_simp; rfl)); intro gb1108 hg w16 hbox hb; have n0_ := Aside0.mk (Kd.R_below (by (with_reducible repeat (first | apply Kd.R_alloc | apply Kd.R_drewN | apply Kd.R_drew)); exact HO1102.out) hb); have n1_ := Aside0.mk (bb_ BK1104.out hb); have n2_ := Aside0.mk (below_step (hb1_ HB.out GE1104.out) hb); have n3_ := Aside0.mk (hbox); have n4_ := Aside0.mk ((by rw [hg]; exact (below_size (hb1_ HB.out GE1104.out)) : w.heap.size ≤ gb1108)); have n5_ := Aside0.mk ((by rw [hg]; exact (below_size (hb1_ HB.out GE1104.out)) : w.heap.size ≤ gb1108)); have n6_ := Aside0.mk ((bl_ hg BK1104.out : gb1104 ≠ gb1108)); have n7_ := Aside0.mk ((bg_ hg BK1104.out : gb1108 ≠ gb1104)); clear HO1102; clear BK1104; clear HB; have HO1102 := n0_; have BK1104 := n1_; have HB := n2_; have BK1108 := n3_; have GW1108 := n4_; have GE1108 := n5_; have NB1104_1108 := n6_; have NB1108_1104 := n7_; clear n0_ n1_ n2_ n3_ n4_ n5_ n6_ n7_; clear hb hbox hg; have hnb17 := NB1108_1104.out; have hnc17 := NB1104_1108.out; have hcz18_0 := bc_ BK1108.out 0 (.int .i64 0) rfl; have hcz18_1 := bc_ BK1108.out 1 (.int .i64 0) rfl; have hfz18_0 := blk_frozen BK1108.out 0; have hfz18_1 := blk_frozen BK1108.out 1; have hcz19_0 := bc_ BK1104.out 0 (.int .i64 t1098) rfl; have hcz19_1 := bc_ BK1104.out 1 (.int .i64 t1099) rfl; have hcz19_2 := bc_ BK1104.out 2 (.slice Ao14 t1100.length co14) rfl; have hfz19_0 := blk_frozen BK1104.out 0; have hfz19_1 := blk_frozen BK1104.out 1; have hfz19_2 := blk_frozen BK1104.out 2) | ((with_reducible refine gate_callee (f := 39) rfl ?_); refine goesL_ (some 28) rfl rfl Try.func39 (by kernel_rfl) rfl #[.agg #[.int .i64 t1098, .int .i64 t1099, .slice Ao14 t1100.length co14]] rfl arr_ ?_; (with_reducible refine (spec_PlanOk.calls k t1098 t1099 _ _ t1100 t1109 _ ?side1 ?side2 A6.out).mono ?_); (case side1 => refine (Kd.R_reads' (e := 79) (base := w.heap.size) (ok := fun k_ => True) (n := t1100.length) (c := co14) ?_).2.2; exact (by (with_reducible repeat (first | apply Kd.R_alloc | apply Kd.R_drewN | apply Kd.R_drew)); exact (Kd.R_mono (Kd.R_far (p := ⟨gb1108, 1, none⟩) (Kd.R_far (p := ⟨gb1108, 0, none⟩) (Kd.R_types HO1102.out BK1108.out (by decide)) (fun _ hk => hk.2) (.int .i64 t1105)) (fun _ hk => hk.2) (.int .i64 t1106)) (fun _ h_ => h_.1)))); (case side2 => exact (Kd.R_reads' HO1102.out).2.1); rintro e w20 ⟨rfl, hb⟩; refine ⟨_, rfl, ?_⟩; have n0_ := Aside0.mk (Kd.R_below (by (with_reducible repeat (first | apply Kd.R_alloc | apply Kd.R_drewN | apply Kd.R_drew)); exact (Kd.R_mono (Kd.R_far (p := ⟨gb1108, 1, none⟩) (Kd.R_far (p := ⟨gb1108, 0, none⟩) (Kd.R_types HO1102.out BK1108.out (by decide)) (fun _ hk => hk.2) (.int .i64 t1105)) (fun _ hk => hk.2) (.int .i64 t1106)) (fun _ h_ => h_.1))) hb); have n1_ := Aside0.mk (blk_below (g := gb1104) (o := .cells #[.int .i64 t1098, .int .i64 t1099, .slice Ao14 t1100.length co14] 39 (0, 0)) (by (with_reducible repeat (first | refine blk_drewN ?_ _ | refine blk_drew ?_ | refine blk_alloc ?_ _)); refine blk_far ?_ NB1104_1108.out _; (with_reducible repeat (first | refine blk_drewN ?_ _ | refine blk_drew ?_ | refine blk_alloc ?_ _)); refine blk_far ?_ NB1104_1108.out _; (with_reducible repeat (first | refine blk_drewN ?_ _ | refine blk_drew ?_ | refine blk_alloc ?_ _)); exact BK1104.out) hb); have n2_ := Aside0.mk (blk_below (g := gb1108) (o := .cells #[.int .i64 t1105, .int .i64 t1106] 70 (0, 0)) (by (with_reducible repeat (first | refine blk_drewN ?_ _ | refine blk_drew ?_ | refine blk_alloc ?_ _)); refine blk_put (cs := #[.int .i64 t1105, .int .i64 0]) ?_ 1 _ rfl; (with_reducible repeat (first | refine blk_drewN ?_ _ | refine blk_drew ?_ | refine blk_alloc ?_ _)); refine blk_put (cs := #[.int .i64 0, .int .i64 0]) ?_ 0 _ rfl; (with_reducible repeat (first | refine blk_drewN ?_ _ | refine blk_drew ?_ | refine blk_alloc ?_ _)); exact BK1108.out) hb); have n3_ := Aside0.mk (below_step (hb2_ HB.out GE1104.out GE1108.out) hb); clear HO1102; clear BK1104; clear BK1108; clear HB; have HO1102 := n0_; have BK1104 := n1_; have BK1108 := n2_; have HB := n3_; clear n0_ n1_ n2_ n3_; (try clear hb); (try clear hb2); (try clear hk); (try clear hi); have hcz21_0 := bc_ BK1104.out 0 (.int .i64 t1098) rfl; have hcz21_1 := bc_ BK1104.out 1 (.int .i64 t1099) rfl; have hcz21_2 := bc_ BK1104.out 2 (.slice Ao14 t1100.length co14) rfl; have hfz21_0 := blk_frozen BK1104.out 0; have hfz21_1 := blk_frozen BK1104.out 1; have hfz21_2 := blk_frozen BK1104.out 2) | ((with_reducible refine gate_callee (f := 36) rfl ?_); refine goesL_ (some 37) rfl rfl Try.func36 (by kernel_rfl) rfl #[.agg #[.int .i64 t1098, .int .i64 t1099, .slice Ao14 t1100.length co14]] rfl arr_ ?_; (with_reducible refine (impl_OwnersOf.calls k t1098 t1099 _ _ t1100 t1113 _ ?side1 ?side2 A9.out).mono ?_); (case side1 => repeat (first | exact (Kd.R_reads' HO1102.out).2.2 | (with_reducible refine Kd.C_alloc ?_ _) | (with_reducible refine Kd.C_drewN ?_ _) | (with_reducible refine Kd.C_drew ?_))); (case side2 => exact (Kd.R_reads' HO1102.out).2.1); rintro e w22 ⟨v1114, rfl, ho0, hb⟩; refine ⟨_, rfl, ?_⟩; have n0_ := Aside0.mk (Kd.R_below (by (with_reducible repeat (first | apply Kd.R_alloc | apply Kd.R_drewN | apply Kd.R_drew)); exact HO1102.out) hb); have n1_ := Aside0.mk (Kd.R_lower ho0 (below_size (hb2_ HB.out GE1104.out GE1108.out))); have n2_ := Aside0.mk (bb_ BK1104.out hb); have n3_ := Aside0.mk (bb_ BK1108.out hb); have n4_ := Aside0.mk (below_step (hb2_ HB.out GE1104.out GE1108.out) hb); clear HO1102; clear BK1104; clear BK1108; clear HB; have HO1102 := n0_; have HO1115 := n1_; have BK1104 := n2_; have BK1108 := n3_; have HB := n4_; clear n0_ n1_ n2_ n3_ n4_; (try clear hb); (try clear hb2); (try clear hk); (try clear hi); (try clear ho0); have hcz23_0 := bc_ BK1104.out 0 (.int .i64 t1098) rfl; have hcz23_1 := bc_ BK1104.out 1 (.int .i64 t1099) rfl; have hcz23_2 := bc_ BK1104.out 2 (.slice Ao14 t1100.length co14) rfl; have hfz23_0 := blk_frozen BK1104.out 0; have hfz23_1 := blk_frozen BK1104.out 1; have hfz23_2 := blk_frozen BK1104.out 2) | ((with_reducible refine gate_callee (f := 33) rfl ?_); refine goesL_ (some 39) rfl rfl Try.func33 (by kernel_rfl) rfl #[.agg #[.int .i64 t1098, .int .i64 t1099, .slice Ao14 t1100.length co14]] rfl arr_ ?_; (with_reducible refine (impl_RoundOf.calls k t1098 t1099 _ _ t1100 t1116 _ ?side1 ?side2 A10.out).mono ?_); (case side1 => repeat (first | exact (Kd.R_reads' HO1102.out).2.2 | (with_reducible refine Kd.C_alloc ?_ _) | (with_reducible refine Kd.C_drewN ?_ _) | (with_reducible refine Kd.C_drew ?_))); (case side2 => exact (Kd.R_reads' HO1102.out).2.1); rintro e w24 ⟨rfl, hb⟩; refine ⟨_, rfl, ?_⟩; have n0_ := Aside0.mk (Kd.R_below (by (with_reducible repeat (first | apply Kd.R_alloc | apply Kd.R_drewN | apply Kd.R_drew)); exact HO1102.out) hb); have n1_ := Aside0.mk (Kd.R_below (by (with_reducible repeat (first | apply Kd.R_alloc | apply Kd.R_drewN | apply Kd.R_drew)); exact HO1115.out) hb); have n2_ := Aside0.mk (bb_ BK1104.out hb); have n3_ := Aside0.mk (bb_ BK1108.out hb); have n4_ := Aside0.mk (below_step (hb2_ HB.out GE1104.out GE1108.out) hb); clear HO1102; clear HO1115; clear BK1104; clear BK1108; clear HB; have HO1102 := n0_; have HO1115 := n1_; have BK1104 := n2_; have BK1108 := n3_; have HB := n4_; clear n0_ n1_ n2_ n3_ n4_; (try clear hb); (try clear hb2); (try clear hk); (try clear hi); have hcz25_0 := bc_ BK1104.out 0 (.int .i64 t1098) rfl; have hcz25_1 := bc_ BK1104.out 1 (.int .i64 t1099) rfl; have hcz25_2 := bc_ BK1104.out 2 (.slice Ao14 t1100.length co14) rfl; have hfz25_0 := blk_frozen BK1104.out 0; have hfz25_1 := blk_frozen BK1104.out 1; have hfz25_2 := blk_frozen BK1104.out 2))
        go_loopg [9, 10] k (fun kq v9 v10 w' => ∃ (x9_1 : Int) (x10_1 : Int), v9 = .int .i64 x9_1 ∧ v10 = .int .i64 x10_1 ∧ Aside0 (laws_FnShares.l0 kq t1103 t1113 t1116 x9_1 x10_1 t1098 t1099 t1100 t1105 t1106 = some r) ∧ Aside0 (kq ≤ k) ∧ Aside0 (Kd.R (Kd.int .i64) 3 w' w.heap.size (fun _ => True) v1114 t1113) ∧ Aside0 (Kd.R k79 79 w' w.heap.size (fun _ => True) (.slice Ao14 t1100.length co14) t1100) ∧ Aside0 (w'.heap[gb1104]? = some (.cells #[.int .i64 t1098, .int .i64 t1099, (.slice Ao14 t1100.length co14)] 39 (0, 0))) ∧ Aside0 (w'.heap[gb1108]? = some (.cells #[.int .i64 t1105, .int .i64 t1106] 70 (0, 0))) ∧ Aside0 (Below w.heap.size w w'))
        case atStart => exact ⟨(wrap64 (t1099 * (t1100.length : Int))), (0), (by first | rfl | (simp; done) | (simp [*]; done)), (by first | rfl | (simp; done) | (simp [*]; done)), H', ⟨Nat.le_refl _⟩, ⟨by (with_reducible repeat (first | apply Kd.R_alloc | apply Kd.R_drewN | apply Kd.R_drew)); exact HO1115.out⟩, ⟨by (with_reducible repeat (first | apply Kd.R_alloc | apply Kd.R_drewN | apply Kd.R_drew)); exact HO1102.out⟩, ⟨bk_ BK1104.out⟩, ⟨bk_ BK1108.out⟩, ⟨hb2_ HB.out GE1104.out GE1108.out⟩⟩
        case round =>
          clear H'
          try clear c1
          try clear c2
          try clear p2
          try clear c3
          try clear p6
          try clear c7
          try clear c7b0
          try clear c7b1
          try clear c7b2
          try clear c8
          try clear c17
          try clear hcz13_0
          try clear hcz13_1
          try clear hcz13_2
          try clear hcz18_0
          try clear hcz18_1
          try clear hcz19_0
          try clear hcz19_1
          try clear hcz19_2
          try clear hcz21_0
          try clear hcz21_1
          try clear hcz21_2
          try clear hcz23_0
          try clear hcz23_1
          try clear hcz23_2
          try clear hcz25_0
          try clear hcz25_1
          try clear hcz25_2
          try clear hfz13_0
          try clear hfz13_1
          try clear hfz13_2
          try clear hfz18_0
          try clear hfz18_1
          try clear hfz19_0
          try clear hfz19_1
          try clear hfz19_2
          try clear hfz21_0
          try clear hfz21_1
          try clear hfz21_2
          try clear hfz23_0
          try clear hfz23_1
          try clear hfz23_2
          try clear hfz25_0
          try clear hfz25_1
          try clear hfz25_2
          obtain ⟨x9_1, x10_1, rfl, rfl, HA, HK1, HO_7, HO_1105002, BK1104, BK1108, HB⟩ := hrel
          cases gk with
          | zero => exact absurd HA.out (by simp [laws_FnShares.l0])
          | succ k1 =>
            have H := HA.out
            clear HA
            simp only [laws_FnShares.l0] at H
            by_cases c26 : x10_1 < (t1113.length : Int)
            · rw [if_pos c26] at H
              have c26b0 : decide (x10_1 < (t1113.length : Int)) = true := decide_eq_true c26
              clear c26
              by_cases c27 : 0 ≤ x10_1
              · rw [if_pos c27] at H
                have c27b0 : decide (0 ≤ x10_1) = true := decide_eq_true c27
                clear c27
                replace H := Option.bind_eq_some_iff.mp H
                obtain ⟨⟨t1118, t1119, t1120⟩, A280, H⟩ := H
                replace H : (if t1120 = true then (if t1119 < 1 then (some false) else (if t1119 = 0 then (none) else (if (Int.tmod t1116 t1119) = 0 then (if t1118 < 1 then (some false) else (if x10_1 > 0 then (if 0 ≤ (wrap64 (x10_1 - 1)) then (if (wrap64 (x10_1 - 1)) < (t1113.length : Int) then (if (rd t1113 (wrap64 (x10_1 - 1))) ≥ (rd t1113 x10_1) then (some false) else (laws_FnShares.l0 k1 t1103 t1113 t1116 (wrap64 (x9_1 + (wrap64 (t1118 * (wrap64 (Int.tdiv t1116 t1119)))))) (wrap64 (x10_1 + 1)) t1098 t1099 t1100 t1105 t1106)) else (none)) else (none)) else (laws_FnShares.l0 k1 t1103 t1113 t1116 (wrap64 (x9_1 + (wrap64 (t1118 * (wrap64 (Int.tdiv t1116 t1119)))))) (wrap64 (x10_1 + 1)) t1098 t1099 t1100 t1105 t1106))) else (some false)))) else (some false)) = some r := H
                have A28 := Aside0.mk A280
                clear A280
                by_cases c29 : t1120 = true
                · subst c29
                  have H1 : (if t1119 < 1 then (some false) else (if t1119 = 0 then (none) else (if (Int.tmod t1116 t1119) = 0 then (if t1118 < 1 then (some false) else (if x10_1 > 0 then (if 0 ≤ (wrap64 (x10_1 - 1)) then (if (wrap64 (x10_1 - 1)) < (t1113.length : Int) then (if (rd t1113 (wrap64 (x10_1 - 1))) ≥ (rd t1113 x10_1) then (some false) else (laws_FnShares.l0 k1 t1103 t1113 t1116 (wrap64 (x9_1 + (wrap64 (t1118 * (wrap64 (Int.tdiv t1116 t1119)))))) (wrap64 (x10_1 + 1)) t1098 t1099 t1100 t1105 t1106)) else (none)) else (none)) else (laws_FnShares.l0 k1 t1103 t1113 t1116 (wrap64 (x9_1 + (wrap64 (t1118 * (wrap64 (Int.tdiv t1116 t1119)))))) (wrap64 (x10_1 + 1)) t1098 t1099 t1100 t1105 t1106))) else (some false)))) = some r := by rw [if_pos rfl] at H; exact H
                  clear H
                  have H := H1
                  clear H1
                  by_cases c30 : t1119 < 1
                  · rw [if_pos c30] at H
                    have c30b0 : decide (t1119 < 1) = true := decide_eq_true c30
                    clear c30
                    obtain rfl := Option.some.inj H
                    exact absurd hr_ (by decide)
                  · rw [if_neg c30] at H
                    have c30b0 : decide (t1119 < 1) = false := decide_eq_false c30
                    clear c30
                    by_cases c31 : t1119 = 0
                    · rw [if_pos c31] at H
                      exact absurd H (by simp)
                    · rw [if_neg c31] at H
                      have c31b0 : (t1119 == 0) = false := beq_eq_false_iff_ne.mpr c31
                      have c31b1 : (t1119 != 0) = true := bne_iff_ne.mpr c31
                      by_cases c32 : (Int.tmod t1116 t1119) = 0
                      · rw [if_pos c32] at H
                        have c32b0 : ((Int.tmod t1116 t1119) == 0) = true := beq_iff_eq.mpr c32
                        have c32b1 : ((Int.tmod t1116 t1119) != 0) = false := bne_eq_false_iff_eq.mpr c32
                        clear c32
                        by_cases c33 : t1118 < 1
                        · rw [if_pos c33] at H
                          have c33b0 : decide (t1118 < 1) = true := decide_eq_true c33
                          clear c33
                          obtain rfl := Option.some.inj H
                          exact absurd hr_ (by decide)
                        · rw [if_neg c33] at H
                          have c33b0 : decide (t1118 < 1) = false := decide_eq_false c33
                          clear c33
                          by_cases c34 : x10_1 > 0
                          · rw [if_pos c34] at H
                            have c34b0 : decide (0 < x10_1) = true := decide_eq_true c34
                            clear c34
                            obtain ⟨ji35, hji35⟩ : ∃ j_ : Int, (wrap64 (x10_1 - 1)) = j_ := ⟨_, rfl⟩
                            replace H : (if 0 ≤ (ji35) then (if (ji35) < (t1113.length : Int) then (if (rd t1113 (ji35)) ≥ (rd t1113 x10_1) then (some false) else (laws_FnShares.l0 k1 t1103 t1113 t1116 (wrap64 (x9_1 + (wrap64 (t1118 * (wrap64 (Int.tdiv t1116 t1119)))))) (wrap64 (x10_1 + 1)) t1098 t1099 t1100 t1105 t1106)) else (none)) else (none)) = some r := by first | (rw [hji35] at H; exact H) | (simp only [hji35] at H ⊢; exact H)
                            (try rw [hji35] at A28)
                            have hji35w : (IntKind.i64.wrap (x10_1 - 1)) = ji35 := (i64_w _).trans hji35
                            by_cases c36 : 0 ≤ (ji35)
                            · rw [if_pos c36] at H
                              have c36b0 : decide (0 ≤ (ji35)) = true := decide_eq_true c36
                              clear c36
                              by_cases c37 : (ji35) < (t1113.length : Int)
                              · rw [if_pos c37] at H
                                have c37b0 : decide ((ji35) < (t1113.length : Int)) = true := decide_eq_true c37
                                clear c37
                                by_cases c38 : (rd t1113 (ji35)) ≥ (rd t1113 x10_1)
                                · rw [if_pos c38] at H
                                  have c38b0 : decide ((rd t1113 x10_1) ≤ (rd t1113 (ji35))) = true := decide_eq_true c38
                                  clear c38
                                  obtain rfl := Option.some.inj H
                                  exact absurd hr_ (by decide)
                                · rw [if_neg c38] at H
                                  have c38b0 : decide ((rd t1113 x10_1) ≤ (rd t1113 (ji35))) = false := decide_eq_false c38
                                  clear c38
                                  have H' := Aside0.mk H
                                  clear H
                                  obtain ⟨Ao39, co39, eo39⟩ := Kd.R_slice HO_7.out
                                  subst eo39
                                  try go_wp2
                                  have n0_ := Aside0.mk (Kd.R_drew HO_7.out)
                                  have n1_ := Aside0.mk (Kd.R_drew HO_1105002.out)
                                  have n2_ := Aside0.mk (blk_drew BK1104.out)
                                  have n3_ := Aside0.mk (blk_drew BK1108.out)
                                  have n4_ := Aside0.mk (below_drew1 HB.out)
                                  clear HO_7
                                  clear HO_1105002
                                  clear BK1104
                                  clear BK1108
                                  clear HB
                                  have HO_7 := n0_
                                  have HO_1105002 := n1_
                                  have BK1104 := n2_
                                  have BK1108 := n3_
                                  have HB := n4_
                                  clear n0_ n1_ n2_ n3_ n4_
                                  have p1117 : 0 ≤ (x10_1 : Int) := of_decide_eq_true (by first | (with_reducible assumption) | assumption)
                                  have q1117 : x10_1 < (t1113.length : Int) := of_decide_eq_true (by first | (with_reducible assumption) | assumption)
                                  obtain ⟨ad1117, e1117, hx1117_0⟩ := Kd.at_int (Kd.R_reads' HO_7.out).2.2 x10_1 p1117 q1117
                                  cases e1117
                                  replace p1117 := eq_true p1117
                                  replace q1117 := eq_true q1117
                                  refine start_ (n := 12) (S := fun w' => w'.cell? ⟨gb1104, 0, none⟩ = some (.int .i64 t1098) ∧ w'.cell? ⟨gb1104, 1, none⟩ = some (.int .i64 t1099) ∧ w'.cell? ⟨gb1104, 2, none⟩ = some (.slice Ao14 t1100.length co14) ∧ w'.cell? (ad1117.add (x10_1).toNat) = some (.int .i64 (rd t1113 x10_1))) (ds := []) #[false, false, false, false, false, false, false, false, false, false, false, false] (by kernel_rfl) rfl rfl ⟨(blk_cell BK1104.out 0).trans rfl, (blk_cell BK1104.out 1).trans rfl, (blk_cell BK1104.out 2).trans rfl, hx1117_0⟩ (fun hHeld => ?_); refine with_tabW laws_FnShares.tab15 laws_FnShares.bits15 (fun HT_ HW_ => ?_)
                                  generalize wr.drew = w40 at HO_7 HO_1105002 BK1104 BK1108 HB hx1117_0 hHeld ⊢
                                  refine pure_ (i := 1) (N := some 54) (v := ?_) (a' := ?_) #[false, true, false, false, false, false, false, false, false, false, false, false] rfl rfl (any_of HT_.out (by kernel_rfl)) (fun _ _ _ h => h) (Or.inl ⟨by rfl, ?_⟩) ?_ ?_
                                  rotate_left
                                  · intro w'
                                    go_simp
                                    with_reducible rfl
                                  rotate_left
                                  · simp only [Act.put, List.setIfInBounds_toArray, List.set_cons_zero, List.set_cons_succ, i64_w, i32_w]
                                    rfl
                                  refine pure_ (i := 2) (N := some 55) (v := ?_) (a' := ?_) #[false, true, true, false, false, false, false, false, false, false, false, false] rfl rfl (any_of HT_.out (by kernel_rfl)) (fun _ _ _ h => h) (Or.inl ⟨by rfl, ?_⟩) ?_ ?_
                                  rotate_left
                                  · intro w'
                                    go_simp
                                    with_reducible rfl
                                  rotate_left
                                  · simp only [Act.put, List.setIfInBounds_toArray, List.set_cons_zero, List.set_cons_succ, i64_w, i32_w]
                                    rfl
                                  refine pure_ (i := 3) (N := some 56) (v := ?_) (a' := ?_) #[false, true, true, true, false, false, false, false, false, false, false, false] rfl rfl (any_of HT_.out (by kernel_rfl)) (fun _ _ _ h => h) (Or.inl ⟨by rfl, ?_⟩) ?_ ?_
                                  rotate_left
                                  · intro w'
                                    go_simp
                                    with_reducible rfl
                                  rotate_left
                                  · simp only [Act.put, List.setIfInBounds_toArray, List.set_cons_zero, List.set_cons_succ, i64_w, i32_w]
                                    rfl
                                  refine take_ (i := 0) (N := some 53) (v := ?_) (a' := ?_) #[true, true, true, true, false, false, false, false, false, false, false, false] rfl rfl (take_ofW HT_.out HW_.out (by kernel_rfl)) (fun _ _ _ h => h) (Or.inl ⟨by rfl, ?_⟩) hHeld ?_ ?_
                                  rotate_left
                                  · rintro w' ⟨s0, s1, s2, s3⟩
                                    go_simp
                                    with_reducible rfl
                                  rotate_left
                                  · simp only [Act.put, List.setIfInBounds_toArray, List.set_cons_zero, List.set_cons_succ, i64_w, i32_w]
                                    rfl
                                  refine take_ (i := 4) (N := some 57) (v := ?_) (a' := ?_) #[true, true, true, true, true, false, false, false, false, false, false, false] rfl rfl (take_ofW HT_.out HW_.out (by kernel_rfl)) (fun _ _ _ h => h) (Or.inl ⟨by rfl, ?_⟩) hHeld ?_ ?_
                                  rotate_left
                                  · rintro w' ⟨s0, s1, s2, s3⟩
                                    go_simp
                                    with_reducible rfl
                                  rotate_left
                                  · simp only [Act.put, List.setIfInBounds_toArray, List.set_cons_zero, List.set_cons_succ, i64_w, i32_w]
                                    rfl
                                  refine join_ (σ := Nat) 2 #[true, true, true, true, true, true, true, true, true, true, false, false] (fun s_ => [(58, .tuple #[.agg #[.int .i64 t1118, .int .i64 t1119], .bool true]), (11, .pointer (some ⟨s_, 0, none⟩)), (52, .tuple #[.agg #[.int .i64 t1118, .int .i64 t1119], .bool true]), (59, .agg #[.int .i64 t1118, .int .i64 t1119]), (60, .bool true)]) (fun s_ w' => (w'.cell? ⟨gb1104, 0, none⟩ = some (.int .i64 t1098) ∧ w'.cell? ⟨gb1104, 1, none⟩ = some (.int .i64 t1099) ∧ w'.cell? ⟨gb1104, 2, none⟩ = some (.slice Ao14 t1100.length co14) ∧ w'.cell? (ad1117.add (x10_1).toNat) = some (.int .i64 (rd t1113 x10_1))) ∧ (Kd.R k79 79 w' w.heap.size (fun _ => True) (.slice Ao14 t1100.length co14) t1100) ∧ (Kd.R (Kd.int .i64) 3 w' w.heap.size (fun _ => True) (.slice (some ad1117) t1113.length co39) t1113) ∧ (w'.heap[gb1104]? = some (.cells #[.int .i64 t1098, .int .i64 t1099, .slice Ao14 t1100.length co14] 39 (0, 0))) ∧ (w'.heap[gb1108]? = some (.cells #[.int .i64 t1105, .int .i64 t1106] 70 (0, 0))) ∧ (w'.heap[s_]? = some (.cells #[.int .i64 0, .int .i64 0] 70 (0, 0))) ∧ (w.heap.size ≤ s_) ∧ (w.heap.size ≤ s_) ∧ (gb1104 ≠ s_) ∧ (s_ ≠ gb1104) ∧ (gb1108 ≠ s_) ∧ (s_ ≠ gb1108) ∧ (Below w.heap.size w w')) ?_ ?_
                                  rotate_left
                                  · intro hCont
                                    refine two_ (i := 5) (j := 9) (Ni := some 58) (Nj := some 11) #[true, true, true, true, true, true, false, false, false, false, false, false] #[true, true, true, true, true, false, false, false, false, true, false, false] rfl rfl rfl rfl (two_of HT_.out (by kernel_rfl)) (by decide) (by decide) (fun K hK => ?_) (fun K hK => ?_)
                                    · skip
                                      refine goes_ Try.func38 (by kernel_rfl) rfl #[.agg #[.int .i64 t1098, .int .i64 t1099, .slice Ao14 t1100.length co14], .int .i64 (rd t1113 x10_1)] (by rfl) rfl rfl arr_ ?_
                                      with_reducible refine (impl_ShareOf.calls k1 t1098 t1099 _ _ t1100 (rd t1113 x10_1) t1118 t1119 true _ ?side1 ?side2 A28.out).mono ?_
                                      (case side1 => repeat (first | exact (Kd.R_reads' HO_1105002.out).2.2 | (with_reducible refine Kd.C_alloc ?_ _) | (with_reducible refine Kd.C_drewN ?_ _) | (with_reducible refine Kd.C_drew ?_)))
                                      (case side2 => exact (Kd.R_reads' HO_1105002.out).2.1)
                                      rintro e w41 ⟨rfl, hb⟩
                                      have HS3_ := (hb.cell (World.block_lt_of_cell? _ _ (hHeld.2.2.2))).trans (hHeld.2.2.2)
                                      refine ⟨_, rfl, ?_⟩
                                      have n0_ := Aside0.mk (Kd.R_below (by (with_reducible repeat (first | apply Kd.R_alloc | apply Kd.R_drewN | apply Kd.R_drew)); exact HO_7.out) hb)
                                      have n1_ := Aside0.mk (Kd.R_below (by (with_reducible repeat (first | apply Kd.R_alloc | apply Kd.R_drewN | apply Kd.R_drew)); exact HO_1105002.out) hb)
                                      have n2_ := Aside0.mk (bb_ BK1104.out hb)
                                      have n3_ := Aside0.mk (bb_ BK1108.out hb)
                                      have n4_ := Aside0.mk (below_step (hb2_ HB.out GE1104.out GE1108.out) hb)
                                      clear HO_7
                                      clear HO_1105002
                                      clear BK1104
                                      clear BK1108
                                      clear HB
                                      have HO_7 := n0_
                                      have HO_1105002 := n1_
                                      have BK1104 := n2_
                                      have BK1108 := n3_
                                      have HB := n4_
                                      clear n0_ n1_ n2_ n3_ n4_
                                      (try clear hb)
                                      (try clear hb2)
                                      (try clear hk)
                                      (try clear hi)
                                      refine hK.out _ _ ⟨(blk_cell BK1104.out 0).trans rfl, (blk_cell BK1104.out 1).trans rfl, (blk_cell BK1104.out 2).trans rfl, HS3_⟩ (fun hHeld => ?_)
                                      clear hK K
                                      refine norm_ (a' := ?_) ?_ ?_
                                      rotate_left
                                      · show Act.put _ (some 58) _ = _
                                        simp only [Act.put, List.setIfInBounds_toArray, List.set_cons_zero, List.set_cons_succ, i64_w, i32_w]
                                        rfl
                                      refine pure_ (i := 6) (N := some 52) (v := ?_) (a' := ?_) #[true, true, true, true, true, true, true, false, false, false, false, false] rfl rfl (any_of HT_.out (by kernel_rfl)) (fun _ _ _ h => h) (Or.inl ⟨by rfl, ?_⟩) ?_ ?_
                                      rotate_left
                                      · intro w'
                                        go_simp
                                        with_reducible rfl
                                      rotate_left
                                      · simp only [Act.put, List.setIfInBounds_toArray, List.set_cons_zero, List.set_cons_succ, i64_w, i32_w]
                                        rfl
                                      refine pure_ (i := 7) (N := some 59) (v := ?_) (a' := ?_) #[true, true, true, true, true, true, true, true, false, false, false, false] rfl rfl (any_of HT_.out (by kernel_rfl)) (fun _ _ _ h => h) (Or.inl ⟨by rfl, ?_⟩) ?_ ?_
                                      rotate_left
                                      · intro w'
                                        go_simp
                                        with_reducible rfl
                                      rotate_left
                                      · simp only [Act.put, List.setIfInBounds_toArray, List.set_cons_zero, List.set_cons_succ, i64_w, i32_w]
                                        rfl
                                      refine pure_ (i := 8) (N := some 60) (v := ?_) (a' := ?_) #[true, true, true, true, true, true, true, true, true, false, false, false] rfl rfl (any_of HT_.out (by kernel_rfl)) (fun _ _ _ h => h) (Or.inl ⟨by rfl, ?_⟩) ?_ ?_
                                      rotate_left
                                      · intro w'
                                        go_simp
                                        with_reducible rfl
                                      rotate_left
                                      · simp only [Act.put, List.setIfInBounds_toArray, List.set_cons_zero, List.set_cons_succ, i64_w, i32_w]
                                        rfl
                                      refine one_ (i := 9) (N := some 11) #[true, true, true, true, true, true, true, true, true, true, false, false] rfl rfl (one_of HT_.out (by kernel_rfl)) (by decide) (fun K hK => ?_)
                                      refine box_step ?hg (N := 11) ?hd (cs := #[.int .i64 0, .int .i64 0]) (t := 70) ?hr ?_; (case hd => rfl); (case hg => rfl); (case hr => first | (go_simp; done) | (go_simp; rfl))
                                      intro gb1121 hg w42 hbox hb
                                      have HS3_ := (hb.cell (World.block_lt_of_cell? _ _ (hHeld.2.2.2))).trans (hHeld.2.2.2)
                                      have n0_ := Aside0.mk (Kd.R_below (by (with_reducible repeat (first | apply Kd.R_alloc | apply Kd.R_drewN | apply Kd.R_drew)); exact HO_7.out) hb)
                                      have n1_ := Aside0.mk (Kd.R_below (by (with_reducible repeat (first | apply Kd.R_alloc | apply Kd.R_drewN | apply Kd.R_drew)); exact HO_1105002.out) hb)
                                      have n2_ := Aside0.mk (bb_ BK1104.out hb)
                                      have n3_ := Aside0.mk (bb_ BK1108.out hb)
                                      have n4_ := Aside0.mk (below_step (hb2_ HB.out GE1104.out GE1108.out) hb)
                                      have n5_ := Aside0.mk (hbox)
                                      have n6_ := Aside0.mk ((by rw [hg]; exact (below_size (hb2_ HB.out GE1104.out GE1108.out)) : w.heap.size ≤ gb1121))
                                      have n7_ := Aside0.mk ((by rw [hg]; exact (below_size (hb2_ HB.out GE1104.out GE1108.out)) : w.heap.size ≤ gb1121))
                                      have n8_ := Aside0.mk ((bl_ hg BK1104.out : gb1104 ≠ gb1121))
                                      have n9_ := Aside0.mk ((bg_ hg BK1104.out : gb1121 ≠ gb1104))
                                      have n10_ := Aside0.mk ((bl_ hg BK1108.out : gb1108 ≠ gb1121))
                                      have n11_ := Aside0.mk ((bg_ hg BK1108.out : gb1121 ≠ gb1108))
                                      clear HO_7
                                      clear HO_1105002
                                      clear BK1104
                                      clear BK1108
                                      clear HB
                                      have HO_7 := n0_
                                      have HO_1105002 := n1_
                                      have BK1104 := n2_
                                      have BK1108 := n3_
                                      have HB := n4_
                                      have BK1121 := n5_
                                      have GW1121 := n6_
                                      have GE1121 := n7_
                                      have NB1104_1121 := n8_
                                      have NB1121_1104 := n9_
                                      have NB1108_1121 := n10_
                                      have NB1121_1108 := n11_
                                      clear n0_ n1_ n2_ n3_ n4_ n5_ n6_ n7_ n8_ n9_ n10_ n11_
                                      clear hb hbox hg
                                      refine hK.out _ _ ⟨(blk_cell BK1104.out 0).trans rfl, (blk_cell BK1104.out 1).trans rfl, (blk_cell BK1104.out 2).trans rfl, HS3_⟩ (fun hHeld => ?_)
                                      clear hK K
                                      refine norm_ (a' := ?_) ?_ ?_
                                      rotate_left
                                      · show Act.put _ (some 11) _ = _
                                        simp only [Act.put, List.setIfInBounds_toArray, List.set_cons_zero, List.set_cons_succ, i64_w, i32_w]
                                        rfl
                                      exact norm_ (by simp only [putAll, Act.put, List.setIfInBounds_toArray, List.set_cons_zero, List.set_cons_succ]) (hCont (gb1121) _ ⟨hHeld, (by (with_reducible repeat (first | apply Kd.R_alloc | apply Kd.R_drewN | apply Kd.R_drew)); exact HO_1105002.out), (by (with_reducible repeat (first | apply Kd.R_alloc | apply Kd.R_drewN | apply Kd.R_drew)); exact HO_7.out), (bk_ BK1104.out), (bk_ BK1108.out), (bk_ BK1121.out), GW1121.out, GE1121.out, NB1104_1121.out, NB1121_1104.out, NB1108_1121.out, NB1121_1108.out, (hb3_ HB.out GE1104.out GE1108.out GE1121.out)⟩)
                                    · skip
                                      refine box_step ?hg (N := 11) ?hd (cs := #[.int .i64 0, .int .i64 0]) (t := 70) ?hr ?_; (case hd => rfl); (case hg => rfl); (case hr => first | (go_simp; done) | (go_simp; rfl))
                                      intro gb1121 hg w41 hbox hb
                                      have HS3_ := (hb.cell (World.block_lt_of_cell? _ _ (hHeld.2.2.2))).trans (hHeld.2.2.2)
                                      have n0_ := Aside0.mk (Kd.R_below (by (with_reducible repeat (first | apply Kd.R_alloc | apply Kd.R_drewN | apply Kd.R_drew)); exact HO_7.out) hb)
                                      have n1_ := Aside0.mk (Kd.R_below (by (with_reducible repeat (first | apply Kd.R_alloc | apply Kd.R_drewN | apply Kd.R_drew)); exact HO_1105002.out) hb)
                                      have n2_ := Aside0.mk (bb_ BK1104.out hb)
                                      have n3_ := Aside0.mk (bb_ BK1108.out hb)
                                      have n4_ := Aside0.mk (below_step (hb2_ HB.out GE1104.out GE1108.out) hb)
                                      have n5_ := Aside0.mk (hbox)
                                      have n6_ := Aside0.mk ((by rw [hg]; exact (below_size (hb2_ HB.out GE1104.out GE1108.out)) : w.heap.size ≤ gb1121))
                                      have n7_ := Aside0.mk ((by rw [hg]; exact (below_size (hb2_ HB.out GE1104.out GE1108.out)) : w.heap.size ≤ gb1121))
                                      have n8_ := Aside0.mk ((bl_ hg BK1104.out : gb1104 ≠ gb1121))
                                      have n9_ := Aside0.mk ((bg_ hg BK1104.out : gb1121 ≠ gb1104))
                                      have n10_ := Aside0.mk ((bl_ hg BK1108.out : gb1108 ≠ gb1121))
                                      have n11_ := Aside0.mk ((bg_ hg BK1108.out : gb1121 ≠ gb1108))
                                      clear HO_7
                                      clear HO_1105002
                                      clear BK1104
                                      clear BK1108
                                      clear HB
                                      have HO_7 := n0_
                                      have HO_1105002 := n1_
                                      have BK1104 := n2_
                                      have BK1108 := n3_
                                      have HB := n4_
                                      have BK1121 := n5_
                                      have GW1121 := n6_
                                      have GE1121 := n7_
                                      have NB1104_1121 := n8_
                                      have NB1121_1104 := n9_
                                      have NB1108_1121 := n10_
                                      have NB1121_1108 := n11_
                                      clear n0_ n1_ n2_ n3_ n4_ n5_ n6_ n7_ n8_ n9_ n10_ n11_
                                      clear hb hbox hg
                                      refine hK.out _ _ ⟨(blk_cell BK1104.out 0).trans rfl, (blk_cell BK1104.out 1).trans rfl, (blk_cell BK1104.out 2).trans rfl, HS3_⟩ (fun hHeld => ?_)
                                      clear hK K
                                      refine norm_ (a' := ?_) ?_ ?_
                                      rotate_left
                                      · show Act.put _ (some 11) _ = _
                                        simp only [Act.put, List.setIfInBounds_toArray, List.set_cons_zero, List.set_cons_succ, i64_w, i32_w]
                                        rfl
                                      refine one_ (i := 5) (N := some 58) #[true, true, true, true, true, true, false, false, false, true, false, false] rfl rfl (one_of HT_.out (by kernel_rfl)) (by decide) (fun K hK => ?_)
                                      refine goes_ Try.func38 (by kernel_rfl) rfl #[.agg #[.int .i64 t1098, .int .i64 t1099, .slice Ao14 t1100.length co14], .int .i64 (rd t1113 x10_1)] (by rfl) rfl rfl arr_ ?_
                                      with_reducible refine (impl_ShareOf.calls k1 t1098 t1099 _ _ t1100 (rd t1113 x10_1) t1118 t1119 true _ ?side1 ?side2 A28.out).mono ?_
                                      (case side1 => repeat (first | exact (Kd.R_reads' HO_1105002.out).2.2 | (with_reducible refine Kd.C_alloc ?_ _) | (with_reducible refine Kd.C_drewN ?_ _) | (with_reducible refine Kd.C_drew ?_)))
                                      (case side2 => exact (Kd.R_reads' HO_1105002.out).2.1)
                                      rintro e w42 ⟨rfl, hb⟩
                                      have HS3_ := (hb.cell (World.block_lt_of_cell? _ _ (hHeld.2.2.2))).trans (hHeld.2.2.2)
                                      refine ⟨_, rfl, ?_⟩
                                      have n0_ := Aside0.mk (Kd.R_below (by (with_reducible repeat (first | apply Kd.R_alloc | apply Kd.R_drewN | apply Kd.R_drew)); exact HO_7.out) hb)
                                      have n1_ := Aside0.mk (Kd.R_below (by (with_reducible repeat (first | apply Kd.R_alloc | apply Kd.R_drewN | apply Kd.R_drew)); exact HO_1105002.out) hb)
                                      have n2_ := Aside0.mk (bb_ BK1104.out hb)
                                      have n3_ := Aside0.mk (bb_ BK1108.out hb)
                                      have n4_ := Aside0.mk (bb_ BK1121.out hb)
                                      have n5_ := Aside0.mk (below_step (hb3_ HB.out GE1104.out GE1108.out GE1121.out) hb)
                                      clear HO_7
                                      clear HO_1105002
                                      clear BK1104
                                      clear BK1108
                                      clear BK1121
                                      clear HB
                                      have HO_7 := n0_
                                      have HO_1105002 := n1_
                                      have BK1104 := n2_
                                      have BK1108 := n3_
                                      have BK1121 := n4_
                                      have HB := n5_
                                      clear n0_ n1_ n2_ n3_ n4_ n5_
                                      (try clear hb)
                                      (try clear hb2)
                                      (try clear hk)
                                      (try clear hi)
                                      refine hK.out _ _ ⟨(blk_cell BK1104.out 0).trans rfl, (blk_cell BK1104.out 1).trans rfl, (blk_cell BK1104.out 2).trans rfl, HS3_⟩ (fun hHeld => ?_)
                                      clear hK K
                                      refine norm_ (a' := ?_) ?_ ?_
                                      rotate_left
                                      · show Act.put _ (some 58) _ = _
                                        simp only [Act.put, List.setIfInBounds_toArray, List.set_cons_zero, List.set_cons_succ, i64_w, i32_w]
                                        rfl
                                      refine pure_ (i := 6) (N := some 52) (v := ?_) (a' := ?_) #[true, true, true, true, true, true, true, false, false, true, false, false] rfl rfl (any_of HT_.out (by kernel_rfl)) (fun _ _ _ h => h) (Or.inl ⟨by rfl, ?_⟩) ?_ ?_
                                      rotate_left
                                      · intro w'
                                        go_simp
                                        with_reducible rfl
                                      rotate_left
                                      · simp only [Act.put, List.setIfInBounds_toArray, List.set_cons_zero, List.set_cons_succ, i64_w, i32_w]
                                        rfl
                                      refine pure_ (i := 7) (N := some 59) (v := ?_) (a' := ?_) #[true, true, true, true, true, true, true, true, false, true, false, false] rfl rfl (any_of HT_.out (by kernel_rfl)) (fun _ _ _ h => h) (Or.inl ⟨by rfl, ?_⟩) ?_ ?_
                                      rotate_left
                                      · intro w'
                                        go_simp
                                        with_reducible rfl
                                      rotate_left
                                      · simp only [Act.put, List.setIfInBounds_toArray, List.set_cons_zero, List.set_cons_succ, i64_w, i32_w]
                                        rfl
                                      refine pure_ (i := 8) (N := some 60) (v := ?_) (a' := ?_) #[true, true, true, true, true, true, true, true, true, true, false, false] rfl rfl (any_of HT_.out (by kernel_rfl)) (fun _ _ _ h => h) (Or.inl ⟨by rfl, ?_⟩) ?_ ?_
                                      rotate_left
                                      · intro w'
                                        go_simp
                                        with_reducible rfl
                                      rotate_left
                                      · simp only [Act.put, List.setIfInBounds_toArray, List.set_cons_zero, List.set_cons_succ, i64_w, i32_w]
                                        rfl
                                      exact norm_ (by simp only [putAll, Act.put, List.setIfInBounds_toArray, List.set_cons_zero, List.set_cons_succ]) (hCont (gb1121) _ ⟨hHeld, (by (with_reducible repeat (first | apply Kd.R_alloc | apply Kd.R_drewN | apply Kd.R_drew)); exact HO_1105002.out), (by (with_reducible repeat (first | apply Kd.R_alloc | apply Kd.R_drewN | apply Kd.R_drew)); exact HO_7.out), (bk_ BK1104.out), (bk_ BK1108.out), (bk_ BK1121.out), GW1121.out, GE1121.out, NB1104_1121.out, NB1121_1104.out, NB1108_1121.out, NB1121_1108.out, (hb3_ HB.out GE1104.out GE1108.out GE1121.out)⟩)
                                  rintro gb1121 w43 ⟨hS_, h0_, h1_, h2_, h3_, h4_, h5_, h6_, h7_, h8_, h9_, h10_, h11_⟩
                                  have n0_ : Aside0 (Kd.R k79 79 w43 w.heap.size (fun _ => True) (.slice Ao14 t1100.length co14) t1100) := ⟨h0_⟩
                                  have n1_ : Aside0 (Kd.R (Kd.int .i64) 3 w43 w.heap.size (fun _ => True) (.slice (some ad1117) t1113.length co39) t1113) := ⟨h1_⟩
                                  have n2_ : Aside0 (w43.heap[gb1104]? = some (.cells #[.int .i64 t1098, .int .i64 t1099, .slice Ao14 t1100.length co14] 39 (0, 0))) := ⟨h2_⟩
                                  have n3_ : Aside0 (w43.heap[gb1108]? = some (.cells #[.int .i64 t1105, .int .i64 t1106] 70 (0, 0))) := ⟨h3_⟩
                                  have n4_ : Aside0 (w43.heap[gb1121]? = some (.cells #[.int .i64 0, .int .i64 0] 70 (0, 0))) := ⟨h4_⟩
                                  have n5_ : Aside0 (w.heap.size ≤ gb1121) := ⟨h5_⟩
                                  have n6_ : Aside0 (w.heap.size ≤ gb1121) := ⟨h6_⟩
                                  have n7_ : Aside0 (gb1104 ≠ gb1121) := ⟨h7_⟩
                                  have n8_ : Aside0 (gb1121 ≠ gb1104) := ⟨h8_⟩
                                  have n9_ : Aside0 (gb1108 ≠ gb1121) := ⟨h9_⟩
                                  have n10_ : Aside0 (gb1121 ≠ gb1108) := ⟨h10_⟩
                                  have n11_ : Aside0 (Below w.heap.size w w43) := ⟨h11_⟩
                                  clear HO_7
                                  clear HO_1105002
                                  clear BK1104
                                  clear BK1108
                                  clear HB
                                  clear h0_ h1_ h2_ h3_ h4_ h5_ h6_ h7_ h8_ h9_ h10_ h11_
                                  have HO_1105002 := n0_
                                  have HO_7 := n1_
                                  have BK1104 := n2_
                                  have BK1108 := n3_
                                  have BK1121 := n4_
                                  have GW1121 := n5_
                                  have GE1121 := n6_
                                  have NB1104_1121 := n7_
                                  have NB1121_1104 := n8_
                                  have NB1108_1121 := n9_
                                  have NB1121_1108 := n10_
                                  have HB := n11_
                                  clear n0_ n1_ n2_ n3_ n4_ n5_ n6_ n7_ n8_ n9_ n10_ n11_
                                  have hHeld : w43.cell? ⟨gb1104, 0, none⟩ = some (.int .i64 t1098) ∧ w43.cell? ⟨gb1104, 1, none⟩ = some (.int .i64 t1099) ∧ w43.cell? ⟨gb1104, 2, none⟩ = some (.slice Ao14 t1100.length co14) ∧ w43.cell? (ad1117.add (x10_1).toNat) = some (.int .i64 (rd t1113 x10_1)) := hS_
                                  refine norm_ (a' := ?_) ?_ ?_
                                  rotate_left
                                  · simp only [putAll, Act.put, List.setIfInBounds_toArray, List.set_cons_zero, List.set_cons_succ]
                                    rfl
                                  refine one_ (i := 10) (N := none) #[true, true, true, true, true, true, true, true, true, true, true, false] rfl rfl (one_of HT_.out (by kernel_rfl)) (by decide) (fun K hK => ?_)
                                  have hs44 : w43.cell? ⟨gb1121, 0, none⟩ = some (.int .i64 0) := (blk_cell BK1121.out 0).trans rfl
                                  have hfs44 := blk_frozen BK1121.out 0
                                  have hns44_0 := NB1104_1121.out
                                  have hns44_1 := NB1108_1121.out
                                  have hms44_0 := NB1121_1104.out
                                  have hms44_1 := NB1121_1108.out
                                  have hs45 : w43.cell? ⟨gb1121, 1, none⟩ = some (.int .i64 0) := (blk_cell BK1121.out 1).trans rfl
                                  have hfs45 := blk_frozen BK1121.out 1
                                  have hns45_0 := NB1104_1121.out
                                  have hns45_1 := NB1108_1121.out
                                  have hms45_0 := NB1121_1104.out
                                  have hms45_1 := NB1121_1108.out
                                  refine skip_ (w1 := ?_) (by rfl) rfl ?_ ?_
                                  rotate_left
                                  · go_simp
                                    rfl
                                  refine hK.out _ _ ⟨((cell_far (p := ⟨gb1121, _, none⟩) NB1104_1121.out _).trans (((cell_far (p := ⟨gb1121, _, none⟩) NB1104_1121.out _).trans (hHeld.1)))), ((cell_far (p := ⟨gb1121, _, none⟩) NB1104_1121.out _).trans (((cell_far (p := ⟨gb1121, _, none⟩) NB1104_1121.out _).trans (hHeld.2.1)))), ((cell_far (p := ⟨gb1121, _, none⟩) NB1104_1121.out _).trans (((cell_far (p := ⟨gb1121, _, none⟩) NB1104_1121.out _).trans (hHeld.2.2.1)))), ((cell_far (p := ⟨gb1121, _, none⟩) (by first | exact Kd.own_blk (Kd.R_ne HO_7.out BK1121.out (by decide)) | (rw [add_block]; exact Kd.own_blk (Kd.R_ne HO_7.out BK1121.out (by decide))) | (show (Addr.add _ _).block ≠ _; rw [add_block]; exact Kd.own_blk (Kd.R_ne HO_7.out BK1121.out (by decide))) | (dsimp only; exact Kd.own_blk (Kd.R_ne HO_7.out BK1121.out (by decide)))) _).trans (((cell_far (p := ⟨gb1121, _, none⟩) (by first | exact Kd.own_blk (Kd.R_ne HO_7.out BK1121.out (by decide)) | (rw [add_block]; exact Kd.own_blk (Kd.R_ne HO_7.out BK1121.out (by decide))) | (show (Addr.add _ _).block ≠ _; rw [add_block]; exact Kd.own_blk (Kd.R_ne HO_7.out BK1121.out (by decide))) | (dsimp only; exact Kd.own_blk (Kd.R_ne HO_7.out BK1121.out (by decide)))) _).trans (hHeld.2.2.2))))⟩ (fun hHeld => ?_)
                                  clear hK K
                                  refine pure_ (i := 11) (N := some 12) (v := ?_) (a' := ?_) #[true, true, true, true, true, true, true, true, true, true, true, true] rfl rfl (any_of HT_.out (by kernel_rfl)) (fun _ _ _ h => h) (Or.inl ⟨by rfl, ?_⟩) ?_ ?_
                                  rotate_left
                                  · intro w'
                                    go_simp
                                    with_reducible rfl
                                  rotate_left
                                  · simp only [Act.put, List.setIfInBounds_toArray, List.set_cons_zero, List.set_cons_succ, i64_w, i32_w]
                                    rfl
                                  refine done_ (done_of HT_.out (by kernel_rfl)) ?_
                                  try go_wp2
                                  have n0_ : Aside0 (Kd.R (Kd.int .i64) 3 ((w43.setCell ⟨gb1121, 0, none⟩ (.int .i64 t1118)).setCell ⟨gb1121, 1, none⟩ (.int .i64 t1119)) w.heap.size (fun _ => True) (.slice (some ad1117) t1113.length co39) t1113) := ⟨by (with_reducible repeat (first | apply Kd.R_alloc | apply Kd.R_drewN | apply Kd.R_drew)); exact Kd.R_mono (Kd.R_far (p := ⟨gb1121, 1, none⟩) (Kd.R_far (p := ⟨gb1121, 0, none⟩) (Kd.R_types HO_7.out BK1121.out (by decide)) (fun _ hk => hk.2) (.int .i64 t1118)) (fun _ hk => hk.2) (.int .i64 t1119)) (fun _ hk => trivial)⟩
                                  have n1_ : Aside0 (Kd.R k79 79 ((w43.setCell ⟨gb1121, 0, none⟩ (.int .i64 t1118)).setCell ⟨gb1121, 1, none⟩ (.int .i64 t1119)) w.heap.size (fun _ => True) (.slice Ao14 t1100.length co14) t1100) := ⟨by (with_reducible repeat (first | apply Kd.R_alloc | apply Kd.R_drewN | apply Kd.R_drew)); exact Kd.R_mono (Kd.R_far (p := ⟨gb1121, 1, none⟩) (Kd.R_far (p := ⟨gb1121, 0, none⟩) (Kd.R_types HO_1105002.out BK1121.out (by decide)) (fun _ hk => hk.2) (.int .i64 t1118)) (fun _ hk => hk.2) (.int .i64 t1119)) (fun _ hk => trivial)⟩
                                  have n2_ : Aside0 (((w43.setCell ⟨gb1121, 0, none⟩ (.int .i64 t1118)).setCell ⟨gb1121, 1, none⟩ (.int .i64 t1119)).heap[gb1104]? = some (.cells #[.int .i64 t1098, .int .i64 t1099, .slice Ao14 t1100.length co14] 39 (0, 0))) := ⟨by (with_reducible repeat (first | refine blk_drewN ?_ _ | refine blk_drew ?_ | refine blk_alloc ?_ _)); refine blk_far ?_ NB1104_1121.out _; (with_reducible repeat (first | refine blk_drewN ?_ _ | refine blk_drew ?_ | refine blk_alloc ?_ _)); refine blk_far ?_ NB1104_1121.out _; (with_reducible repeat (first | refine blk_drewN ?_ _ | refine blk_drew ?_ | refine blk_alloc ?_ _)); exact BK1104.out⟩
                                  have n3_ : Aside0 (((w43.setCell ⟨gb1121, 0, none⟩ (.int .i64 t1118)).setCell ⟨gb1121, 1, none⟩ (.int .i64 t1119)).heap[gb1108]? = some (.cells #[.int .i64 t1105, .int .i64 t1106] 70 (0, 0))) := ⟨by (with_reducible repeat (first | refine blk_drewN ?_ _ | refine blk_drew ?_ | refine blk_alloc ?_ _)); refine blk_far ?_ NB1108_1121.out _; (with_reducible repeat (first | refine blk_drewN ?_ _ | refine blk_drew ?_ | refine blk_alloc ?_ _)); refine blk_far ?_ NB1108_1121.out _; (with_reducible repeat (first | refine blk_drewN ?_ _ | refine blk_drew ?_ | refine blk_alloc ?_ _)); exact BK1108.out⟩
                                  have n4_ : Aside0 (((w43.setCell ⟨gb1121, 0, none⟩ (.int .i64 t1118)).setCell ⟨gb1121, 1, none⟩ (.int .i64 t1119)).heap[gb1121]? = some (.cells #[.int .i64 t1118, .int .i64 t1119] 70 (0, 0))) := ⟨by (with_reducible repeat (first | refine blk_drewN ?_ _ | refine blk_drew ?_ | refine blk_alloc ?_ _)); refine blk_put (cs := #[.int .i64 t1118, .int .i64 0]) ?_ 1 _ rfl; (with_reducible repeat (first | refine blk_drewN ?_ _ | refine blk_drew ?_ | refine blk_alloc ?_ _)); refine blk_put (cs := #[.int .i64 0, .int .i64 0]) ?_ 0 _ rfl; (with_reducible repeat (first | refine blk_drewN ?_ _ | refine blk_drew ?_ | refine blk_alloc ?_ _)); exact BK1121.out⟩
                                  have n5_ : Aside0 (Below w.heap.size w ((w43.setCell ⟨gb1121, 0, none⟩ (.int .i64 t1118)).setCell ⟨gb1121, 1, none⟩ (.int .i64 t1119))) := ⟨hb3_ HB.out GE1104.out GE1108.out GE1121.out⟩
                                  (try clear HO_7)
                                  (try clear HO_1105002)
                                  (try clear BK1104)
                                  (try clear BK1108)
                                  (try clear BK1121)
                                  (try clear HB)
                                  generalize ((w43.setCell ⟨gb1121, 0, none⟩ (.int .i64 t1118)).setCell ⟨gb1121, 1, none⟩ (.int .i64 t1119)) = w46 at n0_ n1_ n2_ n3_ n4_ n5_ ⊢
                                  have HO_7 := n0_
                                  have HO_1105002 := n1_
                                  have BK1104 := n2_
                                  have BK1108 := n3_
                                  have BK1121 := n4_
                                  have HB := n5_
                                  clear n0_ n1_ n2_ n3_ n4_ n5_
                                  have n0_ := Aside0.mk (Kd.R_drew HO_7.out)
                                  have n1_ := Aside0.mk (Kd.R_drew HO_1105002.out)
                                  have n2_ := Aside0.mk (blk_drew BK1104.out)
                                  have n3_ := Aside0.mk (blk_drew BK1108.out)
                                  have n4_ := Aside0.mk (blk_drew BK1121.out)
                                  have n5_ := Aside0.mk (below_drew1 HB.out)
                                  clear HO_7
                                  clear HO_1105002
                                  clear BK1104
                                  clear BK1108
                                  clear BK1121
                                  clear HB
                                  have HO_7 := n0_
                                  have HO_1105002 := n1_
                                  have BK1104 := n2_
                                  have BK1108 := n3_
                                  have BK1121 := n4_
                                  have HB := n5_
                                  clear n0_ n1_ n2_ n3_ n4_ n5_
                                  have p1122 : 0 ≤ ((ji35) : Int) := of_decide_eq_true (by first | (with_reducible assumption) | assumption)
                                  have q1122 : (ji35) < (t1113.length : Int) := of_decide_eq_true (by first | (with_reducible assumption) | assumption)
                                  obtain ⟨ad1122, e1122, hx1122_0⟩ := Kd.at_int (Kd.R_reads' HO_7.out).2.2 (ji35) p1122 q1122
                                  obtain rfl : ad1117 = ad1122 := (by injection e1122)
                                  replace p1122 := eq_true p1122
                                  replace q1122 := eq_true q1122
                                  have p1123 : 0 ≤ (x10_1 : Int) := of_decide_eq_true (by first | (with_reducible assumption) | assumption)
                                  have q1123 : x10_1 < (t1113.length : Int) := of_decide_eq_true (by first | (with_reducible assumption) | assumption)
                                  obtain ⟨ad1123, e1123, hx1123_0⟩ := Kd.at_int (Kd.R_reads' HO_7.out).2.2 x10_1 p1123 q1123
                                  obtain rfl : ad1117 = ad1123 := (by injection e1123)
                                  replace p1123 := eq_true p1123
                                  replace q1123 := eq_true q1123
                                  refine start_ (n := 35) (S := fun w' => w'.cell? ⟨gb1121, 0, none⟩ = some (.int .i64 t1118) ∧ w'.cell? ⟨gb1121, 1, none⟩ = some (.int .i64 t1119) ∧ w'.cell? (ad1117.add ((ji35)).toNat) = some (.int .i64 (rd t1113 (ji35))) ∧ w'.cell? (ad1117.add (x10_1).toNat) = some (.int .i64 (rd t1113 x10_1))) (ds := []) #[false, false, false, false, false, false, false, false, false, false, false, false, false, false, false, false, false, false, false, false, false, false, false, false, false, false, false, false, false, false, false, false, false, false, false] (by kernel_rfl) rfl rfl ⟨(blk_cell BK1121.out 0).trans rfl, (blk_cell BK1121.out 1).trans rfl, hx1122_0, hx1123_0⟩ (fun hHeld => ?_); refine with_tabW laws_FnShares.tab16 laws_FnShares.bits16 (fun HT_ HW_ => ?_)
                                  generalize w46.drew = w47 at HO_7 HO_1105002 BK1104 BK1108 BK1121 HB hx1122_0 hx1123_0 hHeld ⊢
                                  refine pure_ (i := 0) (N := some 61) (v := ?_) (a' := ?_) #[true, false, false, false, false, false, false, false, false, false, false, false, false, false, false, false, false, false, false, false, false, false, false, false, false, false, false, false, false, false, false, false, false, false, false] rfl rfl (any_of HT_.out (by kernel_rfl)) (fun _ _ _ h => h) (Or.inl ⟨by rfl, ?_⟩) ?_ ?_
                                  rotate_left
                                  · intro w'
                                    go_simp
                                    with_reducible rfl
                                  rotate_left
                                  · simp only [Act.put, List.setIfInBounds_toArray, List.set_cons_zero, List.set_cons_succ, i64_w, i32_w]
                                    rfl
                                  refine pure_ (i := 1) (N := some 62) (v := ?_) (a' := ?_) #[true, true, false, false, false, false, false, false, false, false, false, false, false, false, false, false, false, false, false, false, false, false, false, false, false, false, false, false, false, false, false, false, false, false, false] rfl rfl (any_of HT_.out (by kernel_rfl)) (fun _ _ _ h => h) (Or.inl ⟨by rfl, ?_⟩) ?_ ?_
                                  rotate_left
                                  · intro w'
                                    go_simp
                                    with_reducible rfl
                                  rotate_left
                                  · simp only [Act.put, List.setIfInBounds_toArray, List.set_cons_zero, List.set_cons_succ, i64_w, i32_w]
                                    rfl
                                  refine pure_ (i := 2) (N := some 63) (v := ?_) (a' := ?_) #[true, true, true, false, false, false, false, false, false, false, false, false, false, false, false, false, false, false, false, false, false, false, false, false, false, false, false, false, false, false, false, false, false, false, false] rfl rfl (any_of HT_.out (by kernel_rfl)) (fun _ _ _ h => h) (Or.inl ⟨by rfl, ?_⟩) ?_ ?_
                                  rotate_left
                                  · intro w'
                                    go_simp
                                    with_reducible rfl
                                  rotate_left
                                  · simp only [Act.put, List.setIfInBounds_toArray, List.set_cons_zero, List.set_cons_succ, i64_w, i32_w]
                                    rfl
                                  refine pure_ (i := 3) (N := some 64) (v := ?_) (a' := ?_) #[true, true, true, true, false, false, false, false, false, false, false, false, false, false, false, false, false, false, false, false, false, false, false, false, false, false, false, false, false, false, false, false, false, false, false] rfl rfl (any_of HT_.out (by kernel_rfl)) (fun _ _ _ h => h) (Or.inl ⟨by rfl, ?_⟩) ?_ ?_
                                  rotate_left
                                  · intro w'
                                    go_simp
                                    with_reducible rfl
                                  rotate_left
                                  · simp only [Act.put, List.setIfInBounds_toArray, List.set_cons_zero, List.set_cons_succ, i64_w, i32_w]
                                    rfl
                                  refine take_ (i := 4) (N := some 65) (v := ?_) (a' := ?_) #[true, true, true, true, true, false, false, false, false, false, false, false, false, false, false, false, false, false, false, false, false, false, false, false, false, false, false, false, false, false, false, false, false, false, false] rfl rfl (take_ofW HT_.out HW_.out (by kernel_rfl)) (fun _ _ _ h => h) (Or.inl ⟨by rfl, ?_⟩) hHeld ?_ ?_
                                  rotate_left
                                  · rintro w' ⟨s0, s1, s2, s3⟩
                                    go_simp
                                    with_reducible rfl
                                  rotate_left
                                  · simp only [Act.put, List.setIfInBounds_toArray, List.set_cons_zero, List.set_cons_succ, i64_w, i32_w]
                                    rfl
                                  refine pure_ (i := 5) (N := some 66) (v := ?_) (a' := ?_) #[true, true, true, true, true, true, false, false, false, false, false, false, false, false, false, false, false, false, false, false, false, false, false, false, false, false, false, false, false, false, false, false, false, false, false] rfl rfl (any_of HT_.out (by kernel_rfl)) (fun _ _ _ h => h) (Or.inl ⟨by rfl, ?_⟩) ?_ ?_
                                  rotate_left
                                  · intro w'
                                    go_simp
                                    with_reducible rfl
                                  rotate_left
                                  · simp only [Act.put, List.setIfInBounds_toArray, List.set_cons_zero, List.set_cons_succ, i64_w, i32_w]
                                    rfl
                                  refine pure_ (i := 6) (N := some 67) (v := ?_) (a' := ?_) #[true, true, true, true, true, true, true, false, false, false, false, false, false, false, false, false, false, false, false, false, false, false, false, false, false, false, false, false, false, false, false, false, false, false, false] rfl rfl (any_of HT_.out (by kernel_rfl)) (fun _ _ _ h => h) (Or.inl ⟨by rfl, ?_⟩) ?_ ?_
                                  rotate_left
                                  · intro w'
                                    go_simp
                                    with_reducible rfl
                                  rotate_left
                                  · simp only [Act.put, List.setIfInBounds_toArray, List.set_cons_zero, List.set_cons_succ, i64_w, i32_w]
                                    rfl
                                  refine pure_ (i := 7) (N := some 68) (v := ?_) (a' := ?_) #[true, true, true, true, true, true, true, true, false, false, false, false, false, false, false, false, false, false, false, false, false, false, false, false, false, false, false, false, false, false, false, false, false, false, false] rfl rfl (any_of HT_.out (by kernel_rfl)) (fun _ _ _ h => h) (Or.inl ⟨by rfl, ?_⟩) ?_ ?_
                                  rotate_left
                                  · intro w'
                                    go_simp
                                    with_reducible rfl
                                  rotate_left
                                  · simp only [Act.put, List.setIfInBounds_toArray, List.set_cons_zero, List.set_cons_succ, i64_w, i32_w]
                                    rfl
                                  refine pure_ (i := 8) (N := some 69) (v := ?_) (a' := ?_) #[true, true, true, true, true, true, true, true, true, false, false, false, false, false, false, false, false, false, false, false, false, false, false, false, false, false, false, false, false, false, false, false, false, false, false] rfl rfl (any_of HT_.out (by kernel_rfl)) (fun _ _ _ h => h) (Or.inl ⟨by rfl, ?_⟩) ?_ ?_
                                  rotate_left
                                  · intro w'
                                    go_simp
                                    with_reducible rfl
                                  rotate_left
                                  · simp only [Act.put, List.setIfInBounds_toArray, List.set_cons_zero, List.set_cons_succ, i64_w, i32_w]
                                    rfl
                                  refine pure_ (i := 9) (N := some 70) (v := ?_) (a' := ?_) #[true, true, true, true, true, true, true, true, true, true, false, false, false, false, false, false, false, false, false, false, false, false, false, false, false, false, false, false, false, false, false, false, false, false, false] rfl rfl (any_of HT_.out (by kernel_rfl)) (fun _ _ _ h => h) (Or.inl ⟨by rfl, ?_⟩) ?_ ?_
                                  rotate_left
                                  · intro w'
                                    go_simp
                                    with_reducible rfl
                                  rotate_left
                                  · simp only [Act.put, List.setIfInBounds_toArray, List.set_cons_zero, List.set_cons_succ, i64_w, i32_w]
                                    rfl
                                  refine take_ (i := 10) (N := some 71) (v := ?_) (a' := ?_) #[true, true, true, true, true, true, true, true, true, true, true, false, false, false, false, false, false, false, false, false, false, false, false, false, false, false, false, false, false, false, false, false, false, false, false] rfl rfl (take_ofW HT_.out HW_.out (by kernel_rfl)) (fun _ _ _ h => h) (Or.inl ⟨by rfl, ?_⟩) hHeld ?_ ?_
                                  rotate_left
                                  · rintro w' ⟨s0, s1, s2, s3⟩
                                    go_simp
                                    with_reducible rfl
                                  rotate_left
                                  · simp only [Act.put, List.setIfInBounds_toArray, List.set_cons_zero, List.set_cons_succ, i64_w, i32_w]
                                    rfl
                                  refine pure_ (i := 11) (N := some 72) (v := ?_) (a' := ?_) #[true, true, true, true, true, true, true, true, true, true, true, true, false, false, false, false, false, false, false, false, false, false, false, false, false, false, false, false, false, false, false, false, false, false, false] rfl rfl (any_of HT_.out (by kernel_rfl)) (fun _ _ _ h => h) (Or.inl ⟨by rfl, ?_⟩) ?_ ?_
                                  rotate_left
                                  · intro w'
                                    go_simp
                                    with_reducible rfl
                                  rotate_left
                                  · simp only [Act.put, List.setIfInBounds_toArray, List.set_cons_zero, List.set_cons_succ, i64_w, i32_w]
                                    rfl
                                  refine pure_ (i := 12) (N := some 73) (v := ?_) (a' := ?_) #[true, true, true, true, true, true, true, true, true, true, true, true, true, false, false, false, false, false, false, false, false, false, false, false, false, false, false, false, false, false, false, false, false, false, false] rfl rfl (any_of HT_.out (by kernel_rfl)) (fun _ _ _ h => h) (Or.inl ⟨by rfl, ?_⟩) ?_ ?_
                                  rotate_left
                                  · intro w'
                                    go_simp
                                    with_reducible rfl
                                  rotate_left
                                  · simp only [Act.put, List.setIfInBounds_toArray, List.set_cons_zero, List.set_cons_succ, i64_w, i32_w]
                                    rfl
                                  refine pure_ (i := 13) (N := some 74) (v := ?_) (a' := ?_) #[true, true, true, true, true, true, true, true, true, true, true, true, true, true, false, false, false, false, false, false, false, false, false, false, false, false, false, false, false, false, false, false, false, false, false] rfl rfl (any_of HT_.out (by kernel_rfl)) (fun _ _ _ h => h) (Or.inl ⟨by rfl, ?_⟩) ?_ ?_
                                  rotate_left
                                  · intro w'
                                    go_simp
                                    with_reducible rfl
                                  rotate_left
                                  · simp only [Act.put, List.setIfInBounds_toArray, List.set_cons_zero, List.set_cons_succ, i64_w, i32_w]
                                    rfl
                                  refine pure_ (i := 14) (N := some 75) (v := ?_) (a' := ?_) #[true, true, true, true, true, true, true, true, true, true, true, true, true, true, true, false, false, false, false, false, false, false, false, false, false, false, false, false, false, false, false, false, false, false, false] rfl rfl (any_of HT_.out (by kernel_rfl)) (fun _ _ _ h => h) (Or.inl ⟨by rfl, ?_⟩) ?_ ?_
                                  rotate_left
                                  · intro w'
                                    go_simp
                                    with_reducible rfl
                                  rotate_left
                                  · simp only [Act.put, List.setIfInBounds_toArray, List.set_cons_zero, List.set_cons_succ, i64_w, i32_w]
                                    rfl
                                  refine pure_ (i := 15) (N := some 76) (v := ?_) (a' := ?_) #[true, true, true, true, true, true, true, true, true, true, true, true, true, true, true, true, false, false, false, false, false, false, false, false, false, false, false, false, false, false, false, false, false, false, false] rfl rfl (any_of HT_.out (by kernel_rfl)) (fun _ _ _ h => h) (Or.inl ⟨by rfl, ?_⟩) ?_ ?_
                                  rotate_left
                                  · intro w'
                                    go_simp
                                    with_reducible rfl
                                  rotate_left
                                  · simp only [Act.put, List.setIfInBounds_toArray, List.set_cons_zero, List.set_cons_succ, i64_w, i32_w]
                                    rfl
                                  refine take_ (i := 16) (N := some 77) (v := ?_) (a' := ?_) #[true, true, true, true, true, true, true, true, true, true, true, true, true, true, true, true, true, false, false, false, false, false, false, false, false, false, false, false, false, false, false, false, false, false, false] rfl rfl (take_ofW HT_.out HW_.out (by kernel_rfl)) (fun _ _ _ h => h) (Or.inl ⟨by rfl, ?_⟩) hHeld ?_ ?_
                                  rotate_left
                                  · rintro w' ⟨s0, s1, s2, s3⟩
                                    go_simp
                                    with_reducible rfl
                                  rotate_left
                                  · simp only [Act.put, List.setIfInBounds_toArray, List.set_cons_zero, List.set_cons_succ, i64_w, i32_w]
                                    rfl
                                  refine pure_ (i := 17) (N := some 78) (v := ?_) (a' := ?_) #[true, true, true, true, true, true, true, true, true, true, true, true, true, true, true, true, true, true, false, false, false, false, false, false, false, false, false, false, false, false, false, false, false, false, false] rfl rfl (any_of HT_.out (by kernel_rfl)) (fun _ _ _ h => h) (Or.inl ⟨by rfl, ?_⟩) ?_ ?_
                                  rotate_left
                                  · intro w'
                                    go_simp
                                    with_reducible rfl
                                  rotate_left
                                  · simp only [Act.put, List.setIfInBounds_toArray, List.set_cons_zero, List.set_cons_succ, i64_w, i32_w]
                                    rfl
                                  refine pure_ (i := 18) (N := some 79) (v := ?_) (a' := ?_) #[true, true, true, true, true, true, true, true, true, true, true, true, true, true, true, true, true, true, true, false, false, false, false, false, false, false, false, false, false, false, false, false, false, false, false] rfl rfl (any_of HT_.out (by kernel_rfl)) (fun _ _ _ h => h) (Or.inl ⟨by rfl, ?_⟩) ?_ ?_
                                  rotate_left
                                  · intro w'
                                    go_simp
                                    with_reducible rfl
                                  rotate_left
                                  · simp only [Act.put, List.setIfInBounds_toArray, List.set_cons_zero, List.set_cons_succ, i64_w, i32_w]
                                    rfl
                                  refine pure_ (i := 19) (N := some 80) (v := ?_) (a' := ?_) #[true, true, true, true, true, true, true, true, true, true, true, true, true, true, true, true, true, true, true, true, false, false, false, false, false, false, false, false, false, false, false, false, false, false, false] rfl rfl (any_of HT_.out (by kernel_rfl)) (fun _ _ _ h => h) (Or.inl ⟨by rfl, ?_⟩) ?_ ?_
                                  rotate_left
                                  · intro w'
                                    go_simp
                                    with_reducible rfl
                                  rotate_left
                                  · simp only [Act.put, List.setIfInBounds_toArray, List.set_cons_zero, List.set_cons_succ, i64_w, i32_w]
                                    rfl
                                  refine pure_ (i := 20) (N := some 81) (v := ?_) (a' := ?_) #[true, true, true, true, true, true, true, true, true, true, true, true, true, true, true, true, true, true, true, true, true, false, false, false, false, false, false, false, false, false, false, false, false, false, false] rfl rfl (any_of HT_.out (by kernel_rfl)) (fun _ _ _ h => h) (Or.inl ⟨by rfl, ?_⟩) ?_ ?_
                                  rotate_left
                                  · intro w'
                                    go_simp
                                    with_reducible rfl
                                  rotate_left
                                  · simp only [Act.put, List.setIfInBounds_toArray, List.set_cons_zero, List.set_cons_succ, i64_w, i32_w]
                                    rfl
                                  refine pure_ (i := 21) (N := some 82) (v := ?_) (a' := ?_) #[true, true, true, true, true, true, true, true, true, true, true, true, true, true, true, true, true, true, true, true, true, true, false, false, false, false, false, false, false, false, false, false, false, false, false] rfl rfl (any_of HT_.out (by kernel_rfl)) (fun _ _ _ h => h) (Or.inl ⟨by rfl, ?_⟩) ?_ ?_
                                  rotate_left
                                  · intro w'
                                    go_simp
                                    with_reducible rfl
                                  rotate_left
                                  · simp only [Act.put, List.setIfInBounds_toArray, List.set_cons_zero, List.set_cons_succ, i64_w, i32_w]
                                    rfl
                                  refine pure_ (i := 22) (N := some 83) (v := ?_) (a' := ?_) #[true, true, true, true, true, true, true, true, true, true, true, true, true, true, true, true, true, true, true, true, true, true, true, false, false, false, false, false, false, false, false, false, false, false, false] rfl rfl (any_of HT_.out (by kernel_rfl)) (fun _ _ _ h => h) (Or.inl ⟨by rfl, ?_⟩) ?_ ?_
                                  rotate_left
                                  · intro w'
                                    go_simp
                                    with_reducible rfl
                                  rotate_left
                                  · simp only [Act.put, List.setIfInBounds_toArray, List.set_cons_zero, List.set_cons_succ, i64_w, i32_w]
                                    rfl
                                  refine pure_ (i := 23) (N := some 84) (v := ?_) (a' := ?_) #[true, true, true, true, true, true, true, true, true, true, true, true, true, true, true, true, true, true, true, true, true, true, true, true, false, false, false, false, false, false, false, false, false, false, false] rfl rfl (any_of HT_.out (by kernel_rfl)) (fun _ _ _ h => h) (Or.inl ⟨by rfl, ?_⟩) ?_ ?_
                                  rotate_left
                                  · intro w'
                                    go_simp
                                    with_reducible rfl
                                  rotate_left
                                  · simp only [Act.put, List.setIfInBounds_toArray, List.set_cons_zero, List.set_cons_succ, i64_w, i32_w]
                                    rfl
                                  refine pure_ (i := 24) (N := some 85) (v := ?_) (a' := ?_) #[true, true, true, true, true, true, true, true, true, true, true, true, true, true, true, true, true, true, true, true, true, true, true, true, true, false, false, false, false, false, false, false, false, false, false] rfl rfl (any_of HT_.out (by kernel_rfl)) (fun _ _ _ h => h) (Or.inl ⟨by rfl, ?_⟩) ?_ ?_
                                  rotate_left
                                  · intro w'
                                    go_simp
                                    with_reducible rfl
                                  rotate_left
                                  · simp only [Act.put, List.setIfInBounds_toArray, List.set_cons_zero, List.set_cons_succ, i64_w, i32_w]
                                    rfl
                                  refine pure_ (i := 25) (N := some 86) (v := ?_) (a' := ?_) #[true, true, true, true, true, true, true, true, true, true, true, true, true, true, true, true, true, true, true, true, true, true, true, true, true, true, false, false, false, false, false, false, false, false, false] rfl rfl (any_of HT_.out (by kernel_rfl)) (fun _ _ _ h => h) (Or.inl ⟨by rfl, ?_⟩) ?_ ?_
                                  rotate_left
                                  · intro w'
                                    go_simp
                                    with_reducible rfl
                                  rotate_left
                                  · simp only [Act.put, List.setIfInBounds_toArray, List.set_cons_zero, List.set_cons_succ, i64_w, i32_w]
                                    rfl
                                  refine pure_ (i := 26) (N := some 87) (v := ?_) (a' := ?_) #[true, true, true, true, true, true, true, true, true, true, true, true, true, true, true, true, true, true, true, true, true, true, true, true, true, true, true, false, false, false, false, false, false, false, false] rfl rfl (any_of HT_.out (by kernel_rfl)) (fun _ _ _ h => h) (Or.inl ⟨by rfl, ?_⟩) ?_ ?_
                                  rotate_left
                                  · intro w'
                                    go_simp
                                    with_reducible rfl
                                  rotate_left
                                  · simp only [Act.put, List.setIfInBounds_toArray, List.set_cons_zero, List.set_cons_succ, i64_w, i32_w]
                                    rfl
                                  refine pure_ (i := 28) (N := some 89) (v := ?_) (a' := ?_) #[true, true, true, true, true, true, true, true, true, true, true, true, true, true, true, true, true, true, true, true, true, true, true, true, true, true, true, false, true, false, false, false, false, false, false] rfl rfl (any_of HT_.out (by kernel_rfl)) (fun _ _ _ h => h) (Or.inl ⟨by rfl, ?_⟩) ?_ ?_
                                  rotate_left
                                  · intro w'
                                    go_simp
                                    with_reducible rfl
                                  rotate_left
                                  · simp only [Act.put, List.setIfInBounds_toArray, List.set_cons_zero, List.set_cons_succ, i64_w, i32_w]
                                    rfl
                                  refine pure_ (i := 29) (N := some 90) (v := ?_) (a' := ?_) #[true, true, true, true, true, true, true, true, true, true, true, true, true, true, true, true, true, true, true, true, true, true, true, true, true, true, true, false, true, true, false, false, false, false, false] rfl rfl (any_of HT_.out (by kernel_rfl)) (fun _ _ _ h => h) (Or.inl ⟨by rfl, ?_⟩) ?_ ?_
                                  rotate_left
                                  · intro w'
                                    go_simp
                                    with_reducible rfl
                                  rotate_left
                                  · simp only [Act.put, List.setIfInBounds_toArray, List.set_cons_zero, List.set_cons_succ, i64_w, i32_w]
                                    rfl
                                  refine pure_ (i := 30) (N := some 91) (v := ?_) (a' := ?_) #[true, true, true, true, true, true, true, true, true, true, true, true, true, true, true, true, true, true, true, true, true, true, true, true, true, true, true, false, true, true, true, false, false, false, false] rfl rfl (any_of HT_.out (by kernel_rfl)) (fun _ _ _ h => h) (Or.inl ⟨by rfl, ?_⟩) ?_ ?_
                                  rotate_left
                                  · intro w'
                                    go_simp
                                    with_reducible rfl
                                  rotate_left
                                  · simp only [Act.put, List.setIfInBounds_toArray, List.set_cons_zero, List.set_cons_succ, i64_w, i32_w]
                                    rfl
                                  refine take_ (i := 27) (N := some 88) (v := ?_) (a' := ?_) #[true, true, true, true, true, true, true, true, true, true, true, true, true, true, true, true, true, true, true, true, true, true, true, true, true, true, true, true, true, true, true, false, false, false, false] rfl rfl (take_ofW HT_.out HW_.out (by kernel_rfl)) (fun _ _ _ h => h) (Or.inl ⟨by rfl, ?_⟩) hHeld ?_ ?_
                                  rotate_left
                                  · rintro w' ⟨s0, s1, s2, s3⟩
                                    go_simp
                                    with_reducible rfl
                                  rotate_left
                                  · simp only [Act.put, List.setIfInBounds_toArray, List.set_cons_zero, List.set_cons_succ, i64_w, i32_w]
                                    rfl
                                  refine take_ (i := 31) (N := some 92) (v := ?_) (a' := ?_) #[true, true, true, true, true, true, true, true, true, true, true, true, true, true, true, true, true, true, true, true, true, true, true, true, true, true, true, true, true, true, true, true, false, false, false] rfl rfl (take_ofW HT_.out HW_.out (by kernel_rfl)) (fun _ _ _ h => h) (Or.inl ⟨by rfl, ?_⟩) hHeld ?_ ?_
                                  rotate_left
                                  · rintro w' ⟨s0, s1, s2, s3⟩
                                    go_simp
                                    with_reducible rfl
                                  rotate_left
                                  · simp only [Act.put, List.setIfInBounds_toArray, List.set_cons_zero, List.set_cons_succ, i64_w, i32_w]
                                    rfl
                                  refine pure_ (i := 32) (N := some 93) (v := ?_) (a' := ?_) #[true, true, true, true, true, true, true, true, true, true, true, true, true, true, true, true, true, true, true, true, true, true, true, true, true, true, true, true, true, true, true, true, true, false, false] rfl rfl (any_of HT_.out (by kernel_rfl)) (fun _ _ _ h => h) (Or.inl ⟨by rfl, ?_⟩) ?_ ?_
                                  rotate_left
                                  · intro w'
                                    go_simp
                                    with_reducible rfl
                                  rotate_left
                                  · simp only [Act.put, List.setIfInBounds_toArray, List.set_cons_zero, List.set_cons_succ, i64_w, i32_w]
                                    rfl
                                  refine pure_ (i := 33) (N := some 94) (v := ?_) (a' := ?_) #[true, true, true, true, true, true, true, true, true, true, true, true, true, true, true, true, true, true, true, true, true, true, true, true, true, true, true, true, true, true, true, true, true, true, false] rfl rfl (any_of HT_.out (by kernel_rfl)) (fun _ _ _ h => h) (Or.inl ⟨by rfl, ?_⟩) ?_ ?_
                                  rotate_left
                                  · intro w'
                                    go_simp
                                    with_reducible rfl
                                  rotate_left
                                  · simp only [Act.put, List.setIfInBounds_toArray, List.set_cons_zero, List.set_cons_succ, i64_w, i32_w]
                                    rfl
                                  refine pure_ (i := 34) (N := some 95) (v := ?_) (a' := ?_) #[true, true, true, true, true, true, true, true, true, true, true, true, true, true, true, true, true, true, true, true, true, true, true, true, true, true, true, true, true, true, true, true, true, true, true] rfl rfl (any_of HT_.out (by kernel_rfl)) (fun _ _ _ h => h) (Or.inl ⟨by rfl, ?_⟩) ?_ ?_
                                  rotate_left
                                  · intro w'
                                    go_simp
                                    with_reducible rfl
                                  rotate_left
                                  · simp only [Act.put, List.setIfInBounds_toArray, List.set_cons_zero, List.set_cons_succ, i64_w, i32_w]
                                    rfl
                                  refine done_ (done_of HT_.out (by kernel_rfl)) ?_
                                  try go_wp2
                                  have n0_ := Aside0.mk (Kd.R_drew HO_7.out)
                                  have n1_ := Aside0.mk (Kd.R_drew HO_1105002.out)
                                  have n2_ := Aside0.mk (blk_drew BK1104.out)
                                  have n3_ := Aside0.mk (blk_drew BK1108.out)
                                  have n4_ := Aside0.mk (blk_drew BK1121.out)
                                  have n5_ := Aside0.mk (below_drew1 HB.out)
                                  clear HO_7
                                  clear HO_1105002
                                  clear BK1104
                                  clear BK1108
                                  clear BK1121
                                  clear HB
                                  have HO_7 := n0_
                                  have HO_1105002 := n1_
                                  have BK1104 := n2_
                                  have BK1108 := n3_
                                  have BK1121 := n4_
                                  have HB := n5_
                                  clear n0_ n1_ n2_ n3_ n4_ n5_
                                  refine start_ (n := 10) (S := fun w' => w'.cell? ⟨gb1121, 0, none⟩ = some (.int .i64 t1118) ∧ w'.cell? ⟨gb1121, 1, none⟩ = some (.int .i64 t1119)) (ds := []) #[false, false, false, false, false, false, false, false, false, false] (by kernel_rfl) rfl rfl ⟨(blk_cell BK1121.out 0).trans rfl, (blk_cell BK1121.out 1).trans rfl⟩ (fun hHeld => ?_); refine with_tabW laws_FnShares.tab18 laws_FnShares.bits18 (fun HT_ HW_ => ?_)
                                  generalize w47.drew = w48 at HO_7 HO_1105002 BK1104 BK1108 BK1121 HB hHeld ⊢
                                  refine pure_ (i := 0) (N := some 96) (v := ?_) (a' := ?_) #[true, false, false, false, false, false, false, false, false, false] rfl rfl (any_of HT_.out (by kernel_rfl)) (fun _ _ _ h => h) (Or.inl ⟨by rfl, ?_⟩) ?_ ?_
                                  rotate_left
                                  · intro w'
                                    go_simp
                                    with_reducible rfl
                                  rotate_left
                                  · simp only [Act.put, List.setIfInBounds_toArray, List.set_cons_zero, List.set_cons_succ, i64_w, i32_w]
                                    rfl
                                  refine pure_ (i := 1) (N := some 97) (v := ?_) (a' := ?_) #[true, true, false, false, false, false, false, false, false, false] rfl rfl (any_of HT_.out (by kernel_rfl)) (fun _ _ _ h => h) (Or.inl ⟨by rfl, ?_⟩) ?_ ?_
                                  rotate_left
                                  · intro w'
                                    go_simp
                                    with_reducible rfl
                                  rotate_left
                                  · simp only [Act.put, List.setIfInBounds_toArray, List.set_cons_zero, List.set_cons_succ, i64_w, i32_w]
                                    rfl
                                  refine pure_ (i := 3) (N := some 99) (v := ?_) (a' := ?_) #[true, true, false, true, false, false, false, false, false, false] rfl rfl (any_of HT_.out (by kernel_rfl)) (fun _ _ _ h => h) (Or.inl ⟨by rfl, ?_⟩) ?_ ?_
                                  rotate_left
                                  · intro w'
                                    go_simp
                                    with_reducible rfl
                                  rotate_left
                                  · simp only [Act.put, List.setIfInBounds_toArray, List.set_cons_zero, List.set_cons_succ, i64_w, i32_w]
                                    rfl
                                  refine pure_ (i := 4) (N := some 100) (v := ?_) (a' := ?_) #[true, true, false, true, true, false, false, false, false, false] rfl rfl (any_of HT_.out (by kernel_rfl)) (fun _ _ _ h => h) (Or.inl ⟨by rfl, ?_⟩) ?_ ?_
                                  rotate_left
                                  · intro w'
                                    go_simp
                                    with_reducible rfl
                                  rotate_left
                                  · simp only [Act.put, List.setIfInBounds_toArray, List.set_cons_zero, List.set_cons_succ, i64_w, i32_w]
                                    rfl
                                  refine take_ (i := 2) (N := some 98) (v := ?_) (a' := ?_) #[true, true, true, true, true, false, false, false, false, false] rfl rfl (take_ofW HT_.out HW_.out (by kernel_rfl)) (fun _ _ _ h => h) (Or.inl ⟨by rfl, ?_⟩) hHeld ?_ ?_
                                  rotate_left
                                  · rintro w' ⟨s0, s1⟩
                                    go_simp
                                    with_reducible rfl
                                  rotate_left
                                  · simp only [Act.put, List.setIfInBounds_toArray, List.set_cons_zero, List.set_cons_succ, i64_w, i32_w]
                                    rfl
                                  refine take_ (i := 5) (N := some 101) (v := ?_) (a' := ?_) #[true, true, true, true, true, true, false, false, false, false] rfl rfl (take_ofW HT_.out HW_.out (by kernel_rfl)) (fun _ _ _ h => h) (Or.inl ⟨by rfl, ?_⟩) hHeld ?_ ?_
                                  rotate_left
                                  · rintro w' ⟨s0, s1⟩
                                    go_simp
                                    with_reducible rfl
                                  rotate_left
                                  · simp only [Act.put, List.setIfInBounds_toArray, List.set_cons_zero, List.set_cons_succ, i64_w, i32_w]
                                    rfl
                                  refine pure_ (i := 6) (N := some 102) (v := ?_) (a' := ?_) #[true, true, true, true, true, true, true, false, false, false] rfl rfl (any_of HT_.out (by kernel_rfl)) (fun _ _ _ h => h) (Or.inl ⟨by rfl, ?_⟩) ?_ ?_
                                  rotate_left
                                  · intro w'
                                    go_simp
                                    with_reducible rfl
                                  rotate_left
                                  · simp only [Act.put, List.setIfInBounds_toArray, List.set_cons_zero, List.set_cons_succ, i64_w, i32_w]
                                    rfl
                                  refine pure_ (i := 7) (N := some 103) (v := ?_) (a' := ?_) #[true, true, true, true, true, true, true, true, false, false] rfl rfl (any_of HT_.out (by kernel_rfl)) (fun _ _ _ h => h) (Or.inl ⟨by rfl, ?_⟩) ?_ ?_
                                  rotate_left
                                  · intro w'
                                    go_simp
                                    with_reducible rfl
                                  rotate_left
                                  · simp only [Act.put, List.setIfInBounds_toArray, List.set_cons_zero, List.set_cons_succ, i64_w, i32_w]
                                    rfl
                                  refine pure_ (i := 8) (N := some 104) (v := ?_) (a' := ?_) #[true, true, true, true, true, true, true, true, true, false] rfl rfl (any_of HT_.out (by kernel_rfl)) (fun _ _ _ h => h) (Or.inl ⟨by rfl, ?_⟩) ?_ ?_
                                  rotate_left
                                  · intro w'
                                    go_simp
                                    with_reducible rfl
                                  rotate_left
                                  · simp only [Act.put, List.setIfInBounds_toArray, List.set_cons_zero, List.set_cons_succ, i64_w, i32_w]
                                    rfl
                                  refine pure_ (i := 9) (N := some 9) (v := ?_) (a' := ?_) #[true, true, true, true, true, true, true, true, true, true] rfl rfl (any_of HT_.out (by kernel_rfl)) (fun _ _ _ h => h) (Or.inl ⟨by rfl, ?_⟩) ?_ ?_
                                  rotate_left
                                  · intro w'
                                    go_simp
                                    with_reducible rfl
                                  rotate_left
                                  · simp only [Act.put, List.setIfInBounds_toArray, List.set_cons_zero, List.set_cons_succ, i64_w, i32_w]
                                    rfl
                                  refine done_ (done_of HT_.out (by kernel_rfl)) ?_
                                  try go_wp2
                                  go_roundg k1
                                  case measure => have := HK1.out; omega
                                  case rel => exact ⟨(wrap64 (x9_1 + (wrap64 (t1118 * (wrap64 (Int.tdiv t1116 t1119)))))), (wrap64 (x10_1 + 1)), (by first | rfl | (simp; done) | (simp [*]; done)), (by first | rfl | (simp; done) | (simp [*]; done)), H', ⟨by have := HK1.out; omega⟩, ⟨by (with_reducible repeat (first | apply Kd.R_alloc | apply Kd.R_drewN | apply Kd.R_drew)); exact HO_7.out⟩, ⟨by (with_reducible repeat (first | apply Kd.R_alloc | apply Kd.R_drewN | apply Kd.R_drew)); exact HO_1105002.out⟩, ⟨bk_ BK1104.out⟩, ⟨bk_ BK1108.out⟩, ⟨hb3_ HB.out GE1104.out GE1108.out GE1121.out⟩⟩
                              · rw [if_neg c37] at H
                                exact absurd H (by simp)
                            · rw [if_neg c36] at H
                              exact absurd H (by simp)
                          · rw [if_neg c34] at H
                            have c34b0 : decide (0 < x10_1) = false := decide_eq_false c34
                            clear c34
                            have H' := Aside0.mk H
                            clear H
                            obtain ⟨Ao49, co49, eo49⟩ := Kd.R_slice HO_7.out
                            subst eo49
                            try go_wp2
                            have n0_ := Aside0.mk (Kd.R_drew HO_7.out)
                            have n1_ := Aside0.mk (Kd.R_drew HO_1105002.out)
                            have n2_ := Aside0.mk (blk_drew BK1104.out)
                            have n3_ := Aside0.mk (blk_drew BK1108.out)
                            have n4_ := Aside0.mk (below_drew1 HB.out)
                            clear HO_7
                            clear HO_1105002
                            clear BK1104
                            clear BK1108
                            clear HB
                            have HO_7 := n0_
                            have HO_1105002 := n1_
                            have BK1104 := n2_
                            have BK1108 := n3_
                            have HB := n4_
                            clear n0_ n1_ n2_ n3_ n4_
                            have p1117 : 0 ≤ (x10_1 : Int) := of_decide_eq_true (by first | (with_reducible assumption) | assumption)
                            have q1117 : x10_1 < (t1113.length : Int) := of_decide_eq_true (by first | (with_reducible assumption) | assumption)
                            obtain ⟨ad1117, e1117, hx1117_0⟩ := Kd.at_int (Kd.R_reads' HO_7.out).2.2 x10_1 p1117 q1117
                            cases e1117
                            replace p1117 := eq_true p1117
                            replace q1117 := eq_true q1117
                            refine start_ (n := 12) (S := fun w' => w'.cell? ⟨gb1104, 0, none⟩ = some (.int .i64 t1098) ∧ w'.cell? ⟨gb1104, 1, none⟩ = some (.int .i64 t1099) ∧ w'.cell? ⟨gb1104, 2, none⟩ = some (.slice Ao14 t1100.length co14) ∧ w'.cell? (ad1117.add (x10_1).toNat) = some (.int .i64 (rd t1113 x10_1))) (ds := []) #[false, false, false, false, false, false, false, false, false, false, false, false] (by kernel_rfl) rfl rfl ⟨(blk_cell BK1104.out 0).trans rfl, (blk_cell BK1104.out 1).trans rfl, (blk_cell BK1104.out 2).trans rfl, hx1117_0⟩ (fun hHeld => ?_); refine with_tabW laws_FnShares.tab15 laws_FnShares.bits15 (fun HT_ HW_ => ?_)
                            generalize wr.drew = w50 at HO_7 HO_1105002 BK1104 BK1108 HB hx1117_0 hHeld ⊢
                            refine pure_ (i := 1) (N := some 54) (v := ?_) (a' := ?_) #[false, true, false, false, false, false, false, false, false, false, false, false] rfl rfl (any_of HT_.out (by kernel_rfl)) (fun _ _ _ h => h) (Or.inl ⟨by rfl, ?_⟩) ?_ ?_
                            rotate_left
                            · intro w'
                              go_simp
                              with_reducible rfl
                            rotate_left
                            · simp only [Act.put, List.setIfInBounds_toArray, List.set_cons_zero, List.set_cons_succ, i64_w, i32_w]
                              rfl
                            refine pure_ (i := 2) (N := some 55) (v := ?_) (a' := ?_) #[false, true, true, false, false, false, false, false, false, false, false, false] rfl rfl (any_of HT_.out (by kernel_rfl)) (fun _ _ _ h => h) (Or.inl ⟨by rfl, ?_⟩) ?_ ?_
                            rotate_left
                            · intro w'
                              go_simp
                              with_reducible rfl
                            rotate_left
                            · simp only [Act.put, List.setIfInBounds_toArray, List.set_cons_zero, List.set_cons_succ, i64_w, i32_w]
                              rfl
                            refine pure_ (i := 3) (N := some 56) (v := ?_) (a' := ?_) #[false, true, true, true, false, false, false, false, false, false, false, false] rfl rfl (any_of HT_.out (by kernel_rfl)) (fun _ _ _ h => h) (Or.inl ⟨by rfl, ?_⟩) ?_ ?_
                            rotate_left
                            · intro w'
                              go_simp
                              with_reducible rfl
                            rotate_left
                            · simp only [Act.put, List.setIfInBounds_toArray, List.set_cons_zero, List.set_cons_succ, i64_w, i32_w]
                              rfl
                            refine take_ (i := 0) (N := some 53) (v := ?_) (a' := ?_) #[true, true, true, true, false, false, false, false, false, false, false, false] rfl rfl (take_ofW HT_.out HW_.out (by kernel_rfl)) (fun _ _ _ h => h) (Or.inl ⟨by rfl, ?_⟩) hHeld ?_ ?_
                            rotate_left
                            · rintro w' ⟨s0, s1, s2, s3⟩
                              go_simp
                              with_reducible rfl
                            rotate_left
                            · simp only [Act.put, List.setIfInBounds_toArray, List.set_cons_zero, List.set_cons_succ, i64_w, i32_w]
                              rfl
                            refine take_ (i := 4) (N := some 57) (v := ?_) (a' := ?_) #[true, true, true, true, true, false, false, false, false, false, false, false] rfl rfl (take_ofW HT_.out HW_.out (by kernel_rfl)) (fun _ _ _ h => h) (Or.inl ⟨by rfl, ?_⟩) hHeld ?_ ?_
                            rotate_left
                            · rintro w' ⟨s0, s1, s2, s3⟩
                              go_simp
                              with_reducible rfl
                            rotate_left
                            · simp only [Act.put, List.setIfInBounds_toArray, List.set_cons_zero, List.set_cons_succ, i64_w, i32_w]
                              rfl
                            refine join_ (σ := Nat) 2 #[true, true, true, true, true, true, true, true, true, true, false, false] (fun s_ => [(58, .tuple #[.agg #[.int .i64 t1118, .int .i64 t1119], .bool true]), (11, .pointer (some ⟨s_, 0, none⟩)), (52, .tuple #[.agg #[.int .i64 t1118, .int .i64 t1119], .bool true]), (59, .agg #[.int .i64 t1118, .int .i64 t1119]), (60, .bool true)]) (fun s_ w' => (w'.cell? ⟨gb1104, 0, none⟩ = some (.int .i64 t1098) ∧ w'.cell? ⟨gb1104, 1, none⟩ = some (.int .i64 t1099) ∧ w'.cell? ⟨gb1104, 2, none⟩ = some (.slice Ao14 t1100.length co14) ∧ w'.cell? (ad1117.add (x10_1).toNat) = some (.int .i64 (rd t1113 x10_1))) ∧ (Kd.R k79 79 w' w.heap.size (fun _ => True) (.slice Ao14 t1100.length co14) t1100) ∧ (Kd.R (Kd.int .i64) 3 w' w.heap.size (fun _ => True) (.slice (some ad1117) t1113.length co49) t1113) ∧ (w'.heap[gb1104]? = some (.cells #[.int .i64 t1098, .int .i64 t1099, .slice Ao14 t1100.length co14] 39 (0, 0))) ∧ (w'.heap[gb1108]? = some (.cells #[.int .i64 t1105, .int .i64 t1106] 70 (0, 0))) ∧ (w'.heap[s_]? = some (.cells #[.int .i64 0, .int .i64 0] 70 (0, 0))) ∧ (w.heap.size ≤ s_) ∧ (w.heap.size ≤ s_) ∧ (gb1104 ≠ s_) ∧ (s_ ≠ gb1104) ∧ (gb1108 ≠ s_) ∧ (s_ ≠ gb1108) ∧ (Below w.heap.size w w')) ?_ ?_
                            rotate_left
                            · intro hCont
                              refine two_ (i := 5) (j := 9) (Ni := some 58) (Nj := some 11) #[true, true, true, true, true, true, false, false, false, false, false, false] #[true, true, true, true, true, false, false, false, false, true, false, false] rfl rfl rfl rfl (two_of HT_.out (by kernel_rfl)) (by decide) (by decide) (fun K hK => ?_) (fun K hK => ?_)
                              · skip
                                refine goes_ Try.func38 (by kernel_rfl) rfl #[.agg #[.int .i64 t1098, .int .i64 t1099, .slice Ao14 t1100.length co14], .int .i64 (rd t1113 x10_1)] (by rfl) rfl rfl arr_ ?_
                                with_reducible refine (impl_ShareOf.calls k1 t1098 t1099 _ _ t1100 (rd t1113 x10_1) t1118 t1119 true _ ?side1 ?side2 A28.out).mono ?_
                                (case side1 => repeat (first | exact (Kd.R_reads' HO_1105002.out).2.2 | (with_reducible refine Kd.C_alloc ?_ _) | (with_reducible refine Kd.C_drewN ?_ _) | (with_reducible refine Kd.C_drew ?_)))
                                (case side2 => exact (Kd.R_reads' HO_1105002.out).2.1)
                                rintro e w51 ⟨rfl, hb⟩
                                have HS3_ := (hb.cell (World.block_lt_of_cell? _ _ (hHeld.2.2.2))).trans (hHeld.2.2.2)
                                refine ⟨_, rfl, ?_⟩
                                have n0_ := Aside0.mk (Kd.R_below (by (with_reducible repeat (first | apply Kd.R_alloc | apply Kd.R_drewN | apply Kd.R_drew)); exact HO_7.out) hb)
                                have n1_ := Aside0.mk (Kd.R_below (by (with_reducible repeat (first | apply Kd.R_alloc | apply Kd.R_drewN | apply Kd.R_drew)); exact HO_1105002.out) hb)
                                have n2_ := Aside0.mk (bb_ BK1104.out hb)
                                have n3_ := Aside0.mk (bb_ BK1108.out hb)
                                have n4_ := Aside0.mk (below_step (hb2_ HB.out GE1104.out GE1108.out) hb)
                                clear HO_7
                                clear HO_1105002
                                clear BK1104
                                clear BK1108
                                clear HB
                                have HO_7 := n0_
                                have HO_1105002 := n1_
                                have BK1104 := n2_
                                have BK1108 := n3_
                                have HB := n4_
                                clear n0_ n1_ n2_ n3_ n4_
                                (try clear hb)
                                (try clear hb2)
                                (try clear hk)
                                (try clear hi)
                                refine hK.out _ _ ⟨(blk_cell BK1104.out 0).trans rfl, (blk_cell BK1104.out 1).trans rfl, (blk_cell BK1104.out 2).trans rfl, HS3_⟩ (fun hHeld => ?_)
                                clear hK K
                                refine norm_ (a' := ?_) ?_ ?_
                                rotate_left
                                · show Act.put _ (some 58) _ = _
                                  simp only [Act.put, List.setIfInBounds_toArray, List.set_cons_zero, List.set_cons_succ, i64_w, i32_w]
                                  rfl
                                refine pure_ (i := 6) (N := some 52) (v := ?_) (a' := ?_) #[true, true, true, true, true, true, true, false, false, false, false, false] rfl rfl (any_of HT_.out (by kernel_rfl)) (fun _ _ _ h => h) (Or.inl ⟨by rfl, ?_⟩) ?_ ?_
                                rotate_left
                                · intro w'
                                  go_simp
                                  with_reducible rfl
                                rotate_left
                                · simp only [Act.put, List.setIfInBounds_toArray, List.set_cons_zero, List.set_cons_succ, i64_w, i32_w]
                                  rfl
                                refine pure_ (i := 7) (N := some 59) (v := ?_) (a' := ?_) #[true, true, true, true, true, true, true, true, false, false, false, false] rfl rfl (any_of HT_.out (by kernel_rfl)) (fun _ _ _ h => h) (Or.inl ⟨by rfl, ?_⟩) ?_ ?_
                                rotate_left
                                · intro w'
                                  go_simp
                                  with_reducible rfl
                                rotate_left
                                · simp only [Act.put, List.setIfInBounds_toArray, List.set_cons_zero, List.set_cons_succ, i64_w, i32_w]
                                  rfl
                                refine pure_ (i := 8) (N := some 60) (v := ?_) (a' := ?_) #[true, true, true, true, true, true, true, true, true, false, false, false] rfl rfl (any_of HT_.out (by kernel_rfl)) (fun _ _ _ h => h) (Or.inl ⟨by rfl, ?_⟩) ?_ ?_
                                rotate_left
                                · intro w'
                                  go_simp
                                  with_reducible rfl
                                rotate_left
                                · simp only [Act.put, List.setIfInBounds_toArray, List.set_cons_zero, List.set_cons_succ, i64_w, i32_w]
                                  rfl
                                refine one_ (i := 9) (N := some 11) #[true, true, true, true, true, true, true, true, true, true, false, false] rfl rfl (one_of HT_.out (by kernel_rfl)) (by decide) (fun K hK => ?_)
                                refine box_step ?hg (N := 11) ?hd (cs := #[.int .i64 0, .int .i64 0]) (t := 70) ?hr ?_; (case hd => rfl); (case hg => rfl); (case hr => first | (go_simp; done) | (go_simp; rfl))
                                intro gb1121 hg w52 hbox hb
                                have HS3_ := (hb.cell (World.block_lt_of_cell? _ _ (hHeld.2.2.2))).trans (hHeld.2.2.2)
                                have n0_ := Aside0.mk (Kd.R_below (by (with_reducible repeat (first | apply Kd.R_alloc | apply Kd.R_drewN | apply Kd.R_drew)); exact HO_7.out) hb)
                                have n1_ := Aside0.mk (Kd.R_below (by (with_reducible repeat (first | apply Kd.R_alloc | apply Kd.R_drewN | apply Kd.R_drew)); exact HO_1105002.out) hb)
                                have n2_ := Aside0.mk (bb_ BK1104.out hb)
                                have n3_ := Aside0.mk (bb_ BK1108.out hb)
                                have n4_ := Aside0.mk (below_step (hb2_ HB.out GE1104.out GE1108.out) hb)
                                have n5_ := Aside0.mk (hbox)
                                have n6_ := Aside0.mk ((by rw [hg]; exact (below_size (hb2_ HB.out GE1104.out GE1108.out)) : w.heap.size ≤ gb1121))
                                have n7_ := Aside0.mk ((by rw [hg]; exact (below_size (hb2_ HB.out GE1104.out GE1108.out)) : w.heap.size ≤ gb1121))
                                have n8_ := Aside0.mk ((bl_ hg BK1104.out : gb1104 ≠ gb1121))
                                have n9_ := Aside0.mk ((bg_ hg BK1104.out : gb1121 ≠ gb1104))
                                have n10_ := Aside0.mk ((bl_ hg BK1108.out : gb1108 ≠ gb1121))
                                have n11_ := Aside0.mk ((bg_ hg BK1108.out : gb1121 ≠ gb1108))
                                clear HO_7
                                clear HO_1105002
                                clear BK1104
                                clear BK1108
                                clear HB
                                have HO_7 := n0_
                                have HO_1105002 := n1_
                                have BK1104 := n2_
                                have BK1108 := n3_
                                have HB := n4_
                                have BK1121 := n5_
                                have GW1121 := n6_
                                have GE1121 := n7_
                                have NB1104_1121 := n8_
                                have NB1121_1104 := n9_
                                have NB1108_1121 := n10_
                                have NB1121_1108 := n11_
                                clear n0_ n1_ n2_ n3_ n4_ n5_ n6_ n7_ n8_ n9_ n10_ n11_
                                clear hb hbox hg
                                refine hK.out _ _ ⟨(blk_cell BK1104.out 0).trans rfl, (blk_cell BK1104.out 1).trans rfl, (blk_cell BK1104.out 2).trans rfl, HS3_⟩ (fun hHeld => ?_)
                                clear hK K
                                refine norm_ (a' := ?_) ?_ ?_
                                rotate_left
                                · show Act.put _ (some 11) _ = _
                                  simp only [Act.put, List.setIfInBounds_toArray, List.set_cons_zero, List.set_cons_succ, i64_w, i32_w]
                                  rfl
                                exact norm_ (by simp only [putAll, Act.put, List.setIfInBounds_toArray, List.set_cons_zero, List.set_cons_succ]) (hCont (gb1121) _ ⟨hHeld, (by (with_reducible repeat (first | apply Kd.R_alloc | apply Kd.R_drewN | apply Kd.R_drew)); exact HO_1105002.out), (by (with_reducible repeat (first | apply Kd.R_alloc | apply Kd.R_drewN | apply Kd.R_drew)); exact HO_7.out), (bk_ BK1104.out), (bk_ BK1108.out), (bk_ BK1121.out), GW1121.out, GE1121.out, NB1104_1121.out, NB1121_1104.out, NB1108_1121.out, NB1121_1108.out, (hb3_ HB.out GE1104.out GE1108.out GE1121.out)⟩)
                              · skip
                                refine box_step ?hg (N := 11) ?hd (cs := #[.int .i64 0, .int .i64 0]) (t := 70) ?hr ?_; (case hd => rfl); (case hg => rfl); (case hr => first | (go_simp; done) | (go_simp; rfl))
                                intro gb1121 hg w51 hbox hb
                                have HS3_ := (hb.cell (World.block_lt_of_cell? _ _ (hHeld.2.2.2))).trans (hHeld.2.2.2)
                                have n0_ := Aside0.mk (Kd.R_below (by (with_reducible repeat (first | apply Kd.R_alloc | apply Kd.R_drewN | apply Kd.R_drew)); exact HO_7.out) hb)
                                have n1_ := Aside0.mk (Kd.R_below (by (with_reducible repeat (first | apply Kd.R_alloc | apply Kd.R_drewN | apply Kd.R_drew)); exact HO_1105002.out) hb)
                                have n2_ := Aside0.mk (bb_ BK1104.out hb)
                                have n3_ := Aside0.mk (bb_ BK1108.out hb)
                                have n4_ := Aside0.mk (below_step (hb2_ HB.out GE1104.out GE1108.out) hb)
                                have n5_ := Aside0.mk (hbox)
                                have n6_ := Aside0.mk ((by rw [hg]; exact (below_size (hb2_ HB.out GE1104.out GE1108.out)) : w.heap.size ≤ gb1121))
                                have n7_ := Aside0.mk ((by rw [hg]; exact (below_size (hb2_ HB.out GE1104.out GE1108.out)) : w.heap.size ≤ gb1121))
                                have n8_ := Aside0.mk ((bl_ hg BK1104.out : gb1104 ≠ gb1121))
                                have n9_ := Aside0.mk ((bg_ hg BK1104.out : gb1121 ≠ gb1104))
                                have n10_ := Aside0.mk ((bl_ hg BK1108.out : gb1108 ≠ gb1121))
                                have n11_ := Aside0.mk ((bg_ hg BK1108.out : gb1121 ≠ gb1108))
                                clear HO_7
                                clear HO_1105002
                                clear BK1104
                                clear BK1108
                                clear HB
                                have HO_7 := n0_
                                have HO_1105002 := n1_
                                have BK1104 := n2_
                                have BK1108 := n3_
                                have HB := n4_
                                have BK1121 := n5_
                                have GW1121 := n6_
                                have GE1121 := n7_
                                have NB1104_1121 := n8_
                                have NB1121_1104 := n9_
                                have NB1108_1121 := n10_
                                have NB1121_1108 := n11_
                                clear n0_ n1_ n2_ n3_ n4_ n5_ n6_ n7_ n8_ n9_ n10_ n11_
                                clear hb hbox hg
                                refine hK.out _ _ ⟨(blk_cell BK1104.out 0).trans rfl, (blk_cell BK1104.out 1).trans rfl, (blk_cell BK1104.out 2).trans rfl, HS3_⟩ (fun hHeld => ?_)
                                clear hK K
                                refine norm_ (a' := ?_) ?_ ?_
                                rotate_left
                                · show Act.put _ (some 11) _ = _
                                  simp only [Act.put, List.setIfInBounds_toArray, List.set_cons_zero, List.set_cons_succ, i64_w, i32_w]
                                  rfl
                                refine one_ (i := 5) (N := some 58) #[true, true, true, true, true, true, false, false, false, true, false, false] rfl rfl (one_of HT_.out (by kernel_rfl)) (by decide) (fun K hK => ?_)
                                refine goes_ Try.func38 (by kernel_rfl) rfl #[.agg #[.int .i64 t1098, .int .i64 t1099, .slice Ao14 t1100.length co14], .int .i64 (rd t1113 x10_1)] (by rfl) rfl rfl arr_ ?_
                                with_reducible refine (impl_ShareOf.calls k1 t1098 t1099 _ _ t1100 (rd t1113 x10_1) t1118 t1119 true _ ?side1 ?side2 A28.out).mono ?_
                                (case side1 => repeat (first | exact (Kd.R_reads' HO_1105002.out).2.2 | (with_reducible refine Kd.C_alloc ?_ _) | (with_reducible refine Kd.C_drewN ?_ _) | (with_reducible refine Kd.C_drew ?_)))
                                (case side2 => exact (Kd.R_reads' HO_1105002.out).2.1)
                                rintro e w52 ⟨rfl, hb⟩
                                have HS3_ := (hb.cell (World.block_lt_of_cell? _ _ (hHeld.2.2.2))).trans (hHeld.2.2.2)
                                refine ⟨_, rfl, ?_⟩
                                have n0_ := Aside0.mk (Kd.R_below (by (with_reducible repeat (first | apply Kd.R_alloc | apply Kd.R_drewN | apply Kd.R_drew)); exact HO_7.out) hb)
                                have n1_ := Aside0.mk (Kd.R_below (by (with_reducible repeat (first | apply Kd.R_alloc | apply Kd.R_drewN | apply Kd.R_drew)); exact HO_1105002.out) hb)
                                have n2_ := Aside0.mk (bb_ BK1104.out hb)
                                have n3_ := Aside0.mk (bb_ BK1108.out hb)
                                have n4_ := Aside0.mk (bb_ BK1121.out hb)
                                have n5_ := Aside0.mk (below_step (hb3_ HB.out GE1104.out GE1108.out GE1121.out) hb)
                                clear HO_7
                                clear HO_1105002
                                clear BK1104
                                clear BK1108
                                clear BK1121
                                clear HB
                                have HO_7 := n0_
                                have HO_1105002 := n1_
                                have BK1104 := n2_
                                have BK1108 := n3_
                                have BK1121 := n4_
                                have HB := n5_
                                clear n0_ n1_ n2_ n3_ n4_ n5_
                                (try clear hb)
                                (try clear hb2)
                                (try clear hk)
                                (try clear hi)
                                refine hK.out _ _ ⟨(blk_cell BK1104.out 0).trans rfl, (blk_cell BK1104.out 1).trans rfl, (blk_cell BK1104.out 2).trans rfl, HS3_⟩ (fun hHeld => ?_)
                                clear hK K
                                refine norm_ (a' := ?_) ?_ ?_
                                rotate_left
                                · show Act.put _ (some 58) _ = _
                                  simp only [Act.put, List.setIfInBounds_toArray, List.set_cons_zero, List.set_cons_succ, i64_w, i32_w]
                                  rfl
                                refine pure_ (i := 6) (N := some 52) (v := ?_) (a' := ?_) #[true, true, true, true, true, true, true, false, false, true, false, false] rfl rfl (any_of HT_.out (by kernel_rfl)) (fun _ _ _ h => h) (Or.inl ⟨by rfl, ?_⟩) ?_ ?_
                                rotate_left
                                · intro w'
                                  go_simp
                                  with_reducible rfl
                                rotate_left
                                · simp only [Act.put, List.setIfInBounds_toArray, List.set_cons_zero, List.set_cons_succ, i64_w, i32_w]
                                  rfl
                                refine pure_ (i := 7) (N := some 59) (v := ?_) (a' := ?_) #[true, true, true, true, true, true, true, true, false, true, false, false] rfl rfl (any_of HT_.out (by kernel_rfl)) (fun _ _ _ h => h) (Or.inl ⟨by rfl, ?_⟩) ?_ ?_
                                rotate_left
                                · intro w'
                                  go_simp
                                  with_reducible rfl
                                rotate_left
                                · simp only [Act.put, List.setIfInBounds_toArray, List.set_cons_zero, List.set_cons_succ, i64_w, i32_w]
                                  rfl
                                refine pure_ (i := 8) (N := some 60) (v := ?_) (a' := ?_) #[true, true, true, true, true, true, true, true, true, true, false, false] rfl rfl (any_of HT_.out (by kernel_rfl)) (fun _ _ _ h => h) (Or.inl ⟨by rfl, ?_⟩) ?_ ?_
                                rotate_left
                                · intro w'
                                  go_simp
                                  with_reducible rfl
                                rotate_left
                                · simp only [Act.put, List.setIfInBounds_toArray, List.set_cons_zero, List.set_cons_succ, i64_w, i32_w]
                                  rfl
                                exact norm_ (by simp only [putAll, Act.put, List.setIfInBounds_toArray, List.set_cons_zero, List.set_cons_succ]) (hCont (gb1121) _ ⟨hHeld, (by (with_reducible repeat (first | apply Kd.R_alloc | apply Kd.R_drewN | apply Kd.R_drew)); exact HO_1105002.out), (by (with_reducible repeat (first | apply Kd.R_alloc | apply Kd.R_drewN | apply Kd.R_drew)); exact HO_7.out), (bk_ BK1104.out), (bk_ BK1108.out), (bk_ BK1121.out), GW1121.out, GE1121.out, NB1104_1121.out, NB1121_1104.out, NB1108_1121.out, NB1121_1108.out, (hb3_ HB.out GE1104.out GE1108.out GE1121.out)⟩)
                            rintro gb1121 w53 ⟨hS_, h0_, h1_, h2_, h3_, h4_, h5_, h6_, h7_, h8_, h9_, h10_, h11_⟩
                            have n0_ : Aside0 (Kd.R k79 79 w53 w.heap.size (fun _ => True) (.slice Ao14 t1100.length co14) t1100) := ⟨h0_⟩
                            have n1_ : Aside0 (Kd.R (Kd.int .i64) 3 w53 w.heap.size (fun _ => True) (.slice (some ad1117) t1113.length co49) t1113) := ⟨h1_⟩
                            have n2_ : Aside0 (w53.heap[gb1104]? = some (.cells #[.int .i64 t1098, .int .i64 t1099, .slice Ao14 t1100.length co14] 39 (0, 0))) := ⟨h2_⟩
                            have n3_ : Aside0 (w53.heap[gb1108]? = some (.cells #[.int .i64 t1105, .int .i64 t1106] 70 (0, 0))) := ⟨h3_⟩
                            have n4_ : Aside0 (w53.heap[gb1121]? = some (.cells #[.int .i64 0, .int .i64 0] 70 (0, 0))) := ⟨h4_⟩
                            have n5_ : Aside0 (w.heap.size ≤ gb1121) := ⟨h5_⟩
                            have n6_ : Aside0 (w.heap.size ≤ gb1121) := ⟨h6_⟩
                            have n7_ : Aside0 (gb1104 ≠ gb1121) := ⟨h7_⟩
                            have n8_ : Aside0 (gb1121 ≠ gb1104) := ⟨h8_⟩
                            have n9_ : Aside0 (gb1108 ≠ gb1121) := ⟨h9_⟩
                            have n10_ : Aside0 (gb1121 ≠ gb1108) := ⟨h10_⟩
                            have n11_ : Aside0 (Below w.heap.size w w53) := ⟨h11_⟩
                            clear HO_7
                            clear HO_1105002
                            clear BK1104
                            clear BK1108
                            clear HB
                            clear h0_ h1_ h2_ h3_ h4_ h5_ h6_ h7_ h8_ h9_ h10_ h11_
                            have HO_1105002 := n0_
                            have HO_7 := n1_
                            have BK1104 := n2_
                            have BK1108 := n3_
                            have BK1121 := n4_
                            have GW1121 := n5_
                            have GE1121 := n6_
                            have NB1104_1121 := n7_
                            have NB1121_1104 := n8_
                            have NB1108_1121 := n9_
                            have NB1121_1108 := n10_
                            have HB := n11_
                            clear n0_ n1_ n2_ n3_ n4_ n5_ n6_ n7_ n8_ n9_ n10_ n11_
                            have hHeld : w53.cell? ⟨gb1104, 0, none⟩ = some (.int .i64 t1098) ∧ w53.cell? ⟨gb1104, 1, none⟩ = some (.int .i64 t1099) ∧ w53.cell? ⟨gb1104, 2, none⟩ = some (.slice Ao14 t1100.length co14) ∧ w53.cell? (ad1117.add (x10_1).toNat) = some (.int .i64 (rd t1113 x10_1)) := hS_
                            refine norm_ (a' := ?_) ?_ ?_
                            rotate_left
                            · simp only [putAll, Act.put, List.setIfInBounds_toArray, List.set_cons_zero, List.set_cons_succ]
                              rfl
                            refine one_ (i := 10) (N := none) #[true, true, true, true, true, true, true, true, true, true, true, false] rfl rfl (one_of HT_.out (by kernel_rfl)) (by decide) (fun K hK => ?_)
                            have hs54 : w53.cell? ⟨gb1121, 0, none⟩ = some (.int .i64 0) := (blk_cell BK1121.out 0).trans rfl
                            have hfs54 := blk_frozen BK1121.out 0
                            have hns54_0 := NB1104_1121.out
                            have hns54_1 := NB1108_1121.out
                            have hms54_0 := NB1121_1104.out
                            have hms54_1 := NB1121_1108.out
                            have hs55 : w53.cell? ⟨gb1121, 1, none⟩ = some (.int .i64 0) := (blk_cell BK1121.out 1).trans rfl
                            have hfs55 := blk_frozen BK1121.out 1
                            have hns55_0 := NB1104_1121.out
                            have hns55_1 := NB1108_1121.out
                            have hms55_0 := NB1121_1104.out
                            have hms55_1 := NB1121_1108.out
                            refine skip_ (w1 := ?_) (by rfl) rfl ?_ ?_
                            rotate_left
                            · go_simp
                              rfl
                            refine hK.out _ _ ⟨((cell_far (p := ⟨gb1121, _, none⟩) NB1104_1121.out _).trans (((cell_far (p := ⟨gb1121, _, none⟩) NB1104_1121.out _).trans (hHeld.1)))), ((cell_far (p := ⟨gb1121, _, none⟩) NB1104_1121.out _).trans (((cell_far (p := ⟨gb1121, _, none⟩) NB1104_1121.out _).trans (hHeld.2.1)))), ((cell_far (p := ⟨gb1121, _, none⟩) NB1104_1121.out _).trans (((cell_far (p := ⟨gb1121, _, none⟩) NB1104_1121.out _).trans (hHeld.2.2.1)))), ((cell_far (p := ⟨gb1121, _, none⟩) (by first | exact Kd.own_blk (Kd.R_ne HO_7.out BK1121.out (by decide)) | (rw [add_block]; exact Kd.own_blk (Kd.R_ne HO_7.out BK1121.out (by decide))) | (show (Addr.add _ _).block ≠ _; rw [add_block]; exact Kd.own_blk (Kd.R_ne HO_7.out BK1121.out (by decide))) | (dsimp only; exact Kd.own_blk (Kd.R_ne HO_7.out BK1121.out (by decide)))) _).trans (((cell_far (p := ⟨gb1121, _, none⟩) (by first | exact Kd.own_blk (Kd.R_ne HO_7.out BK1121.out (by decide)) | (rw [add_block]; exact Kd.own_blk (Kd.R_ne HO_7.out BK1121.out (by decide))) | (show (Addr.add _ _).block ≠ _; rw [add_block]; exact Kd.own_blk (Kd.R_ne HO_7.out BK1121.out (by decide))) | (dsimp only; exact Kd.own_blk (Kd.R_ne HO_7.out BK1121.out (by decide)))) _).trans (hHeld.2.2.2))))⟩ (fun hHeld => ?_)
                            clear hK K
                            refine pure_ (i := 11) (N := some 12) (v := ?_) (a' := ?_) #[true, true, true, true, true, true, true, true, true, true, true, true] rfl rfl (any_of HT_.out (by kernel_rfl)) (fun _ _ _ h => h) (Or.inl ⟨by rfl, ?_⟩) ?_ ?_
                            rotate_left
                            · intro w'
                              go_simp
                              with_reducible rfl
                            rotate_left
                            · simp only [Act.put, List.setIfInBounds_toArray, List.set_cons_zero, List.set_cons_succ, i64_w, i32_w]
                              rfl
                            refine done_ (done_of HT_.out (by kernel_rfl)) ?_
                            try go_wp2
                            have n0_ : Aside0 (Kd.R (Kd.int .i64) 3 ((w53.setCell ⟨gb1121, 0, none⟩ (.int .i64 t1118)).setCell ⟨gb1121, 1, none⟩ (.int .i64 t1119)) w.heap.size (fun _ => True) (.slice (some ad1117) t1113.length co49) t1113) := ⟨by (with_reducible repeat (first | apply Kd.R_alloc | apply Kd.R_drewN | apply Kd.R_drew)); exact Kd.R_mono (Kd.R_far (p := ⟨gb1121, 1, none⟩) (Kd.R_far (p := ⟨gb1121, 0, none⟩) (Kd.R_types HO_7.out BK1121.out (by decide)) (fun _ hk => hk.2) (.int .i64 t1118)) (fun _ hk => hk.2) (.int .i64 t1119)) (fun _ hk => trivial)⟩
                            have n1_ : Aside0 (Kd.R k79 79 ((w53.setCell ⟨gb1121, 0, none⟩ (.int .i64 t1118)).setCell ⟨gb1121, 1, none⟩ (.int .i64 t1119)) w.heap.size (fun _ => True) (.slice Ao14 t1100.length co14) t1100) := ⟨by (with_reducible repeat (first | apply Kd.R_alloc | apply Kd.R_drewN | apply Kd.R_drew)); exact Kd.R_mono (Kd.R_far (p := ⟨gb1121, 1, none⟩) (Kd.R_far (p := ⟨gb1121, 0, none⟩) (Kd.R_types HO_1105002.out BK1121.out (by decide)) (fun _ hk => hk.2) (.int .i64 t1118)) (fun _ hk => hk.2) (.int .i64 t1119)) (fun _ hk => trivial)⟩
                            have n2_ : Aside0 (((w53.setCell ⟨gb1121, 0, none⟩ (.int .i64 t1118)).setCell ⟨gb1121, 1, none⟩ (.int .i64 t1119)).heap[gb1104]? = some (.cells #[.int .i64 t1098, .int .i64 t1099, .slice Ao14 t1100.length co14] 39 (0, 0))) := ⟨by (with_reducible repeat (first | refine blk_drewN ?_ _ | refine blk_drew ?_ | refine blk_alloc ?_ _)); refine blk_far ?_ NB1104_1121.out _; (with_reducible repeat (first | refine blk_drewN ?_ _ | refine blk_drew ?_ | refine blk_alloc ?_ _)); refine blk_far ?_ NB1104_1121.out _; (with_reducible repeat (first | refine blk_drewN ?_ _ | refine blk_drew ?_ | refine blk_alloc ?_ _)); exact BK1104.out⟩
                            have n3_ : Aside0 (((w53.setCell ⟨gb1121, 0, none⟩ (.int .i64 t1118)).setCell ⟨gb1121, 1, none⟩ (.int .i64 t1119)).heap[gb1108]? = some (.cells #[.int .i64 t1105, .int .i64 t1106] 70 (0, 0))) := ⟨by (with_reducible repeat (first | refine blk_drewN ?_ _ | refine blk_drew ?_ | refine blk_alloc ?_ _)); refine blk_far ?_ NB1108_1121.out _; (with_reducible repeat (first | refine blk_drewN ?_ _ | refine blk_drew ?_ | refine blk_alloc ?_ _)); refine blk_far ?_ NB1108_1121.out _; (with_reducible repeat (first | refine blk_drewN ?_ _ | refine blk_drew ?_ | refine blk_alloc ?_ _)); exact BK1108.out⟩
                            have n4_ : Aside0 (((w53.setCell ⟨gb1121, 0, none⟩ (.int .i64 t1118)).setCell ⟨gb1121, 1, none⟩ (.int .i64 t1119)).heap[gb1121]? = some (.cells #[.int .i64 t1118, .int .i64 t1119] 70 (0, 0))) := ⟨by (with_reducible repeat (first | refine blk_drewN ?_ _ | refine blk_drew ?_ | refine blk_alloc ?_ _)); refine blk_put (cs := #[.int .i64 t1118, .int .i64 0]) ?_ 1 _ rfl; (with_reducible repeat (first | refine blk_drewN ?_ _ | refine blk_drew ?_ | refine blk_alloc ?_ _)); refine blk_put (cs := #[.int .i64 0, .int .i64 0]) ?_ 0 _ rfl; (with_reducible repeat (first | refine blk_drewN ?_ _ | refine blk_drew ?_ | refine blk_alloc ?_ _)); exact BK1121.out⟩
                            have n5_ : Aside0 (Below w.heap.size w ((w53.setCell ⟨gb1121, 0, none⟩ (.int .i64 t1118)).setCell ⟨gb1121, 1, none⟩ (.int .i64 t1119))) := ⟨hb3_ HB.out GE1104.out GE1108.out GE1121.out⟩
                            (try clear HO_7)
                            (try clear HO_1105002)
                            (try clear BK1104)
                            (try clear BK1108)
                            (try clear BK1121)
                            (try clear HB)
                            generalize ((w53.setCell ⟨gb1121, 0, none⟩ (.int .i64 t1118)).setCell ⟨gb1121, 1, none⟩ (.int .i64 t1119)) = w56 at n0_ n1_ n2_ n3_ n4_ n5_ ⊢
                            have HO_7 := n0_
                            have HO_1105002 := n1_
                            have BK1104 := n2_
                            have BK1108 := n3_
                            have BK1121 := n4_
                            have HB := n5_
                            clear n0_ n1_ n2_ n3_ n4_ n5_
                            have n0_ := Aside0.mk (Kd.R_drew HO_7.out)
                            have n1_ := Aside0.mk (Kd.R_drew HO_1105002.out)
                            have n2_ := Aside0.mk (blk_drew BK1104.out)
                            have n3_ := Aside0.mk (blk_drew BK1108.out)
                            have n4_ := Aside0.mk (blk_drew BK1121.out)
                            have n5_ := Aside0.mk (below_drew1 HB.out)
                            clear HO_7
                            clear HO_1105002
                            clear BK1104
                            clear BK1108
                            clear BK1121
                            clear HB
                            have HO_7 := n0_
                            have HO_1105002 := n1_
                            have BK1104 := n2_
                            have BK1108 := n3_
                            have BK1121 := n4_
                            have HB := n5_
                            clear n0_ n1_ n2_ n3_ n4_ n5_
                            refine start_ (n := 35) (S := fun w' => w'.cell? ⟨gb1121, 0, none⟩ = some (.int .i64 t1118) ∧ w'.cell? ⟨gb1121, 1, none⟩ = some (.int .i64 t1119)) (ds := []) #[false, false, false, false, false, false, false, false, false, false, false, false, false, false, false, false, false, false, false, false, false, false, false, false, false, false, false, false, false, false, false, false, false, false, false] (by kernel_rfl) rfl rfl ⟨(blk_cell BK1121.out 0).trans rfl, (blk_cell BK1121.out 1).trans rfl⟩ (fun hHeld => ?_); refine with_tabW laws_FnShares.tab16 laws_FnShares.bits16 (fun HT_ HW_ => ?_)
                            generalize w56.drew = w57 at HO_7 HO_1105002 BK1104 BK1108 BK1121 HB hHeld ⊢
                            refine pure_ (i := 0) (N := some 61) (v := ?_) (a' := ?_) #[true, false, false, false, false, false, false, false, false, false, false, false, false, false, false, false, false, false, false, false, false, false, false, false, false, false, false, false, false, false, false, false, false, false, false] rfl rfl (any_of HT_.out (by kernel_rfl)) (fun _ _ _ h => h) (Or.inl ⟨by rfl, ?_⟩) ?_ ?_
                            rotate_left
                            · intro w'
                              go_simp
                              with_reducible rfl
                            rotate_left
                            · simp only [Act.put, List.setIfInBounds_toArray, List.set_cons_zero, List.set_cons_succ, i64_w, i32_w]
                              rfl
                            refine pure_ (i := 1) (N := some 62) (v := ?_) (a' := ?_) #[true, true, false, false, false, false, false, false, false, false, false, false, false, false, false, false, false, false, false, false, false, false, false, false, false, false, false, false, false, false, false, false, false, false, false] rfl rfl (any_of HT_.out (by kernel_rfl)) (fun _ _ _ h => h) (Or.inl ⟨by rfl, ?_⟩) ?_ ?_
                            rotate_left
                            · intro w'
                              go_simp
                              with_reducible rfl
                            rotate_left
                            · simp only [Act.put, List.setIfInBounds_toArray, List.set_cons_zero, List.set_cons_succ, i64_w, i32_w]
                              rfl
                            refine pure_ (i := 2) (N := some 63) (v := ?_) (a' := ?_) #[true, true, true, false, false, false, false, false, false, false, false, false, false, false, false, false, false, false, false, false, false, false, false, false, false, false, false, false, false, false, false, false, false, false, false] rfl rfl (any_of HT_.out (by kernel_rfl)) (fun _ _ _ h => h) (Or.inl ⟨by rfl, ?_⟩) ?_ ?_
                            rotate_left
                            · intro w'
                              go_simp
                              with_reducible rfl
                            rotate_left
                            · simp only [Act.put, List.setIfInBounds_toArray, List.set_cons_zero, List.set_cons_succ, i64_w, i32_w]
                              rfl
                            refine pure_ (i := 3) (N := some 64) (v := ?_) (a' := ?_) #[true, true, true, true, false, false, false, false, false, false, false, false, false, false, false, false, false, false, false, false, false, false, false, false, false, false, false, false, false, false, false, false, false, false, false] rfl rfl (any_of HT_.out (by kernel_rfl)) (fun _ _ _ h => h) (Or.inl ⟨by rfl, ?_⟩) ?_ ?_
                            rotate_left
                            · intro w'
                              go_simp
                              with_reducible rfl
                            rotate_left
                            · simp only [Act.put, List.setIfInBounds_toArray, List.set_cons_zero, List.set_cons_succ, i64_w, i32_w]
                              rfl
                            refine take_ (i := 4) (N := some 65) (v := ?_) (a' := ?_) #[true, true, true, true, true, false, false, false, false, false, false, false, false, false, false, false, false, false, false, false, false, false, false, false, false, false, false, false, false, false, false, false, false, false, false] rfl rfl (take_ofW HT_.out HW_.out (by kernel_rfl)) (fun _ _ _ h => h) (Or.inl ⟨by rfl, ?_⟩) hHeld ?_ ?_
                            rotate_left
                            · rintro w' ⟨s0, s1⟩
                              go_simp
                              with_reducible rfl
                            rotate_left
                            · simp only [Act.put, List.setIfInBounds_toArray, List.set_cons_zero, List.set_cons_succ, i64_w, i32_w]
                              rfl
                            refine pure_ (i := 5) (N := some 66) (v := ?_) (a' := ?_) #[true, true, true, true, true, true, false, false, false, false, false, false, false, false, false, false, false, false, false, false, false, false, false, false, false, false, false, false, false, false, false, false, false, false, false] rfl rfl (any_of HT_.out (by kernel_rfl)) (fun _ _ _ h => h) (Or.inl ⟨by rfl, ?_⟩) ?_ ?_
                            rotate_left
                            · intro w'
                              go_simp
                              with_reducible rfl
                            rotate_left
                            · simp only [Act.put, List.setIfInBounds_toArray, List.set_cons_zero, List.set_cons_succ, i64_w, i32_w]
                              rfl
                            refine pure_ (i := 6) (N := some 67) (v := ?_) (a' := ?_) #[true, true, true, true, true, true, true, false, false, false, false, false, false, false, false, false, false, false, false, false, false, false, false, false, false, false, false, false, false, false, false, false, false, false, false] rfl rfl (any_of HT_.out (by kernel_rfl)) (fun _ _ _ h => h) (Or.inl ⟨by rfl, ?_⟩) ?_ ?_
                            rotate_left
                            · intro w'
                              go_simp
                              with_reducible rfl
                            rotate_left
                            · simp only [Act.put, List.setIfInBounds_toArray, List.set_cons_zero, List.set_cons_succ, i64_w, i32_w]
                              rfl
                            refine pure_ (i := 7) (N := some 68) (v := ?_) (a' := ?_) #[true, true, true, true, true, true, true, true, false, false, false, false, false, false, false, false, false, false, false, false, false, false, false, false, false, false, false, false, false, false, false, false, false, false, false] rfl rfl (any_of HT_.out (by kernel_rfl)) (fun _ _ _ h => h) (Or.inl ⟨by rfl, ?_⟩) ?_ ?_
                            rotate_left
                            · intro w'
                              go_simp
                              with_reducible rfl
                            rotate_left
                            · simp only [Act.put, List.setIfInBounds_toArray, List.set_cons_zero, List.set_cons_succ, i64_w, i32_w]
                              rfl
                            refine pure_ (i := 8) (N := some 69) (v := ?_) (a' := ?_) #[true, true, true, true, true, true, true, true, true, false, false, false, false, false, false, false, false, false, false, false, false, false, false, false, false, false, false, false, false, false, false, false, false, false, false] rfl rfl (any_of HT_.out (by kernel_rfl)) (fun _ _ _ h => h) (Or.inl ⟨by rfl, ?_⟩) ?_ ?_
                            rotate_left
                            · intro w'
                              go_simp
                              with_reducible rfl
                            rotate_left
                            · simp only [Act.put, List.setIfInBounds_toArray, List.set_cons_zero, List.set_cons_succ, i64_w, i32_w]
                              rfl
                            refine pure_ (i := 9) (N := some 70) (v := ?_) (a' := ?_) #[true, true, true, true, true, true, true, true, true, true, false, false, false, false, false, false, false, false, false, false, false, false, false, false, false, false, false, false, false, false, false, false, false, false, false] rfl rfl (any_of HT_.out (by kernel_rfl)) (fun _ _ _ h => h) (Or.inl ⟨by rfl, ?_⟩) ?_ ?_
                            rotate_left
                            · intro w'
                              go_simp
                              with_reducible rfl
                            rotate_left
                            · simp only [Act.put, List.setIfInBounds_toArray, List.set_cons_zero, List.set_cons_succ, i64_w, i32_w]
                              rfl
                            refine take_ (i := 10) (N := some 71) (v := ?_) (a' := ?_) #[true, true, true, true, true, true, true, true, true, true, true, false, false, false, false, false, false, false, false, false, false, false, false, false, false, false, false, false, false, false, false, false, false, false, false] rfl rfl (take_ofW HT_.out HW_.out (by kernel_rfl)) (fun _ _ _ h => h) (Or.inl ⟨by rfl, ?_⟩) hHeld ?_ ?_
                            rotate_left
                            · rintro w' ⟨s0, s1⟩
                              go_simp
                              with_reducible rfl
                            rotate_left
                            · simp only [Act.put, List.setIfInBounds_toArray, List.set_cons_zero, List.set_cons_succ, i64_w, i32_w]
                              rfl
                            refine pure_ (i := 11) (N := some 72) (v := ?_) (a' := ?_) #[true, true, true, true, true, true, true, true, true, true, true, true, false, false, false, false, false, false, false, false, false, false, false, false, false, false, false, false, false, false, false, false, false, false, false] rfl rfl (any_of HT_.out (by kernel_rfl)) (fun _ _ _ h => h) (Or.inl ⟨by rfl, ?_⟩) ?_ ?_
                            rotate_left
                            · intro w'
                              go_simp
                              with_reducible rfl
                            rotate_left
                            · simp only [Act.put, List.setIfInBounds_toArray, List.set_cons_zero, List.set_cons_succ, i64_w, i32_w]
                              rfl
                            refine pure_ (i := 12) (N := some 73) (v := ?_) (a' := ?_) #[true, true, true, true, true, true, true, true, true, true, true, true, true, false, false, false, false, false, false, false, false, false, false, false, false, false, false, false, false, false, false, false, false, false, false] rfl rfl (any_of HT_.out (by kernel_rfl)) (fun _ _ _ h => h) (Or.inl ⟨by rfl, ?_⟩) ?_ ?_
                            rotate_left
                            · intro w'
                              go_simp
                              with_reducible rfl
                            rotate_left
                            · simp only [Act.put, List.setIfInBounds_toArray, List.set_cons_zero, List.set_cons_succ, i64_w, i32_w]
                              rfl
                            refine pure_ (i := 13) (N := some 74) (v := ?_) (a' := ?_) #[true, true, true, true, true, true, true, true, true, true, true, true, true, true, false, false, false, false, false, false, false, false, false, false, false, false, false, false, false, false, false, false, false, false, false] rfl rfl (any_of HT_.out (by kernel_rfl)) (fun _ _ _ h => h) (Or.inl ⟨by rfl, ?_⟩) ?_ ?_
                            rotate_left
                            · intro w'
                              go_simp
                              with_reducible rfl
                            rotate_left
                            · simp only [Act.put, List.setIfInBounds_toArray, List.set_cons_zero, List.set_cons_succ, i64_w, i32_w]
                              rfl
                            refine pure_ (i := 14) (N := some 75) (v := ?_) (a' := ?_) #[true, true, true, true, true, true, true, true, true, true, true, true, true, true, true, false, false, false, false, false, false, false, false, false, false, false, false, false, false, false, false, false, false, false, false] rfl rfl (any_of HT_.out (by kernel_rfl)) (fun _ _ _ h => h) (Or.inl ⟨by rfl, ?_⟩) ?_ ?_
                            rotate_left
                            · intro w'
                              go_simp
                              with_reducible rfl
                            rotate_left
                            · simp only [Act.put, List.setIfInBounds_toArray, List.set_cons_zero, List.set_cons_succ, i64_w, i32_w]
                              rfl
                            refine pure_ (i := 15) (N := some 76) (v := ?_) (a' := ?_) #[true, true, true, true, true, true, true, true, true, true, true, true, true, true, true, true, false, false, false, false, false, false, false, false, false, false, false, false, false, false, false, false, false, false, false] rfl rfl (any_of HT_.out (by kernel_rfl)) (fun _ _ _ h => h) (Or.inl ⟨by rfl, ?_⟩) ?_ ?_
                            rotate_left
                            · intro w'
                              go_simp
                              with_reducible rfl
                            rotate_left
                            · simp only [Act.put, List.setIfInBounds_toArray, List.set_cons_zero, List.set_cons_succ, i64_w, i32_w]
                              rfl
                            refine take_ (i := 16) (N := some 77) (v := ?_) (a' := ?_) #[true, true, true, true, true, true, true, true, true, true, true, true, true, true, true, true, true, false, false, false, false, false, false, false, false, false, false, false, false, false, false, false, false, false, false] rfl rfl (take_ofW HT_.out HW_.out (by kernel_rfl)) (fun _ _ _ h => h) (Or.inl ⟨by rfl, ?_⟩) hHeld ?_ ?_
                            rotate_left
                            · rintro w' ⟨s0, s1⟩
                              go_simp
                              with_reducible rfl
                            rotate_left
                            · simp only [Act.put, List.setIfInBounds_toArray, List.set_cons_zero, List.set_cons_succ, i64_w, i32_w]
                              rfl
                            refine pure_ (i := 17) (N := some 78) (v := ?_) (a' := ?_) #[true, true, true, true, true, true, true, true, true, true, true, true, true, true, true, true, true, true, false, false, false, false, false, false, false, false, false, false, false, false, false, false, false, false, false] rfl rfl (any_of HT_.out (by kernel_rfl)) (fun _ _ _ h => h) (Or.inl ⟨by rfl, ?_⟩) ?_ ?_
                            rotate_left
                            · intro w'
                              go_simp
                              with_reducible rfl
                            rotate_left
                            · simp only [Act.put, List.setIfInBounds_toArray, List.set_cons_zero, List.set_cons_succ, i64_w, i32_w]
                              rfl
                            refine pure_ (i := 18) (N := some 79) (v := ?_) (a' := ?_) #[true, true, true, true, true, true, true, true, true, true, true, true, true, true, true, true, true, true, true, false, false, false, false, false, false, false, false, false, false, false, false, false, false, false, false] rfl rfl (any_of HT_.out (by kernel_rfl)) (fun _ _ _ h => h) (Or.inl ⟨by rfl, ?_⟩) ?_ ?_
                            rotate_left
                            · intro w'
                              go_simp
                              with_reducible rfl
                            rotate_left
                            · simp only [Act.put, List.setIfInBounds_toArray, List.set_cons_zero, List.set_cons_succ, i64_w, i32_w]
                              rfl
                            refine pure_ (i := 19) (N := some 80) (v := ?_) (a' := ?_) #[true, true, true, true, true, true, true, true, true, true, true, true, true, true, true, true, true, true, true, true, false, false, false, false, false, false, false, false, false, false, false, false, false, false, false] rfl rfl (any_of HT_.out (by kernel_rfl)) (fun _ _ _ h => h) (Or.inl ⟨by rfl, ?_⟩) ?_ ?_
                            rotate_left
                            · intro w'
                              go_simp
                              with_reducible rfl
                            rotate_left
                            · simp only [Act.put, List.setIfInBounds_toArray, List.set_cons_zero, List.set_cons_succ, i64_w, i32_w]
                              rfl
                            refine pure_ (i := 20) (N := some 81) (v := ?_) (a' := ?_) #[true, true, true, true, true, true, true, true, true, true, true, true, true, true, true, true, true, true, true, true, true, false, false, false, false, false, false, false, false, false, false, false, false, false, false] rfl rfl (any_of HT_.out (by kernel_rfl)) (fun _ _ _ h => h) (Or.inl ⟨by rfl, ?_⟩) ?_ ?_
                            rotate_left
                            · intro w'
                              go_simp
                              with_reducible rfl
                            rotate_left
                            · simp only [Act.put, List.setIfInBounds_toArray, List.set_cons_zero, List.set_cons_succ, i64_w, i32_w]
                              rfl
                            refine pure_ (i := 21) (N := some 82) (v := ?_) (a' := ?_) #[true, true, true, true, true, true, true, true, true, true, true, true, true, true, true, true, true, true, true, true, true, true, false, false, false, false, false, false, false, false, false, false, false, false, false] rfl rfl (any_of HT_.out (by kernel_rfl)) (fun _ _ _ h => h) (Or.inl ⟨by rfl, ?_⟩) ?_ ?_
                            rotate_left
                            · intro w'
                              go_simp
                              with_reducible rfl
                            rotate_left
                            · simp only [Act.put, List.setIfInBounds_toArray, List.set_cons_zero, List.set_cons_succ, i64_w, i32_w]
                              rfl
                            refine pure_ (i := 22) (N := some 83) (v := ?_) (a' := ?_) #[true, true, true, true, true, true, true, true, true, true, true, true, true, true, true, true, true, true, true, true, true, true, true, false, false, false, false, false, false, false, false, false, false, false, false] rfl rfl (any_of HT_.out (by kernel_rfl)) (fun _ _ _ h => h) (Or.inl ⟨by rfl, ?_⟩) ?_ ?_
                            rotate_left
                            · intro w'
                              go_simp
                              with_reducible rfl
                            rotate_left
                            · simp only [Act.put, List.setIfInBounds_toArray, List.set_cons_zero, List.set_cons_succ, i64_w, i32_w]
                              rfl
                            refine pure_ (i := 23) (N := some 84) (v := undef) (a' := ?_) #[true, true, true, true, true, true, true, true, true, true, true, true, true, true, true, true, true, true, true, true, true, true, true, true, false, false, false, false, false, false, false, false, false, false, false] rfl rfl (any_of HT_.out (by kernel_rfl)) (fun _ _ _ h => h) (Or.inr ⟨by rfl, rfl⟩) ?_ ?_
                            rotate_left
                            · simp only [Act.put, List.setIfInBounds_toArray, List.set_cons_zero, List.set_cons_succ, i64_w, i32_w]
                              rfl
                            refine pure_ (i := 24) (N := some 85) (v := undef) (a' := ?_) #[true, true, true, true, true, true, true, true, true, true, true, true, true, true, true, true, true, true, true, true, true, true, true, true, true, false, false, false, false, false, false, false, false, false, false] rfl rfl (any_of HT_.out (by kernel_rfl)) (fun _ _ _ h => h) (Or.inr ⟨by rfl, rfl⟩) ?_ ?_
                            rotate_left
                            · simp only [Act.put, List.setIfInBounds_toArray, List.set_cons_zero, List.set_cons_succ, i64_w, i32_w]
                              rfl
                            refine pure_ (i := 25) (N := some 86) (v := undef) (a' := ?_) #[true, true, true, true, true, true, true, true, true, true, true, true, true, true, true, true, true, true, true, true, true, true, true, true, true, true, false, false, false, false, false, false, false, false, false] rfl rfl (any_of HT_.out (by kernel_rfl)) (fun _ _ _ h => h) (Or.inr ⟨by rfl, rfl⟩) ?_ ?_
                            rotate_left
                            · simp only [Act.put, List.setIfInBounds_toArray, List.set_cons_zero, List.set_cons_succ, i64_w, i32_w]
                              rfl
                            refine pure_ (i := 26) (N := some 87) (v := undef) (a' := ?_) #[true, true, true, true, true, true, true, true, true, true, true, true, true, true, true, true, true, true, true, true, true, true, true, true, true, true, true, false, false, false, false, false, false, false, false] rfl rfl (any_of HT_.out (by kernel_rfl)) (fun _ _ _ h => h) (Or.inr ⟨by rfl, rfl⟩) ?_ ?_
                            rotate_left
                            · simp only [Act.put, List.setIfInBounds_toArray, List.set_cons_zero, List.set_cons_succ, i64_w, i32_w]
                              rfl
                            refine pure_ (i := 27) (N := some 88) (v := undef) (a' := ?_) #[true, true, true, true, true, true, true, true, true, true, true, true, true, true, true, true, true, true, true, true, true, true, true, true, true, true, true, true, false, false, false, false, false, false, false] rfl rfl (any_of HT_.out (by kernel_rfl)) (fun _ _ _ h => h) (Or.inr ⟨by rfl, rfl⟩) ?_ ?_
                            rotate_left
                            · simp only [Act.put, List.setIfInBounds_toArray, List.set_cons_zero, List.set_cons_succ, i64_w, i32_w]
                              rfl
                            refine pure_ (i := 28) (N := some 89) (v := undef) (a' := ?_) #[true, true, true, true, true, true, true, true, true, true, true, true, true, true, true, true, true, true, true, true, true, true, true, true, true, true, true, true, true, false, false, false, false, false, false] rfl rfl (any_of HT_.out (by kernel_rfl)) (fun _ _ _ h => h) (Or.inr ⟨by rfl, rfl⟩) ?_ ?_
                            rotate_left
                            · simp only [Act.put, List.setIfInBounds_toArray, List.set_cons_zero, List.set_cons_succ, i64_w, i32_w]
                              rfl
                            refine pure_ (i := 29) (N := some 90) (v := undef) (a' := ?_) #[true, true, true, true, true, true, true, true, true, true, true, true, true, true, true, true, true, true, true, true, true, true, true, true, true, true, true, true, true, true, false, false, false, false, false] rfl rfl (any_of HT_.out (by kernel_rfl)) (fun _ _ _ h => h) (Or.inr ⟨by rfl, rfl⟩) ?_ ?_
                            rotate_left
                            · simp only [Act.put, List.setIfInBounds_toArray, List.set_cons_zero, List.set_cons_succ, i64_w, i32_w]
                              rfl
                            refine pure_ (i := 30) (N := some 91) (v := undef) (a' := ?_) #[true, true, true, true, true, true, true, true, true, true, true, true, true, true, true, true, true, true, true, true, true, true, true, true, true, true, true, true, true, true, true, false, false, false, false] rfl rfl (any_of HT_.out (by kernel_rfl)) (fun _ _ _ h => h) (Or.inr ⟨by rfl, rfl⟩) ?_ ?_
                            rotate_left
                            · simp only [Act.put, List.setIfInBounds_toArray, List.set_cons_zero, List.set_cons_succ, i64_w, i32_w]
                              rfl
                            refine pure_ (i := 31) (N := some 92) (v := undef) (a' := ?_) #[true, true, true, true, true, true, true, true, true, true, true, true, true, true, true, true, true, true, true, true, true, true, true, true, true, true, true, true, true, true, true, true, false, false, false] rfl rfl (any_of HT_.out (by kernel_rfl)) (fun _ _ _ h => h) (Or.inr ⟨by rfl, rfl⟩) ?_ ?_
                            rotate_left
                            · simp only [Act.put, List.setIfInBounds_toArray, List.set_cons_zero, List.set_cons_succ, i64_w, i32_w]
                              rfl
                            refine pure_ (i := 32) (N := some 93) (v := undef) (a' := ?_) #[true, true, true, true, true, true, true, true, true, true, true, true, true, true, true, true, true, true, true, true, true, true, true, true, true, true, true, true, true, true, true, true, true, false, false] rfl rfl (any_of HT_.out (by kernel_rfl)) (fun _ _ _ h => h) (Or.inr ⟨by rfl, rfl⟩) ?_ ?_
                            rotate_left
                            · simp only [Act.put, List.setIfInBounds_toArray, List.set_cons_zero, List.set_cons_succ, i64_w, i32_w]
                              rfl
                            refine pure_ (i := 33) (N := some 94) (v := ?_) (a' := ?_) #[true, true, true, true, true, true, true, true, true, true, true, true, true, true, true, true, true, true, true, true, true, true, true, true, true, true, true, true, true, true, true, true, true, true, false] rfl rfl (any_of HT_.out (by kernel_rfl)) (fun _ _ _ h => h) (Or.inl ⟨by rfl, ?_⟩) ?_ ?_
                            rotate_left
                            · intro w'
                              go_simp
                              with_reducible rfl
                            rotate_left
                            · simp only [Act.put, List.setIfInBounds_toArray, List.set_cons_zero, List.set_cons_succ, i64_w, i32_w]
                              rfl
                            refine pure_ (i := 34) (N := some 95) (v := ?_) (a' := ?_) #[true, true, true, true, true, true, true, true, true, true, true, true, true, true, true, true, true, true, true, true, true, true, true, true, true, true, true, true, true, true, true, true, true, true, true] rfl rfl (any_of HT_.out (by kernel_rfl)) (fun _ _ _ h => h) (Or.inl ⟨by rfl, ?_⟩) ?_ ?_
                            rotate_left
                            · intro w'
                              go_simp
                              with_reducible rfl
                            rotate_left
                            · simp only [Act.put, List.setIfInBounds_toArray, List.set_cons_zero, List.set_cons_succ, i64_w, i32_w]
                              rfl
                            refine done_ (done_of HT_.out (by kernel_rfl)) ?_
                            try go_wp2
                            have n0_ := Aside0.mk (Kd.R_drew HO_7.out)
                            have n1_ := Aside0.mk (Kd.R_drew HO_1105002.out)
                            have n2_ := Aside0.mk (blk_drew BK1104.out)
                            have n3_ := Aside0.mk (blk_drew BK1108.out)
                            have n4_ := Aside0.mk (blk_drew BK1121.out)
                            have n5_ := Aside0.mk (below_drew1 HB.out)
                            clear HO_7
                            clear HO_1105002
                            clear BK1104
                            clear BK1108
                            clear BK1121
                            clear HB
                            have HO_7 := n0_
                            have HO_1105002 := n1_
                            have BK1104 := n2_
                            have BK1108 := n3_
                            have BK1121 := n4_
                            have HB := n5_
                            clear n0_ n1_ n2_ n3_ n4_ n5_
                            refine start_ (n := 10) (S := fun w' => w'.cell? ⟨gb1121, 0, none⟩ = some (.int .i64 t1118) ∧ w'.cell? ⟨gb1121, 1, none⟩ = some (.int .i64 t1119)) (ds := []) #[false, false, false, false, false, false, false, false, false, false] (by kernel_rfl) rfl rfl ⟨(blk_cell BK1121.out 0).trans rfl, (blk_cell BK1121.out 1).trans rfl⟩ (fun hHeld => ?_); refine with_tabW laws_FnShares.tab18 laws_FnShares.bits18 (fun HT_ HW_ => ?_)
                            generalize w57.drew = w58 at HO_7 HO_1105002 BK1104 BK1108 BK1121 HB hHeld ⊢
                            refine pure_ (i := 0) (N := some 96) (v := ?_) (a' := ?_) #[true, false, false, false, false, false, false, false, false, false] rfl rfl (any_of HT_.out (by kernel_rfl)) (fun _ _ _ h => h) (Or.inl ⟨by rfl, ?_⟩) ?_ ?_
                            rotate_left
                            · intro w'
                              go_simp
                              with_reducible rfl
                            rotate_left
                            · simp only [Act.put, List.setIfInBounds_toArray, List.set_cons_zero, List.set_cons_succ, i64_w, i32_w]
                              rfl
                            refine pure_ (i := 1) (N := some 97) (v := ?_) (a' := ?_) #[true, true, false, false, false, false, false, false, false, false] rfl rfl (any_of HT_.out (by kernel_rfl)) (fun _ _ _ h => h) (Or.inl ⟨by rfl, ?_⟩) ?_ ?_
                            rotate_left
                            · intro w'
                              go_simp
                              with_reducible rfl
                            rotate_left
                            · simp only [Act.put, List.setIfInBounds_toArray, List.set_cons_zero, List.set_cons_succ, i64_w, i32_w]
                              rfl
                            refine pure_ (i := 3) (N := some 99) (v := ?_) (a' := ?_) #[true, true, false, true, false, false, false, false, false, false] rfl rfl (any_of HT_.out (by kernel_rfl)) (fun _ _ _ h => h) (Or.inl ⟨by rfl, ?_⟩) ?_ ?_
                            rotate_left
                            · intro w'
                              go_simp
                              with_reducible rfl
                            rotate_left
                            · simp only [Act.put, List.setIfInBounds_toArray, List.set_cons_zero, List.set_cons_succ, i64_w, i32_w]
                              rfl
                            refine pure_ (i := 4) (N := some 100) (v := ?_) (a' := ?_) #[true, true, false, true, true, false, false, false, false, false] rfl rfl (any_of HT_.out (by kernel_rfl)) (fun _ _ _ h => h) (Or.inl ⟨by rfl, ?_⟩) ?_ ?_
                            rotate_left
                            · intro w'
                              go_simp
                              with_reducible rfl
                            rotate_left
                            · simp only [Act.put, List.setIfInBounds_toArray, List.set_cons_zero, List.set_cons_succ, i64_w, i32_w]
                              rfl
                            refine take_ (i := 2) (N := some 98) (v := ?_) (a' := ?_) #[true, true, true, true, true, false, false, false, false, false] rfl rfl (take_ofW HT_.out HW_.out (by kernel_rfl)) (fun _ _ _ h => h) (Or.inl ⟨by rfl, ?_⟩) hHeld ?_ ?_
                            rotate_left
                            · rintro w' ⟨s0, s1⟩
                              go_simp
                              with_reducible rfl
                            rotate_left
                            · simp only [Act.put, List.setIfInBounds_toArray, List.set_cons_zero, List.set_cons_succ, i64_w, i32_w]
                              rfl
                            refine take_ (i := 5) (N := some 101) (v := ?_) (a' := ?_) #[true, true, true, true, true, true, false, false, false, false] rfl rfl (take_ofW HT_.out HW_.out (by kernel_rfl)) (fun _ _ _ h => h) (Or.inl ⟨by rfl, ?_⟩) hHeld ?_ ?_
                            rotate_left
                            · rintro w' ⟨s0, s1⟩
                              go_simp
                              with_reducible rfl
                            rotate_left
                            · simp only [Act.put, List.setIfInBounds_toArray, List.set_cons_zero, List.set_cons_succ, i64_w, i32_w]
                              rfl
                            refine pure_ (i := 6) (N := some 102) (v := ?_) (a' := ?_) #[true, true, true, true, true, true, true, false, false, false] rfl rfl (any_of HT_.out (by kernel_rfl)) (fun _ _ _ h => h) (Or.inl ⟨by rfl, ?_⟩) ?_ ?_
                            rotate_left
                            · intro w'
                              go_simp
                              with_reducible rfl
                            rotate_left
                            · simp only [Act.put, List.setIfInBounds_toArray, List.set_cons_zero, List.set_cons_succ, i64_w, i32_w]
                              rfl
                            refine pure_ (i := 7) (N := some 103) (v := ?_) (a' := ?_) #[true, true, true, true, true, true, true, true, false, false] rfl rfl (any_of HT_.out (by kernel_rfl)) (fun _ _ _ h => h) (Or.inl ⟨by rfl, ?_⟩) ?_ ?_
                            rotate_left
                            · intro w'
                              go_simp
                              with_reducible rfl
                            rotate_left
                            · simp only [Act.put, List.setIfInBounds_toArray, List.set_cons_zero, List.set_cons_succ, i64_w, i32_w]
                              rfl
                            refine pure_ (i := 8) (N := some 104) (v := ?_) (a' := ?_) #[true, true, true, true, true, true, true, true, true, false] rfl rfl (any_of HT_.out (by kernel_rfl)) (fun _ _ _ h => h) (Or.inl ⟨by rfl, ?_⟩) ?_ ?_
                            rotate_left
                            · intro w'
                              go_simp
                              with_reducible rfl
                            rotate_left
                            · simp only [Act.put, List.setIfInBounds_toArray, List.set_cons_zero, List.set_cons_succ, i64_w, i32_w]
                              rfl
                            refine pure_ (i := 9) (N := some 9) (v := ?_) (a' := ?_) #[true, true, true, true, true, true, true, true, true, true] rfl rfl (any_of HT_.out (by kernel_rfl)) (fun _ _ _ h => h) (Or.inl ⟨by rfl, ?_⟩) ?_ ?_
                            rotate_left
                            · intro w'
                              go_simp
                              with_reducible rfl
                            rotate_left
                            · simp only [Act.put, List.setIfInBounds_toArray, List.set_cons_zero, List.set_cons_succ, i64_w, i32_w]
                              rfl
                            refine done_ (done_of HT_.out (by kernel_rfl)) ?_
                            try go_wp2
                            go_roundg k1
                            case measure => have := HK1.out; omega
                            case rel => exact ⟨(wrap64 (x9_1 + (wrap64 (t1118 * (wrap64 (Int.tdiv t1116 t1119)))))), (wrap64 (x10_1 + 1)), (by first | rfl | (simp; done) | (simp [*]; done)), (by first | rfl | (simp; done) | (simp [*]; done)), H', ⟨by have := HK1.out; omega⟩, ⟨by (with_reducible repeat (first | apply Kd.R_alloc | apply Kd.R_drewN | apply Kd.R_drew)); exact HO_7.out⟩, ⟨by (with_reducible repeat (first | apply Kd.R_alloc | apply Kd.R_drewN | apply Kd.R_drew)); exact HO_1105002.out⟩, ⟨bk_ BK1104.out⟩, ⟨bk_ BK1108.out⟩, ⟨hb3_ HB.out GE1104.out GE1108.out GE1121.out⟩⟩
                      · rw [if_neg c32] at H
                        have c32b0 : ((Int.tmod t1116 t1119) == 0) = false := beq_eq_false_iff_ne.mpr c32
                        have c32b1 : ((Int.tmod t1116 t1119) != 0) = true := bne_iff_ne.mpr c32
                        obtain rfl := Option.some.inj H
                        exact absurd hr_ (by decide)
                · replace c29 := Bool.eq_false_iff.mpr c29
                  subst c29
                  have H1 : (some false) = some r := by rw [if_neg (show ¬ (false = true) by decide)] at H; exact H
                  clear H
                  have H := H1
                  clear H1
                  obtain rfl := Option.some.inj H
                  exact absurd hr_ (by decide)
              · rw [if_neg c27] at H
                exact absurd H (by simp)
            · rw [if_neg c26] at H
              have c26b0 : decide (x10_1 < (t1113.length : Int)) = false := decide_eq_false c26
              clear c26
              by_cases c59 : x9_1 = t1116
              · rw [if_pos c59] at H
                have c59b0 : (x9_1 == t1116) = true := beq_iff_eq.mpr c59
                have c59b1 : (x9_1 != t1116) = false := bne_eq_false_iff_eq.mpr c59
                clear c59
                replace H := Option.bind_eq_some_iff.mp H
                obtain ⟨t1124, A600, H⟩ := H
                replace H : (some ((t1105 == 0) == (!t1124))) = some r := H
                have A60 := Aside0.mk A600
                clear A600
                obtain rfl := Option.some.inj H
                obtain ⟨Ao61, co61, eo61⟩ := Kd.R_slice HO_7.out
                subst eo61
                try go_wp2
                have n0_ := Aside0.mk (Kd.R_drew HO_7.out)
                have n1_ := Aside0.mk (Kd.R_drew HO_1105002.out)
                have n2_ := Aside0.mk (blk_drew BK1104.out)
                have n3_ := Aside0.mk (blk_drew BK1108.out)
                have n4_ := Aside0.mk (below_drew1 HB.out)
                clear HO_7
                clear HO_1105002
                clear BK1104
                clear BK1108
                clear HB
                have HO_7 := n0_
                have HO_1105002 := n1_
                have BK1104 := n2_
                have BK1108 := n3_
                have HB := n4_
                clear n0_ n1_ n2_ n3_ n4_
                refine start_ (n := 14) (S := fun w' => w'.cell? ⟨gb1108, 0, none⟩ = some (.int .i64 t1105) ∧ w'.cell? ⟨gb1108, 1, none⟩ = some (.int .i64 t1106)) (ds := []) #[false, false, false, false, false, false, false, false, false, false, false, false, false, false] (by kernel_rfl) rfl rfl ⟨(blk_cell BK1108.out 0).trans rfl, (blk_cell BK1108.out 1).trans rfl⟩ (fun hHeld => ?_); refine with_tabW laws_FnShares.tab19 laws_FnShares.bits19 (fun HT_ HW_ => ?_)
                generalize wr.drew = w62 at HO_7 HO_1105002 BK1104 BK1108 HB hHeld ⊢
                refine pure_ (i := 0) (N := some 105) (v := ?_) (a' := ?_) #[true, false, false, false, false, false, false, false, false, false, false, false, false, false] rfl rfl (any_of HT_.out (by kernel_rfl)) (fun _ _ _ h => h) (Or.inl ⟨by rfl, ?_⟩) ?_ ?_
                rotate_left
                · intro w'
                  go_simp
                  with_reducible rfl
                rotate_left
                · simp only [Act.put, List.setIfInBounds_toArray, List.set_cons_zero, List.set_cons_succ, i64_w, i32_w]
                  rfl
                refine pure_ (i := 1) (N := some 106) (v := ?_) (a' := ?_) #[true, true, false, false, false, false, false, false, false, false, false, false, false, false] rfl rfl (any_of HT_.out (by kernel_rfl)) (fun _ _ _ h => h) (Or.inl ⟨by rfl, ?_⟩) ?_ ?_
                rotate_left
                · intro w'
                  go_simp
                  with_reducible rfl
                rotate_left
                · simp only [Act.put, List.setIfInBounds_toArray, List.set_cons_zero, List.set_cons_succ, i64_w, i32_w]
                  rfl
                refine pure_ (i := 2) (N := some 107) (v := ?_) (a' := ?_) #[true, true, true, false, false, false, false, false, false, false, false, false, false, false] rfl rfl (any_of HT_.out (by kernel_rfl)) (fun _ _ _ h => h) (Or.inl ⟨by rfl, ?_⟩) ?_ ?_
                rotate_left
                · intro w'
                  go_simp
                  with_reducible rfl
                rotate_left
                · simp only [Act.put, List.setIfInBounds_toArray, List.set_cons_zero, List.set_cons_succ, i64_w, i32_w]
                  rfl
                refine pure_ (i := 3) (N := some 108) (v := ?_) (a' := ?_) #[true, true, true, true, false, false, false, false, false, false, false, false, false, false] rfl rfl (any_of HT_.out (by kernel_rfl)) (fun _ _ _ h => h) (Or.inl ⟨by rfl, ?_⟩) ?_ ?_
                rotate_left
                · intro w'
                  go_simp
                  with_reducible rfl
                rotate_left
                · simp only [Act.put, List.setIfInBounds_toArray, List.set_cons_zero, List.set_cons_succ, i64_w, i32_w]
                  rfl
                refine pure_ (i := 4) (N := some 109) (v := ?_) (a' := ?_) #[true, true, true, true, true, false, false, false, false, false, false, false, false, false] rfl rfl (any_of HT_.out (by kernel_rfl)) (fun _ _ _ h => h) (Or.inl ⟨by rfl, ?_⟩) ?_ ?_
                rotate_left
                · intro w'
                  go_simp
                  with_reducible rfl
                rotate_left
                · simp only [Act.put, List.setIfInBounds_toArray, List.set_cons_zero, List.set_cons_succ, i64_w, i32_w]
                  rfl
                refine pure_ (i := 7) (N := some 112) (v := ?_) (a' := ?_) #[true, true, true, true, true, false, false, true, false, false, false, false, false, false] rfl rfl (any_of HT_.out (by kernel_rfl)) (fun _ _ _ h => h) (Or.inl ⟨by rfl, ?_⟩) ?_ ?_
                rotate_left
                · intro w'
                  go_simp
                  with_reducible rfl
                rotate_left
                · simp only [Act.put, List.setIfInBounds_toArray, List.set_cons_zero, List.set_cons_succ, i64_w, i32_w]
                  rfl
                refine pure_ (i := 8) (N := some 113) (v := ?_) (a' := ?_) #[true, true, true, true, true, false, false, true, true, false, false, false, false, false] rfl rfl (any_of HT_.out (by kernel_rfl)) (fun _ _ _ h => h) (Or.inl ⟨by rfl, ?_⟩) ?_ ?_
                rotate_left
                · intro w'
                  go_simp
                  with_reducible rfl
                rotate_left
                · simp only [Act.put, List.setIfInBounds_toArray, List.set_cons_zero, List.set_cons_succ, i64_w, i32_w]
                  rfl
                refine take_ (i := 5) (N := some 110) (v := ?_) (a' := ?_) #[true, true, true, true, true, true, false, true, true, false, false, false, false, false] rfl rfl (take_ofW HT_.out HW_.out (by kernel_rfl)) (fun _ _ _ h => h) (Or.inl ⟨by rfl, ?_⟩) hHeld ?_ ?_
                rotate_left
                · rintro w' ⟨s0, s1⟩
                  go_simp
                  with_reducible rfl
                rotate_left
                · simp only [Act.put, List.setIfInBounds_toArray, List.set_cons_zero, List.set_cons_succ, i64_w, i32_w]
                  rfl
                refine pure_ (i := 6) (N := some 111) (v := ?_) (a' := ?_) #[true, true, true, true, true, true, true, true, true, false, false, false, false, false] rfl rfl (any_of HT_.out (by kernel_rfl)) (fun _ _ _ h => h) (Or.inl ⟨by rfl, ?_⟩) ?_ ?_
                rotate_left
                · intro w'
                  go_simp
                  with_reducible rfl
                rotate_left
                · simp only [Act.put, List.setIfInBounds_toArray, List.set_cons_zero, List.set_cons_succ, i64_w, i32_w]
                  rfl
                refine one_ (i := 9) (N := some 114) #[true, true, true, true, true, true, true, true, true, true, false, false, false, false] rfl rfl (one_of HT_.out (by kernel_rfl)) (by decide) (fun K hK => ?_)
                refine goes_ Try.func32 (by kernel_rfl) rfl #[.slice Ao61 t1113.length co61, .int .i64 t1103] (by rfl) rfl rfl arr_ ?_
                with_reducible refine (laws_within.calls k1 _ _ t1113 t1103 t1124 _ ?side1 ?side2 A60.out).mono ?_
                (case side1 => repeat (first | exact (Kd.R_reads' HO_7.out).2.2 | (with_reducible refine Kd.C_alloc ?_ _) | (with_reducible refine Kd.C_drewN ?_ _) | (with_reducible refine Kd.C_drew ?_)))
                (case side2 => exact (Kd.R_reads' HO_7.out).2.1)
                rintro e w' ⟨rfl, ⟨nd, rfl⟩⟩
                refine ⟨_, rfl, ?_⟩
                refine hK.out _ _ ⟨(blk_cell BK1108.out 0).trans rfl, (blk_cell BK1108.out 1).trans rfl⟩ (fun hHeld => ?_)
                clear hK K
                refine norm_ (a' := ?_) ?_ ?_
                rotate_left
                · show Act.put _ (some 114) _ = _
                  simp only [Act.put, List.setIfInBounds_toArray, List.set_cons_zero, List.set_cons_succ, i64_w, i32_w]
                  rfl
                refine pure_ (i := 10) (N := some 115) (v := ?_) (a' := ?_) #[true, true, true, true, true, true, true, true, true, true, true, false, false, false] rfl rfl (any_of HT_.out (by kernel_rfl)) (fun _ _ _ h => h) (Or.inl ⟨by rfl, ?_⟩) ?_ ?_
                rotate_left
                · intro w'
                  go_simp
                  with_reducible rfl
                rotate_left
                · simp only [Act.put, List.setIfInBounds_toArray, List.set_cons_zero, List.set_cons_succ, i64_w, i32_w]
                  rfl
                refine pure_ (i := 11) (N := some 116) (v := ?_) (a' := ?_) #[true, true, true, true, true, true, true, true, true, true, true, true, false, false] rfl rfl (any_of HT_.out (by kernel_rfl)) (fun _ _ _ h => h) (Or.inl ⟨by rfl, ?_⟩) ?_ ?_
                rotate_left
                · intro w'
                  go_simp
                  with_reducible rfl
                rotate_left
                · simp only [Act.put, List.setIfInBounds_toArray, List.set_cons_zero, List.set_cons_succ, i64_w, i32_w]
                  rfl
                refine pure_ (i := 12) (N := some 117) (v := ?_) (a' := ?_) #[true, true, true, true, true, true, true, true, true, true, true, true, true, false] rfl rfl (any_of HT_.out (by kernel_rfl)) (fun _ _ _ h => h) (Or.inl ⟨by rfl, ?_⟩) ?_ ?_
                rotate_left
                · intro w'
                  go_simp
                  with_reducible rfl
                rotate_left
                · simp only [Act.put, List.setIfInBounds_toArray, List.set_cons_zero, List.set_cons_succ, i64_w, i32_w]
                  rfl
                refine pure_ (i := 13) (N := some 2) (v := ?_) (a' := ?_) #[true, true, true, true, true, true, true, true, true, true, true, true, true, true] rfl rfl (any_of HT_.out (by kernel_rfl)) (fun _ _ _ h => h) (Or.inl ⟨by rfl, ?_⟩) ?_ ?_
                rotate_left
                · intro w'
                  go_simp
                  with_reducible rfl
                rotate_left
                · simp only [Act.put, List.setIfInBounds_toArray, List.set_cons_zero, List.set_cons_succ, i64_w, i32_w]
                  rfl
                refine done_ (done_of HT_.out (by kernel_rfl)) ?_
                try go_wp2
                go_ret
                exact ⟨er_, hb2_ HB.out GE1104.out GE1108.out⟩
              · rw [if_neg c59] at H
                have c59b0 : (x9_1 == t1116) = false := beq_eq_false_iff_ne.mpr c59
                have c59b1 : (x9_1 != t1116) = true := bne_iff_ne.mpr c59
                obtain rfl := Option.some.inj H
                exact absurd hr_ (by decide)
      · replace c8 := Bool.eq_false_iff.mpr c8
        subst c8
        have H1 : ((impl_OwnersOf.f k t1098 t1099 t1100).bind fun t1110 => (some ((t1110.length : Int) == 0))) = some r := by rw [if_neg (show ¬ (false = true) by decide)] at H; exact H
        clear H
        have H := H1
        clear H1
        replace H := Option.bind_eq_some_iff.mp H
        obtain ⟨t1110, A630, H⟩ := H
        replace H : (some ((t1110.length : Int) == 0)) = some r := H
        have A63 := Aside0.mk A630
        clear A630
        obtain rfl := Option.some.inj H
        go_enter Try.func7, Try.ntmps7
        go_wp2_with (first | ((with_reducible refine gate_callee (f := 26) rfl ?_); refine goesL_ (some 14) rfl rfl Try.func26 (by kernel_rfl) rfl #[.slice A0 l0.length c0] rfl arr_ ?_; (with_reducible refine (laws_big.calls _ _ l0 false _ ?side1 ?side2 A2.out).mono ?_); (case side1 => repeat (first | exact HR0.out | (with_reducible refine Kd.C_alloc ?_ _) | (with_reducible refine Kd.C_drewN ?_ _) | (with_reducible refine Kd.C_drew ?_))); (case side2 => exact HC0.out); rintro e w' ⟨rfl, ⟨nd, rfl⟩⟩; refine ⟨_, rfl, ?_⟩) | ((with_reducible refine gate_callee (f := 37) rfl ?_); refine goesL_ (some 17) rfl rfl Try.func37 (by kernel_rfl) rfl #[.slice A0 l0.length c0] rfl arr_ ?_; (with_reducible refine (spec_DrawShareOf.calls k _ _ l0 t1098 t1099 t1100 t1103 _ ?side1 ?side2 A4.out).mono ?_); (case side1 => repeat (first | exact HR0.out | (with_reducible refine Kd.C_alloc ?_ _) | (with_reducible refine Kd.C_drewN ?_ _) | (with_reducible refine Kd.C_drew ?_))); (case side2 => exact HC0.out); rintro e w64 ⟨v1101, rfl, ho0, hb⟩; refine ⟨_, rfl, ?_⟩; have n0_ := Aside0.mk (Kd.R_lower ho0 (below_size (hb_ HB.out))); have n1_ := Aside0.mk (below_step (hb_ HB.out) hb); clear HB; have HO1102 := n0_; have HB := n1_; clear n0_ n1_; (try clear hb); (try clear hb2); (try clear hk); (try clear hi); (try clear ho0)) | ((with_reducible refine gate_dst (N := 3) rfl ?_); refine box_event ?hg (N := 3) ?hd (cs := #[.int .i64 0, .int .i64 0, .slice none 0 0]) (t := 39) ?hr ?_; (case hd => rfl); (case hg => rfl); (case hr => first | (go_simp; done) | (go_simp; rfl)); intro gb1104 hg w65 hbox hb; have n0_ := Aside0.mk (Kd.R_below (by (with_reducible repeat (first | apply Kd.R_alloc | apply Kd.R_drewN | apply Kd.R_drew)); exact HO1102.out) hb); have n1_ := Aside0.mk (below_step (hb_ HB.out) hb); have n2_ := Aside0.mk (hbox); have n3_ := Aside0.mk ((by rw [hg]; exact (below_size (hb_ HB.out)) : w.heap.size ≤ gb1104)); have n4_ := Aside0.mk ((by rw [hg]; exact (below_size (hb_ HB.out)) : w.heap.size ≤ gb1104)); clear HO1102; clear HB; have HO1102 := n0_; have HB := n1_; have BK1104 := n2_; have GW1104 := n3_; have GE1104 := n4_; clear n0_ n1_ n2_ n3_ n4_; clear hb hbox hg; have hcz66_0 := bc_ BK1104.out 0 (.int .i64 0) rfl; have hcz66_1 := bc_ BK1104.out 1 (.int .i64 0) rfl; have hcz66_2 := bc_ BK1104.out 2 (.slice none 0 0) rfl; have hfz66_0 := blk_frozen BK1104.out 0; have hfz66_1 := blk_frozen BK1104.out 1; have hfz66_2 := blk_frozen BK1104.out 2; obtain ⟨Ao67, co67, eo67⟩ := Kd.R_slice HO1102.out; subst eo67) | ((with_reducible refine gate_callee (f := 38) rfl ?_); refine goesL_ (some 23) rfl rfl Try.func38 (by kernel_rfl) rfl #[.agg #[.int .i64 t1098, .int .i64 t1099, .slice Ao67 t1100.length co67], .int .i64 t1103] rfl arr_ ?_; (with_reducible refine (impl_ShareOf.calls k t1098 t1099 _ _ t1100 t1103 t1105 t1106 false _ ?side1 ?side2 A5.out).mono ?_); (case side1 => refine (Kd.R_reads' (e := 79) (base := w.heap.size) (ok := fun k_ => True) (n := t1100.length) (c := co67) ?_).2.2; exact (by (with_reducible repeat (first | apply Kd.R_alloc | apply Kd.R_drewN | apply Kd.R_drew)); exact (Kd.R_mono (Kd.R_far (p := ⟨gb1104, 2, none⟩) (Kd.R_far (p := ⟨gb1104, 1, none⟩) (Kd.R_far (p := ⟨gb1104, 0, none⟩) (Kd.R_types HO1102.out BK1104.out (by decide)) (fun _ hk => hk.2) (.int .i64 t1098)) (fun _ hk => hk.2) (.int .i64 t1099)) (fun _ hk => hk.2) (.slice Ao67 t1100.length co67)) (fun _ h_ => h_.1)))); (case side2 => exact (Kd.R_reads' HO1102.out).2.1); rintro e w68 ⟨rfl, hb⟩; refine ⟨_, rfl, ?_⟩; have n0_ := Aside0.mk (Kd.R_below (by (with_reducible repeat (first | apply Kd.R_alloc | apply Kd.R_drewN | apply Kd.R_drew)); exact (Kd.R_mono (Kd.R_far (p := ⟨gb1104, 2, none⟩) (Kd.R_far (p := ⟨gb1104, 1, none⟩) (Kd.R_far (p := ⟨gb1104, 0, none⟩) (Kd.R_types HO1102.out BK1104.out (by decide)) (fun _ hk => hk.2) (.int .i64 t1098)) (fun _ hk => hk.2) (.int .i64 t1099)) (fun _ hk => hk.2) (.slice Ao67 t1100.length co67)) (fun _ h_ => h_.1))) hb); have n1_ := Aside0.mk (blk_below (g := gb1104) (o := .cells #[.int .i64 t1098, .int .i64 t1099, .slice Ao67 t1100.length co67] 39 (0, 0)) (by (with_reducible repeat (first | refine blk_drewN ?_ _ | refine blk_drew ?_ | refine blk_alloc ?_ _)); refine blk_put (cs := #[.int .i64 t1098, .int .i64 t1099, .slice none 0 0]) ?_ 2 _ rfl; (with_reducible repeat (first | refine blk_drewN ?_ _ | refine blk_drew ?_ | refine blk_alloc ?_ _)); refine blk_put (cs := #[.int .i64 t1098, .int .i64 0, .slice none 0 0]) ?_ 1 _ rfl; (with_reducible repeat (first | refine blk_drewN ?_ _ | refine blk_drew ?_ | refine blk_alloc ?_ _)); refine blk_put (cs := #[.int .i64 0, .int .i64 0, .slice none 0 0]) ?_ 0 _ rfl; (with_reducible repeat (first | refine blk_drewN ?_ _ | refine blk_drew ?_ | refine blk_alloc ?_ _)); exact BK1104.out) hb); have n2_ := Aside0.mk (below_step (hb1_ HB.out GE1104.out) hb); clear HO1102; clear BK1104; clear HB; have HO1102 := n0_; have BK1104 := n1_; have HB := n2_; clear n0_ n1_ n2_; (try clear hb); (try clear hb2); (try clear hk); (try clear hi)) | ((with_reducible refine gate_dst (N := 5) rfl ?_); refine box_event ?hg (N := 5) ?hd (cs := #[.int .i64 0, .int .i64 0]) (t := 70) ?hr ?_; (case hd => rfl); (case hg => rfl); (case hr => first | (go_simp; done) | (go_simp; rfl)); intro gb1108 hg w69 hbox hb; have n0_ := Aside0.mk (Kd.R_below (by (with_reducible repeat (first | apply Kd.R_alloc | apply Kd.R_drewN | apply Kd.R_drew)); exact HO1102.out) hb); have n1_ := Aside0.mk (bb_ BK1104.out hb); have n2_ := Aside0.mk (below_step (hb1_ HB.out GE1104.out) hb); have n3_ := Aside0.mk (hbox); have n4_ := Aside0.mk ((by rw [hg]; exact (below_size (hb1_ HB.out GE1104.out)) : w.heap.size ≤ gb1108)); have n5_ := Aside0.mk ((by rw [hg]; exact (below_size (hb1_ HB.out GE1104.out)) : w.heap.size ≤ gb1108)); have n6_ := Aside0.mk ((bl_ hg BK1104.out : gb1104 ≠ gb1108)); have n7_ := Aside0.mk ((bg_ hg BK1104.out : gb1108 ≠ gb1104)); clear HO1102; clear BK1104; clear HB; have HO1102 := n0_; have BK1104 := n1_; have HB := n2_; have BK1108 := n3_; have GW1108 := n4_; have GE1108 := n5_; have NB1104_1108 := n6_; have NB1108_1104 := n7_; clear n0_ n1_ n2_ n3_ n4_ n5_ n6_ n7_; clear hb hbox hg; have hnb70 := NB1108_1104.out; have hnc70 := NB1104_1108.out; have hcz71_0 := bc_ BK1108.out 0 (.int .i64 0) rfl; have hcz71_1 := bc_ BK1108.out 1 (.int .i64 0) rfl; have hfz71_0 := blk_frozen BK1108.out 0; have hfz71_1 := blk_frozen BK1108.out 1; have hcz72_0 := bc_ BK1104.out 0 (.int .i64 t1098) rfl; have hcz72_1 := bc_ BK1104.out 1 (.int .i64 t1099) rfl; have hcz72_2 := bc_ BK1104.out 2 (.slice Ao67 t1100.length co67) rfl; have hfz72_0 := blk_frozen BK1104.out 0; have hfz72_1 := blk_frozen BK1104.out 1; have hfz72_2 := blk_frozen BK1104.out 2) | ((with_reducible refine gate_callee (f := 39) rfl ?_); refine goesL_ (some 28) rfl rfl Try.func39 (by kernel_rfl) rfl #[.agg #[.int .i64 t1098, .int .i64 t1099, .slice Ao67 t1100.length co67]] rfl arr_ ?_; (with_reducible refine (spec_PlanOk.calls k t1098 t1099 _ _ t1100 t1109 _ ?side1 ?side2 A6.out).mono ?_); (case side1 => refine (Kd.R_reads' (e := 79) (base := w.heap.size) (ok := fun k_ => True) (n := t1100.length) (c := co67) ?_).2.2; exact (by (with_reducible repeat (first | apply Kd.R_alloc | apply Kd.R_drewN | apply Kd.R_drew)); exact (Kd.R_mono (Kd.R_far (p := ⟨gb1108, 1, none⟩) (Kd.R_far (p := ⟨gb1108, 0, none⟩) (Kd.R_types HO1102.out BK1108.out (by decide)) (fun _ hk => hk.2) (.int .i64 t1105)) (fun _ hk => hk.2) (.int .i64 t1106)) (fun _ h_ => h_.1)))); (case side2 => exact (Kd.R_reads' HO1102.out).2.1); rintro e w73 ⟨rfl, hb⟩; refine ⟨_, rfl, ?_⟩; have n0_ := Aside0.mk (Kd.R_below (by (with_reducible repeat (first | apply Kd.R_alloc | apply Kd.R_drewN | apply Kd.R_drew)); exact (Kd.R_mono (Kd.R_far (p := ⟨gb1108, 1, none⟩) (Kd.R_far (p := ⟨gb1108, 0, none⟩) (Kd.R_types HO1102.out BK1108.out (by decide)) (fun _ hk => hk.2) (.int .i64 t1105)) (fun _ hk => hk.2) (.int .i64 t1106)) (fun _ h_ => h_.1))) hb); have n1_ := Aside0.mk (blk_below (g := gb1104) (o := .cells #[.int .i64 t1098, .int .i64 t1099, .slice Ao67 t1100.length co67] 39 (0, 0)) (by (with_reducible repeat (first | refine blk_drewN ?_ _ | refine blk_drew ?_ | refine blk_alloc ?_ _)); refine blk_far ?_ NB1104_1108.out _; (with_reducible repeat (first | refine blk_drewN ?_ _ | refine blk_drew ?_ | refine blk_alloc ?_ _)); refine blk_far ?_ NB1104_1108.out _; (with_reducible repeat (first | refine blk_drewN ?_ _ | refine blk_drew ?_ | refine blk_alloc ?_ _)); exact BK1104.out) hb); have n2_ := Aside0.mk (blk_below (g := gb1108) (o := .cells #[.int .i64 t1105, .int .i64 t1106] 70 (0, 0)) (by (with_reducible repeat (first | refine blk_drewN ?_ _ | refine blk_drew ?_ | refine blk_alloc ?_ _)); refine blk_put (cs := #[.int .i64 t1105, .int .i64 0]) ?_ 1 _ rfl; (with_reducible repeat (first | refine blk_drewN ?_ _ | refine blk_drew ?_ | refine blk_alloc ?_ _)); refine blk_put (cs := #[.int .i64 0, .int .i64 0]) ?_ 0 _ rfl; (with_reducible repeat (first | refine blk_drewN ?_ _ | refine blk_drew ?_ | refine blk_alloc ?_ _)); exact BK1108.out) hb); have n3_ := Aside0.mk (below_step (hb2_ HB.out GE1104.out GE1108.out) hb); clear HO1102; clear BK1104; clear BK1108; clear HB; have HO1102 := n0_; have BK1104 := n1_; have BK1108 := n2_; have HB := n3_; clear n0_ n1_ n2_ n3_; (try clear hb); (try clear hb2); (try clear hk); (try clear hi); have hcz74_0 := bc_ BK1104.out 0 (.int .i64 t1098) rfl; have hcz74_1 := bc_ BK1104.out 1 (.int .i64 t1099) rfl; have hcz74_2 := bc_ BK1104.out 2 (.slice Ao67 t1100.length co67) rfl; have hfz74_0 := blk_frozen BK1104.out 0; have hfz74_1 := blk_frozen BK1104.out 1; have hfz74_2 := blk_frozen BK1104.out 2) | ((with_reducible refine gate_callee (f := 36) rfl ?_); refine goesL_ (some 33) rfl rfl Try.func36 (by kernel_rfl) rfl #[.agg #[.int .i64 t1098, .int .i64 t1099, .slice Ao67 t1100.length co67]] rfl arr_ ?_; (with_reducible refine (impl_OwnersOf.calls k t1098 t1099 _ _ t1100 t1110 _ ?side1 ?side2 A63.out).mono ?_); (case side1 => repeat (first | exact (Kd.R_reads' HO1102.out).2.2 | (with_reducible refine Kd.C_alloc ?_ _) | (with_reducible refine Kd.C_drewN ?_ _) | (with_reducible refine Kd.C_drew ?_))); (case side2 => exact (Kd.R_reads' HO1102.out).2.1); rintro e w75 ⟨v1111, rfl, ho0, hb⟩; refine ⟨_, rfl, ?_⟩; have n0_ := Aside0.mk (Kd.R_below (by (with_reducible repeat (first | apply Kd.R_alloc | apply Kd.R_drewN | apply Kd.R_drew)); exact HO1102.out) hb); have n1_ := Aside0.mk (Kd.R_lower ho0 (below_size (hb2_ HB.out GE1104.out GE1108.out))); have n2_ := Aside0.mk (bb_ BK1104.out hb); have n3_ := Aside0.mk (bb_ BK1108.out hb); have n4_ := Aside0.mk (below_step (hb2_ HB.out GE1104.out GE1108.out) hb); clear HO1102; clear BK1104; clear BK1108; clear HB; have HO1102 := n0_; have HO1112 := n1_; have BK1104 := n2_; have BK1108 := n3_; have HB := n4_; clear n0_ n1_ n2_ n3_ n4_; (try clear hb); (try clear hb2); (try clear hk); (try clear hi); (try clear ho0); obtain ⟨Ao76, co76, eo76⟩ := Kd.R_slice HO1112.out; subst eo76))
        go_ret
        exact ⟨er_, hb2_ HB.out GE1104.out GE1108.out⟩
end Go.Proofs.Ytpjahhljpoeaeaa.P
