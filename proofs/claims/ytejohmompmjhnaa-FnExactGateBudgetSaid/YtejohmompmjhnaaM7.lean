/- Texts of the seat's proofs, part 7: functions of the program told as plain functions, with their contracts, and what is shown of them. No condition. -/
import Derived.Test.YtejohmompmjhnaaU
import Derived.Test.YtejohmompmjhnaaM1
import Derived.Test.YtejohmompmjhnaaM3
import Derived.Test.YtejohmompmjhnaaM6
import Derived.Test.YtejohmompmjhnaaM4
import Derived.Test.YtejohmompmjhnaaM2
import Derived.Test.YtejohmompmjhnaaM5
set_option linter.unusedVariables false
set_option linter.unusedSimpArgs false
namespace Go.Proofs.Ytejohmompmjhnaa.P
open Go.RowKit Go.Proofs.YtejohmompmjhnaaW.PrintWords Go.Proofs.YtejohmompmjhnaaW.PrintLast Go.Proofs.YtejohmompmjhnaaW.PrintMore
attribute [local go_sem] max2_int min2_int max_two min_two max_three min_three max_four min_four
set_option linter.unusedVariables false
set_option linter.unusedSimpArgs false
def laws_FnExactGateAsk.j0 : Nat → Bool → Int → Int → List (S104) → Int → Int → List (S55) → Option (Bool)
  | 0, _, _, _, _, _, _, _ => none
  | k + 1, x67, x333000, x333001, x333002, x352000, x352001, x352002 => if x67 = true then (some false) else ((laws_toPlan.f k x333000 x333001 x333002).bind fun bt359 => ((laws_eqPlan.f k x352000 x352001 x352002 bt359.1 bt359.2.1 bt359.2.2).bind fun t364 => (if t364 = true then (some true) else (some false))))
def laws_FnExactGateAsk.f (k : Nat) (a0_0 : Int) (a0_1 : Int) (a1 : Bool) (a2_0 : Int) (a2_1 : Int) (a3 : Int) (a4_0 : Int) (a4_1 : Int) (l4_2 : List (S104)) (a5 : Int) : Option (Bool) := (laws_szPlan.f a4_0 a4_1 l4_2 1048576).bind fun t333 => (if t333 < 0 then (some true) else ((laws_toIval.f a0_0 a0_1).bind fun bt334 => ((laws_toDrift.f a2_0 a2_1).bind fun bt336 => ((laws_toPlan.f k a4_0 a4_1 l4_2).bind fun bt338 => ((spec_GateAsk.f k bt334.1 bt334.2 a1 bt336.1 bt336.2 a3 bt338.1 bt338.2.1 bt338.2.2 a5).bind fun bt343 => ((laws_toPlan.f k a4_0 a4_1 l4_2).bind fun bt346 => ((laws_toIval.f a0_0 a0_1).bind fun bt352 => ((laws_toDrift.f a2_0 a2_1).bind fun bt354 => ((impl_GateAsk.f k bt352.1 bt352.2 a1 bt354.1 bt354.2 a3 bt346.1 bt346.2.1 bt346.2.2 a5).bind fun bt356 => (if bt356.1 = bt343.1 then (if bt356.2.1 = bt343.2.1 then (laws_FnExactGateAsk.j0 k (bt356.2.2 != bt343.2.2) a4_0 a4_1 l4_2 bt346.1 bt346.2.1 bt346.2.2) else (laws_FnExactGateAsk.j0 k true a4_0 a4_1 l4_2 bt346.1 bt346.2.1 bt346.2.2)) else (laws_FnExactGateAsk.j0 k true a4_0 a4_1 l4_2 bt346.1 bt346.2.1 bt346.2.2)))))))))))
theorem laws_FnExactGateAsk.mono_l : ∀ k, (∀ y0 y1 y2 y3 y4 y5 y6, LeO (laws_FnExactGateAsk.j0 k y0 y1 y2 y3 y4 y5 y6) (laws_FnExactGateAsk.j0 (k + 1) y0 y1 y2 y3 y4 y5 y6))
  | 0 => fun _ _ _ _ _ _ _ r h => by simp [laws_FnExactGateAsk.j0] at h
  | k + 1 => by
    have ih0 := laws_FnExactGateAsk.mono_l k
    · intro y0 y1 y2 y3 y4 y5 y6
      unfold laws_FnExactGateAsk.j0
      repeat' first
      | (with_reducible exact ih0 _ _ _ _ _ _ _)
      | (with_reducible exact impl_GateAsk.mono _ _ _ _ _ _ _ _ _ _ _)
      | (with_reducible exact laws_eqPlan.mono _ _ _ _ _ _ _)
      | (with_reducible exact laws_toPlan.mono _ _ _ _)
      | (with_reducible exact spec_GateAsk.mono _ _ _ _ _ _ _ _ _ _ _)
      | (with_reducible exact LeO.refl _)
      | (with_reducible exact LeO.none _)
      | (with_reducible refine LeO.ite ?_ ?_)
      | (with_reducible refine LeO.bind ?_ (fun _ => ?_))
      | exact ih0 _ _ _ _ _ _ _
      | exact impl_GateAsk.mono _ _ _ _ _ _ _ _ _ _ _
      | exact laws_eqPlan.mono _ _ _ _ _ _ _
      | exact laws_toPlan.mono _ _ _ _
      | exact spec_GateAsk.mono _ _ _ _ _ _ _ _ _ _ _
      | exact LeO.none _
      | refine LeO.ite ?_ ?_
      | refine LeO.bind ?_ (fun _ => ?_)
theorem laws_FnExactGateAsk.mono : ∀ a0 a1 a2 a3 a4 a5 a6 a7 a8 a9 k, LeO (laws_FnExactGateAsk.f k a0 a1 a2 a3 a4 a5 a6 a7 a8 a9) (laws_FnExactGateAsk.f (k + 1) a0 a1 a2 a3 a4 a5 a6 a7 a8 a9) := by
  intro a0 a1 a2 a3 a4 a5 a6 a7 a8 a9 k
  have ih0 := laws_FnExactGateAsk.mono_l k
  unfold laws_FnExactGateAsk.f
  repeat' first
      | (with_reducible exact ih0 _ _ _ _ _ _ _)
      | (with_reducible exact impl_GateAsk.mono _ _ _ _ _ _ _ _ _ _ _)
      | (with_reducible exact laws_eqPlan.mono _ _ _ _ _ _ _)
      | (with_reducible exact laws_toPlan.mono _ _ _ _)
      | (with_reducible exact spec_GateAsk.mono _ _ _ _ _ _ _ _ _ _ _)
      | (with_reducible exact LeO.refl _)
      | (with_reducible exact LeO.none _)
      | (with_reducible refine LeO.ite ?_ ?_)
      | (with_reducible refine LeO.bind ?_ (fun _ => ?_))
      | exact ih0 _ _ _ _ _ _ _
      | exact impl_GateAsk.mono _ _ _ _ _ _ _ _ _ _ _
      | exact laws_eqPlan.mono _ _ _ _ _ _ _
      | exact laws_toPlan.mono _ _ _ _
      | exact spec_GateAsk.mono _ _ _ _ _ _ _ _ _ _ _
      | exact LeO.none _
      | refine LeO.ite ?_ ?_
      | refine LeO.bind ?_ (fun _ => ?_)
def laws_FnExactGateAsk.T5 : Bool × List (List Nat × List Nat) := (true, [([], []), ([0], [0]), ([], []), ([], []), ([3, 1], [3]), ([], []), ([], []), ([6, 4], [6]), ([], []), ([1, 2, 4, 5, 7, 8, 7], [1, 2, 4, 5, 7, 8]), ([9], [9]), ([10], [10]), ([10], [10]), ([10], [10]), ([11, 9, 0, 1, 2, 3, 4, 5, 6, 7, 8, 9, 10, 11], [11]), ([12, 14, 0, 1, 2, 3, 4, 5, 6, 7, 8, 9, 10, 11, 12, 14], [12]), ([13, 15, 0, 1, 2, 3, 4, 5, 6, 7, 8, 9, 10, 11, 12, 13, 14, 15], [13])])
def laws_FnExactGateAsk.B5 : List Nat := [0, 1, 0, 0, 11, 0, 0, 91, 0, 511, 1023, 2047, 2047, 2047, 4095, 24575, 65535]
theorem laws_FnExactGateAsk.tab5 : rtab .any (opsOf Try.f3 5) = laws_FnExactGateAsk.T5 := by kernel_rfl
theorem laws_FnExactGateAsk.bits5 : waitsOk laws_FnExactGateAsk.T5.2 laws_FnExactGateAsk.B5 = true := by kernel_rfl
def laws_FnExactGateAsk.T7 : Bool × List (List Nat × List Nat) := (true, [([], []), ([0], [0]), ([], []), ([], []), ([3, 1], [3]), ([], []), ([], []), ([], []), ([1, 2, 4, 5, 6, 7, 4], [1, 2, 4, 5, 6, 7]), ([8], [8]), ([9], [9]), ([9], [9]), ([9], [9]), ([10, 8, 0, 1, 2, 3, 4, 5, 6, 7, 8, 9, 10], [10]), ([11, 13, 0, 1, 2, 3, 4, 5, 6, 7, 8, 9, 10, 11, 13], [11]), ([12, 14, 0, 1, 2, 3, 4, 5, 6, 7, 8, 9, 10, 11, 12, 13, 14], [12])])
def laws_FnExactGateAsk.B7 : List Nat := [0, 1, 0, 0, 11, 0, 0, 0, 255, 511, 1023, 1023, 1023, 2047, 12287, 32767]
theorem laws_FnExactGateAsk.tab7 : rtab .any (opsOf Try.f3 7) = laws_FnExactGateAsk.T7 := by kernel_rfl
theorem laws_FnExactGateAsk.bits7 : waitsOk laws_FnExactGateAsk.T7.2 laws_FnExactGateAsk.B7 = true := by kernel_rfl
set_option maxHeartbeats 8000000 in
set_option maxRecDepth 100000 in
theorem laws_FnExactGateAsk.calls (k : Nat) (a0_0 : Int) (a0_1 : Int) (a1 : Bool) (a2_0 : Int) (a2_1 : Int) (a3 : Int) (a4_0 : Int) (a4_1 : Int) (A4_2 : Option Addr) (c4_2 : Nat) (l4_2 : List (S104)) (a5 : Int) (r : Bool) (w : World) (hr4_2 : Kd.C k104 w A4_2 l4_2.length l4_2) (hc4_2 : l4_2.length ≤ c4_2) (hr_ : r = true) (h : laws_FnExactGateAsk.f k a0_0 a0_1 a1 a2_0 a2_1 a3 a4_0 a4_1 l4_2 a5 = some r) :
    Calls Try.prog 3 #[.agg #[.int .i64 a0_0, .int .i64 a0_1], .bool a1, .agg #[.int .i64 a2_0, .int .i64 a2_1], .int .i64 a3, .agg #[.int .i64 a4_0, .int .i64 a4_1, .slice A4_2 l4_2.length c4_2], .int .i64 a5] w fun e w' => e = .returned (.bool r) ∧ Below w.heap.size w w' := by
  have hu23 := Try.underlying23
  have hu25 := Try.underlying25
  have hu28 := Try.underlying28
  have hu38 := Try.underlying38
  have HR4_2 := Aside0.mk hr4_2
  have HC4_2 := Aside0.mk hc4_2
  clear hr4_2 hc4_2
  have HB := Aside0.mk (Below.refl w.heap.size w)
  have H : ((laws_szPlan.f a4_0 a4_1 l4_2 1048576).bind fun t333 => (if t333 < 0 then (some true) else ((laws_toIval.f a0_0 a0_1).bind fun bt334 => ((laws_toDrift.f a2_0 a2_1).bind fun bt336 => ((laws_toPlan.f k a4_0 a4_1 l4_2).bind fun bt338 => ((spec_GateAsk.f k bt334.1 bt334.2 a1 bt336.1 bt336.2 a3 bt338.1 bt338.2.1 bt338.2.2 a5).bind fun bt343 => ((laws_toPlan.f k a4_0 a4_1 l4_2).bind fun bt346 => ((laws_toIval.f a0_0 a0_1).bind fun bt352 => ((laws_toDrift.f a2_0 a2_1).bind fun bt354 => ((impl_GateAsk.f k bt352.1 bt352.2 a1 bt354.1 bt354.2 a3 bt346.1 bt346.2.1 bt346.2.2 a5).bind fun bt356 => (if bt356.1 = bt343.1 then (if bt356.2.1 = bt343.2.1 then (laws_FnExactGateAsk.j0 k (bt356.2.2 != bt343.2.2) a4_0 a4_1 l4_2 bt346.1 bt346.2.1 bt346.2.2) else (laws_FnExactGateAsk.j0 k true a4_0 a4_1 l4_2 bt346.1 bt346.2.1 bt346.2.2)) else (laws_FnExactGateAsk.j0 k true a4_0 a4_1 l4_2 bt346.1 bt346.2.1 bt346.2.2)))))))))))) = some r := h
  clear h
  replace H := Option.bind_eq_some_iff.mp H
  obtain ⟨t333, A70, H⟩ := H
  replace H : (if t333 < 0 then (some true) else ((laws_toIval.f a0_0 a0_1).bind fun bt334 => ((laws_toDrift.f a2_0 a2_1).bind fun bt336 => ((laws_toPlan.f k a4_0 a4_1 l4_2).bind fun bt338 => ((spec_GateAsk.f k bt334.1 bt334.2 a1 bt336.1 bt336.2 a3 bt338.1 bt338.2.1 bt338.2.2 a5).bind fun bt343 => ((laws_toPlan.f k a4_0 a4_1 l4_2).bind fun bt346 => ((laws_toIval.f a0_0 a0_1).bind fun bt352 => ((laws_toDrift.f a2_0 a2_1).bind fun bt354 => ((impl_GateAsk.f k bt352.1 bt352.2 a1 bt354.1 bt354.2 a3 bt346.1 bt346.2.1 bt346.2.2 a5).bind fun bt356 => (if bt356.1 = bt343.1 then (if bt356.2.1 = bt343.2.1 then (laws_FnExactGateAsk.j0 k (bt356.2.2 != bt343.2.2) a4_0 a4_1 l4_2 bt346.1 bt346.2.1 bt346.2.2) else (laws_FnExactGateAsk.j0 k true a4_0 a4_1 l4_2 bt346.1 bt346.2.1 bt346.2.2)) else (laws_FnExactGateAsk.j0 k true a4_0 a4_1 l4_2 bt346.1 bt346.2.1 bt346.2.2))))))))))) = some r := H
  have A7 := Aside0.mk A70
  clear A70
  by_cases c8 : t333 < 0
  · rw [if_pos c8] at H
    have c8b0 : decide (t333 < 0) = true := decide_eq_true c8
    clear c8
    obtain rfl := Option.some.inj H
    go_enter Try.func3, Try.ntmps3
    go_wp2_with (first | ((with_reducible refine gate_dst (N := 6) rfl ?_); refine box_event ?hg (N := 6) ?hd (cs := #[.int .i64 a0_0, .int .i64 a0_1]) (t := 23) ?hr ?_; (case hd => rfl); (case hg => rfl); (case hr => first | (go_simp; done) | (go_simp; rfl)); intro gb330 hg w9 hbox hb; have n0_ := Aside0.mk (below_step (hb_ HB.out) hb); have n1_ := Aside0.mk (hbox); have n2_ := Aside0.mk ((by rw [hg]; exact (below_size (hb_ HB.out)) : w.heap.size ≤ gb330)); have n3_ := Aside0.mk ((by rw [hg]; exact (below_size (hb_ HB.out)) : w.heap.size ≤ gb330)); clear HB; have HB := n0_; have BK330 := n1_; have GW330 := n2_; have GE330 := n3_; clear n0_ n1_ n2_ n3_; clear hb hbox hg) | ((with_reducible refine gate_dst (N := 8) rfl ?_); refine box_event ?hg (N := 8) ?hd (cs := #[.int .i64 a2_0, .int .i64 a2_1]) (t := 25) ?hr ?_; (case hd => rfl); (case hg => rfl); (case hr => first | (go_simp; done) | (go_simp; rfl)); intro gb331 hg w10 hbox hb; have n0_ := Aside0.mk (bb_ BK330.out hb); have n1_ := Aside0.mk (below_step (hb1_ HB.out GE330.out) hb); have n2_ := Aside0.mk (hbox); have n3_ := Aside0.mk ((by rw [hg]; exact (below_size (hb1_ HB.out GE330.out)) : w.heap.size ≤ gb331)); have n4_ := Aside0.mk ((by rw [hg]; exact (below_size (hb1_ HB.out GE330.out)) : w.heap.size ≤ gb331)); have n5_ := Aside0.mk ((bl_ hg BK330.out : gb330 ≠ gb331)); have n6_ := Aside0.mk ((bg_ hg BK330.out : gb331 ≠ gb330)); clear BK330; clear HB; have BK330 := n0_; have HB := n1_; have BK331 := n2_; have GW331 := n3_; have GE331 := n4_; have NB330_331 := n5_; have NB331_330 := n6_; clear n0_ n1_ n2_ n3_ n4_ n5_ n6_; clear hb hbox hg) | ((with_reducible refine gate_dst (N := 10) rfl ?_); refine box_event ?hg (N := 10) ?hd (cs := #[.int .i64 a4_0, .int .i64 a4_1, .slice A4_2 l4_2.length c4_2]) (t := 28) ?hr ?_; (case hd => rfl); (case hg => rfl); (case hr => first | (go_simp; done) | (go_simp; rfl)); intro gb332 hg w11 hbox hb; have n0_ := Aside0.mk (bb_ BK330.out hb); have n1_ := Aside0.mk (bb_ BK331.out hb); have n2_ := Aside0.mk (below_step (hb2_ HB.out GE330.out GE331.out) hb); have n3_ := Aside0.mk (hbox); have n4_ := Aside0.mk ((by rw [hg]; exact (below_size (hb2_ HB.out GE330.out GE331.out)) : w.heap.size ≤ gb332)); have n5_ := Aside0.mk ((by rw [hg]; exact (below_size (hb2_ HB.out GE330.out GE331.out)) : w.heap.size ≤ gb332)); have n6_ := Aside0.mk ((bl_ hg BK330.out : gb330 ≠ gb332)); have n7_ := Aside0.mk ((bg_ hg BK330.out : gb332 ≠ gb330)); have n8_ := Aside0.mk ((bl_ hg BK331.out : gb331 ≠ gb332)); have n9_ := Aside0.mk ((bg_ hg BK331.out : gb332 ≠ gb331)); clear BK330; clear BK331; clear HB; have BK330 := n0_; have BK331 := n1_; have HB := n2_; have BK332 := n3_; have GW332 := n4_; have GE332 := n5_; have NB330_332 := n6_; have NB332_330 := n7_; have NB331_332 := n8_; have NB332_331 := n9_; clear n0_ n1_ n2_ n3_ n4_ n5_ n6_ n7_ n8_ n9_; clear hb hbox hg; have hnb12 := NB332_330.out; have hnc12 := NB330_332.out; have hnb13 := NB332_331.out; have hnc13 := NB331_332.out; have hcz14_0 := bc_ BK332.out 0 (.int .i64 a4_0) rfl; have hcz14_1 := bc_ BK332.out 1 (.int .i64 a4_1) rfl; have hcz14_2 := bc_ BK332.out 2 (.slice A4_2 l4_2.length c4_2) rfl; have hfz14_0 := blk_frozen BK332.out 0; have hfz14_1 := blk_frozen BK332.out 1; have hfz14_2 := blk_frozen BK332.out 2) | ((with_reducible refine gate_callee (f := 9) rfl ?_); refine goesL_ (some 23) rfl rfl Try.func9 (by kernel_rfl) rfl #[.agg #[.int .i64 a4_0, .int .i64 a4_1, .slice A4_2 l4_2.length c4_2], .int .i64 1048576] rfl arr_ ?_; (with_reducible refine (laws_szPlan.calls a4_0 a4_1 _ _ l4_2 1048576 t333 _ ?side1 ?side2 A7.out).mono ?_); (case side1 => exact kc_ (Kd.C_below HR4_2.out HB.out)); (case side2 => exact HC4_2.out); rintro e w15 ⟨rfl, hb⟩; refine ⟨_, rfl, ?_⟩; have n0_ := Aside0.mk (bb_ BK330.out hb); have n1_ := Aside0.mk (bb_ BK331.out hb); have n2_ := Aside0.mk (bb_ BK332.out hb); have n3_ := Aside0.mk (below_step (hb3_ HB.out GE330.out GE331.out GE332.out) hb); clear BK330; clear BK331; clear BK332; clear HB; have BK330 := n0_; have BK331 := n1_; have BK332 := n2_; have HB := n3_; clear n0_ n1_ n2_ n3_; (try clear hb); (try clear hb2); (try clear hk); (try clear hi)))
    go_ret
    exact ⟨er_, hb3_ HB.out GE330.out GE331.out GE332.out⟩
  · rw [if_neg c8] at H
    have c8b0 : decide (t333 < 0) = false := decide_eq_false c8
    clear c8
    replace H := Option.bind_eq_some_iff.mp H
    obtain ⟨⟨t334, t335⟩, A160, H⟩ := H
    replace H : ((laws_toDrift.f a2_0 a2_1).bind fun bt336 => ((laws_toPlan.f k a4_0 a4_1 l4_2).bind fun bt338 => ((spec_GateAsk.f k t334 t335 a1 bt336.1 bt336.2 a3 bt338.1 bt338.2.1 bt338.2.2 a5).bind fun bt343 => ((laws_toPlan.f k a4_0 a4_1 l4_2).bind fun bt346 => ((laws_toIval.f a0_0 a0_1).bind fun bt352 => ((laws_toDrift.f a2_0 a2_1).bind fun bt354 => ((impl_GateAsk.f k bt352.1 bt352.2 a1 bt354.1 bt354.2 a3 bt346.1 bt346.2.1 bt346.2.2 a5).bind fun bt356 => (if bt356.1 = bt343.1 then (if bt356.2.1 = bt343.2.1 then (laws_FnExactGateAsk.j0 k (bt356.2.2 != bt343.2.2) a4_0 a4_1 l4_2 bt346.1 bt346.2.1 bt346.2.2) else (laws_FnExactGateAsk.j0 k true a4_0 a4_1 l4_2 bt346.1 bt346.2.1 bt346.2.2)) else (laws_FnExactGateAsk.j0 k true a4_0 a4_1 l4_2 bt346.1 bt346.2.1 bt346.2.2))))))))) = some r := H
    have A16 := Aside0.mk A160
    clear A160
    replace H := Option.bind_eq_some_iff.mp H
    obtain ⟨⟨t336, t337⟩, A170, H⟩ := H
    replace H : ((laws_toPlan.f k a4_0 a4_1 l4_2).bind fun bt338 => ((spec_GateAsk.f k t334 t335 a1 t336 t337 a3 bt338.1 bt338.2.1 bt338.2.2 a5).bind fun bt343 => ((laws_toPlan.f k a4_0 a4_1 l4_2).bind fun bt346 => ((laws_toIval.f a0_0 a0_1).bind fun bt352 => ((laws_toDrift.f a2_0 a2_1).bind fun bt354 => ((impl_GateAsk.f k bt352.1 bt352.2 a1 bt354.1 bt354.2 a3 bt346.1 bt346.2.1 bt346.2.2 a5).bind fun bt356 => (if bt356.1 = bt343.1 then (if bt356.2.1 = bt343.2.1 then (laws_FnExactGateAsk.j0 k (bt356.2.2 != bt343.2.2) a4_0 a4_1 l4_2 bt346.1 bt346.2.1 bt346.2.2) else (laws_FnExactGateAsk.j0 k true a4_0 a4_1 l4_2 bt346.1 bt346.2.1 bt346.2.2)) else (laws_FnExactGateAsk.j0 k true a4_0 a4_1 l4_2 bt346.1 bt346.2.1 bt346.2.2)))))))) = some r := H
    have A17 := Aside0.mk A170
    clear A170
    replace H := Option.bind_eq_some_iff.mp H
    obtain ⟨⟨t338, t339, t340⟩, A180, H⟩ := H
    replace H : ((spec_GateAsk.f k t334 t335 a1 t336 t337 a3 t338 t339 t340 a5).bind fun bt343 => ((laws_toPlan.f k a4_0 a4_1 l4_2).bind fun bt346 => ((laws_toIval.f a0_0 a0_1).bind fun bt352 => ((laws_toDrift.f a2_0 a2_1).bind fun bt354 => ((impl_GateAsk.f k bt352.1 bt352.2 a1 bt354.1 bt354.2 a3 bt346.1 bt346.2.1 bt346.2.2 a5).bind fun bt356 => (if bt356.1 = bt343.1 then (if bt356.2.1 = bt343.2.1 then (laws_FnExactGateAsk.j0 k (bt356.2.2 != bt343.2.2) a4_0 a4_1 l4_2 bt346.1 bt346.2.1 bt346.2.2) else (laws_FnExactGateAsk.j0 k true a4_0 a4_1 l4_2 bt346.1 bt346.2.1 bt346.2.2)) else (laws_FnExactGateAsk.j0 k true a4_0 a4_1 l4_2 bt346.1 bt346.2.1 bt346.2.2))))))) = some r := H
    have A18 := Aside0.mk A180
    clear A180
    replace H := Option.bind_eq_some_iff.mp H
    obtain ⟨⟨t343, t344, t345⟩, A190, H⟩ := H
    replace H : ((laws_toPlan.f k a4_0 a4_1 l4_2).bind fun bt346 => ((laws_toIval.f a0_0 a0_1).bind fun bt352 => ((laws_toDrift.f a2_0 a2_1).bind fun bt354 => ((impl_GateAsk.f k bt352.1 bt352.2 a1 bt354.1 bt354.2 a3 bt346.1 bt346.2.1 bt346.2.2 a5).bind fun bt356 => (if bt356.1 = t343 then (if bt356.2.1 = t344 then (laws_FnExactGateAsk.j0 k (bt356.2.2 != t345) a4_0 a4_1 l4_2 bt346.1 bt346.2.1 bt346.2.2) else (laws_FnExactGateAsk.j0 k true a4_0 a4_1 l4_2 bt346.1 bt346.2.1 bt346.2.2)) else (laws_FnExactGateAsk.j0 k true a4_0 a4_1 l4_2 bt346.1 bt346.2.1 bt346.2.2)))))) = some r := H
    have A19 := Aside0.mk A190
    clear A190
    replace H := Option.bind_eq_some_iff.mp H
    obtain ⟨⟨t346, t347, t348⟩, A200, H⟩ := H
    replace H : ((laws_toIval.f a0_0 a0_1).bind fun bt352 => ((laws_toDrift.f a2_0 a2_1).bind fun bt354 => ((impl_GateAsk.f k bt352.1 bt352.2 a1 bt354.1 bt354.2 a3 t346 t347 t348 a5).bind fun bt356 => (if bt356.1 = t343 then (if bt356.2.1 = t344 then (laws_FnExactGateAsk.j0 k (bt356.2.2 != t345) a4_0 a4_1 l4_2 t346 t347 t348) else (laws_FnExactGateAsk.j0 k true a4_0 a4_1 l4_2 t346 t347 t348)) else (laws_FnExactGateAsk.j0 k true a4_0 a4_1 l4_2 t346 t347 t348))))) = some r := H
    have A20 := Aside0.mk A200
    clear A200
    replace H := Option.bind_eq_some_iff.mp H
    obtain ⟨⟨t352, t353⟩, A210, H⟩ := H
    replace H : ((laws_toDrift.f a2_0 a2_1).bind fun bt354 => ((impl_GateAsk.f k t352 t353 a1 bt354.1 bt354.2 a3 t346 t347 t348 a5).bind fun bt356 => (if bt356.1 = t343 then (if bt356.2.1 = t344 then (laws_FnExactGateAsk.j0 k (bt356.2.2 != t345) a4_0 a4_1 l4_2 t346 t347 t348) else (laws_FnExactGateAsk.j0 k true a4_0 a4_1 l4_2 t346 t347 t348)) else (laws_FnExactGateAsk.j0 k true a4_0 a4_1 l4_2 t346 t347 t348)))) = some r := H
    have A21 := Aside0.mk A210
    clear A210
    replace H := Option.bind_eq_some_iff.mp H
    obtain ⟨⟨t354, t355⟩, A220, H⟩ := H
    replace H : ((impl_GateAsk.f k t352 t353 a1 t354 t355 a3 t346 t347 t348 a5).bind fun bt356 => (if bt356.1 = t343 then (if bt356.2.1 = t344 then (laws_FnExactGateAsk.j0 k (bt356.2.2 != t345) a4_0 a4_1 l4_2 t346 t347 t348) else (laws_FnExactGateAsk.j0 k true a4_0 a4_1 l4_2 t346 t347 t348)) else (laws_FnExactGateAsk.j0 k true a4_0 a4_1 l4_2 t346 t347 t348))) = some r := H
    have A22 := Aside0.mk A220
    clear A220
    replace H := Option.bind_eq_some_iff.mp H
    obtain ⟨⟨t356, t357, t358⟩, A230, H⟩ := H
    replace H : (if t356 = t343 then (if t357 = t344 then (laws_FnExactGateAsk.j0 k (t358 != t345) a4_0 a4_1 l4_2 t346 t347 t348) else (laws_FnExactGateAsk.j0 k true a4_0 a4_1 l4_2 t346 t347 t348)) else (laws_FnExactGateAsk.j0 k true a4_0 a4_1 l4_2 t346 t347 t348)) = some r := H
    have A23 := Aside0.mk A230
    clear A230
    have HC24 := Aside0.mk H
    clear H
    go_enter Try.func3, Try.ntmps3
    try go_wp2_with (first | ((with_reducible refine gate_dst (N := 6) rfl ?_); refine box_event ?hg (N := 6) ?hd (cs := #[.int .i64 a0_0, .int .i64 a0_1]) (t := 23) ?hr ?_; (case hd => rfl); (case hg => rfl); (case hr => first | (go_simp; done) | (go_simp; rfl)); intro gb330 hg w25 hbox hb; have n0_ := Aside0.mk (below_step (hb_ HB.out) hb); have n1_ := Aside0.mk (hbox); have n2_ := Aside0.mk ((by rw [hg]; exact (below_size (hb_ HB.out)) : w.heap.size ≤ gb330)); have n3_ := Aside0.mk ((by rw [hg]; exact (below_size (hb_ HB.out)) : w.heap.size ≤ gb330)); clear HB; have HB := n0_; have BK330 := n1_; have GW330 := n2_; have GE330 := n3_; clear n0_ n1_ n2_ n3_; clear hb hbox hg) | ((with_reducible refine gate_dst (N := 8) rfl ?_); refine box_event ?hg (N := 8) ?hd (cs := #[.int .i64 a2_0, .int .i64 a2_1]) (t := 25) ?hr ?_; (case hd => rfl); (case hg => rfl); (case hr => first | (go_simp; done) | (go_simp; rfl)); intro gb331 hg w26 hbox hb; have n0_ := Aside0.mk (bb_ BK330.out hb); have n1_ := Aside0.mk (below_step (hb1_ HB.out GE330.out) hb); have n2_ := Aside0.mk (hbox); have n3_ := Aside0.mk ((by rw [hg]; exact (below_size (hb1_ HB.out GE330.out)) : w.heap.size ≤ gb331)); have n4_ := Aside0.mk ((by rw [hg]; exact (below_size (hb1_ HB.out GE330.out)) : w.heap.size ≤ gb331)); have n5_ := Aside0.mk ((bl_ hg BK330.out : gb330 ≠ gb331)); have n6_ := Aside0.mk ((bg_ hg BK330.out : gb331 ≠ gb330)); clear BK330; clear HB; have BK330 := n0_; have HB := n1_; have BK331 := n2_; have GW331 := n3_; have GE331 := n4_; have NB330_331 := n5_; have NB331_330 := n6_; clear n0_ n1_ n2_ n3_ n4_ n5_ n6_; clear hb hbox hg) | ((with_reducible refine gate_dst (N := 10) rfl ?_); refine box_event ?hg (N := 10) ?hd (cs := #[.int .i64 a4_0, .int .i64 a4_1, .slice A4_2 l4_2.length c4_2]) (t := 28) ?hr ?_; (case hd => rfl); (case hg => rfl); (case hr => first | (go_simp; done) | (go_simp; rfl)); intro gb332 hg w27 hbox hb; have n0_ := Aside0.mk (bb_ BK330.out hb); have n1_ := Aside0.mk (bb_ BK331.out hb); have n2_ := Aside0.mk (below_step (hb2_ HB.out GE330.out GE331.out) hb); have n3_ := Aside0.mk (hbox); have n4_ := Aside0.mk ((by rw [hg]; exact (below_size (hb2_ HB.out GE330.out GE331.out)) : w.heap.size ≤ gb332)); have n5_ := Aside0.mk ((by rw [hg]; exact (below_size (hb2_ HB.out GE330.out GE331.out)) : w.heap.size ≤ gb332)); have n6_ := Aside0.mk ((bl_ hg BK330.out : gb330 ≠ gb332)); have n7_ := Aside0.mk ((bg_ hg BK330.out : gb332 ≠ gb330)); have n8_ := Aside0.mk ((bl_ hg BK331.out : gb331 ≠ gb332)); have n9_ := Aside0.mk ((bg_ hg BK331.out : gb332 ≠ gb331)); clear BK330; clear BK331; clear HB; have BK330 := n0_; have BK331 := n1_; have HB := n2_; have BK332 := n3_; have GW332 := n4_; have GE332 := n5_; have NB330_332 := n6_; have NB332_330 := n7_; have NB331_332 := n8_; have NB332_331 := n9_; clear n0_ n1_ n2_ n3_ n4_ n5_ n6_ n7_ n8_ n9_; clear hb hbox hg; have hnb28 := NB332_330.out; have hnc28 := NB330_332.out; have hnb29 := NB332_331.out; have hnc29 := NB331_332.out; have hcz30_0 := bc_ BK332.out 0 (.int .i64 a4_0) rfl; have hcz30_1 := bc_ BK332.out 1 (.int .i64 a4_1) rfl; have hcz30_2 := bc_ BK332.out 2 (.slice A4_2 l4_2.length c4_2) rfl; have hfz30_0 := blk_frozen BK332.out 0; have hfz30_1 := blk_frozen BK332.out 1; have hfz30_2 := blk_frozen BK332.out 2) | ((with_reducible refine gate_callee (f := 9) rfl ?_); refine goesL_ (some 23) rfl rfl Try.func9 (by kernel_rfl) rfl #[.agg #[.int .i64 a4_0, .int .i64 a4_1, .slice A4_2 l4_2.length c4_2], .int .i64 1048576] rfl arr_ ?_; (with_reducible refine (laws_szPlan.calls a4_0 a4_1 _ _ l4_2 1048576 t333 _ ?side1 ?side2 A7.out).mono ?_); (case side1 => exact kc_ (Kd.C_below HR4_2.out HB.out)); (case side2 => exact HC4_2.out); rintro e w31 ⟨rfl, hb⟩; refine ⟨_, rfl, ?_⟩; have n0_ := Aside0.mk (bb_ BK330.out hb); have n1_ := Aside0.mk (bb_ BK331.out hb); have n2_ := Aside0.mk (bb_ BK332.out hb); have n3_ := Aside0.mk (below_step (hb3_ HB.out GE330.out GE331.out GE332.out) hb); clear BK330; clear BK331; clear BK332; clear HB; have BK330 := n0_; have BK331 := n1_; have BK332 := n2_; have HB := n3_; clear n0_ n1_ n2_ n3_; (try clear hb); (try clear hb2); (try clear hk); (try clear hi)))
    have n0_ := Aside0.mk (blk_drew BK330.out)
    have n1_ := Aside0.mk (blk_drew BK331.out)
    have n2_ := Aside0.mk (blk_drew BK332.out)
    have n3_ := Aside0.mk (below_drew1 HB.out)
    clear BK330
    clear BK331
    clear BK332
    clear HB
    have BK330 := n0_
    have BK331 := n1_
    have BK332 := n2_
    have HB := n3_
    clear n0_ n1_ n2_ n3_
    refine start_ (n := 17) (S := fun w' => w'.cell? ⟨gb330, 0, none⟩ = some (.int .i64 a0_0) ∧ w'.cell? ⟨gb330, 1, none⟩ = some (.int .i64 a0_1) ∧ w'.cell? ⟨gb331, 0, none⟩ = some (.int .i64 a2_0) ∧ w'.cell? ⟨gb331, 1, none⟩ = some (.int .i64 a2_1) ∧ w'.cell? ⟨gb332, 0, none⟩ = some (.int .i64 a4_0) ∧ w'.cell? ⟨gb332, 1, none⟩ = some (.int .i64 a4_1) ∧ w'.cell? ⟨gb332, 2, none⟩ = some (.slice A4_2 l4_2.length c4_2)) (ds := []) #[false, false, false, false, false, false, false, false, false, false, false, false, false, false, false, false, false] (by kernel_rfl) rfl rfl ⟨(blk_cell BK330.out 0).trans rfl, (blk_cell BK330.out 1).trans rfl, (blk_cell BK331.out 0).trans rfl, (blk_cell BK331.out 1).trans rfl, (blk_cell BK332.out 0).trans rfl, (blk_cell BK332.out 1).trans rfl, (blk_cell BK332.out 2).trans rfl⟩ (fun hHeld => ?_); refine with_tabW laws_FnExactGateAsk.tab5 laws_FnExactGateAsk.bits5 (fun HT_ HW_ => ?_)
    generalize w31.drew = w32 at BK330 BK331 BK332 HB hHeld ⊢
    refine pure_ (i := 2) (N := some 29) (v := ?_) (a' := ?_) #[false, false, true, false, false, false, false, false, false, false, false, false, false, false, false, false, false] rfl rfl (any_of HT_.out (by kernel_rfl)) (fun _ _ _ h => h) (Or.inl ⟨by rfl, ?_⟩) ?_ ?_
    rotate_left
    · intro w'
      go_simp
      with_reducible rfl
    rotate_left
    · simp only [Act.put, List.setIfInBounds_toArray, List.set_cons_zero, List.set_cons_succ, i64_w, i32_w]
      rfl
    refine pure_ (i := 5) (N := some 32) (v := ?_) (a' := ?_) #[false, false, true, false, false, true, false, false, false, false, false, false, false, false, false, false, false] rfl rfl (any_of HT_.out (by kernel_rfl)) (fun _ _ _ h => h) (Or.inl ⟨by rfl, ?_⟩) ?_ ?_
    rotate_left
    · intro w'
      go_simp
      with_reducible rfl
    rotate_left
    · simp only [Act.put, List.setIfInBounds_toArray, List.set_cons_zero, List.set_cons_succ, i64_w, i32_w]
      rfl
    refine pure_ (i := 8) (N := some 35) (v := ?_) (a' := ?_) #[false, false, true, false, false, true, false, false, true, false, false, false, false, false, false, false, false] rfl rfl (any_of HT_.out (by kernel_rfl)) (fun _ _ _ h => h) (Or.inl ⟨by rfl, ?_⟩) ?_ ?_
    rotate_left
    · intro w'
      go_simp
      with_reducible rfl
    rotate_left
    · simp only [Act.put, List.setIfInBounds_toArray, List.set_cons_zero, List.set_cons_succ, i64_w, i32_w]
      rfl
    refine take_ (i := 0) (N := some 27) (v := ?_) (a' := ?_) #[true, false, true, false, false, true, false, false, true, false, false, false, false, false, false, false, false] rfl rfl (take_ofW HT_.out HW_.out (by kernel_rfl)) (fun _ _ _ h => h) (Or.inl ⟨by rfl, ?_⟩) hHeld ?_ ?_
    rotate_left
    · rintro w' ⟨s0, s1, s2, s3, s4, s5, s6⟩
      go_simp
      with_reducible rfl
    rotate_left
    · simp only [Act.put, List.setIfInBounds_toArray, List.set_cons_zero, List.set_cons_succ, i64_w, i32_w]
      rfl
    refine take_ (i := 3) (N := some 30) (v := ?_) (a' := ?_) #[true, false, true, true, false, true, false, false, true, false, false, false, false, false, false, false, false] rfl rfl (take_ofW HT_.out HW_.out (by kernel_rfl)) (fun _ _ _ h => h) (Or.inl ⟨by rfl, ?_⟩) hHeld ?_ ?_
    rotate_left
    · rintro w' ⟨s0, s1, s2, s3, s4, s5, s6⟩
      go_simp
      with_reducible rfl
    rotate_left
    · simp only [Act.put, List.setIfInBounds_toArray, List.set_cons_zero, List.set_cons_succ, i64_w, i32_w]
      rfl
    refine take_ (i := 6) (N := some 33) (v := ?_) (a' := ?_) #[true, false, true, true, false, true, true, false, true, false, false, false, false, false, false, false, false] rfl rfl (take_ofW HT_.out HW_.out (by kernel_rfl)) (fun _ _ _ h => h) (Or.inl ⟨by rfl, ?_⟩) hHeld ?_ ?_
    rotate_left
    · rintro w' ⟨s0, s1, s2, s3, s4, s5, s6⟩
      go_simp
      with_reducible rfl
    rotate_left
    · simp only [Act.put, List.setIfInBounds_toArray, List.set_cons_zero, List.set_cons_succ, i64_w, i32_w]
      rfl
    refine one_ (i := 1) (N := some 28) #[true, true, true, true, false, true, true, false, true, false, false, false, false, false, false, false, false] rfl rfl (one_of HT_.out (by kernel_rfl)) (by decide) (fun K hK => ?_)
    refine goes_ Try.func11 (by kernel_rfl) rfl #[.agg #[.int .i64 a0_0, .int .i64 a0_1]] (by rfl) rfl rfl arr_ ?_
    with_reducible refine (laws_toIval.calls a0_0 a0_1 t334 t335 _ A16.out).mono ?_
    rintro e w33 ⟨rfl, hb⟩
    refine ⟨_, rfl, ?_⟩
    have n0_ := Aside0.mk (bb_ BK330.out hb)
    have n1_ := Aside0.mk (bb_ BK331.out hb)
    have n2_ := Aside0.mk (bb_ BK332.out hb)
    have n3_ := Aside0.mk (below_step (hb3_ HB.out GE330.out GE331.out GE332.out) hb)
    clear BK330
    clear BK331
    clear BK332
    clear HB
    have BK330 := n0_
    have BK331 := n1_
    have BK332 := n2_
    have HB := n3_
    clear n0_ n1_ n2_ n3_
    (try clear hb)
    (try clear hb2)
    (try clear hk)
    (try clear hi)
    refine hK.out _ _ ⟨(blk_cell BK330.out 0).trans rfl, (blk_cell BK330.out 1).trans rfl, (blk_cell BK331.out 0).trans rfl, (blk_cell BK331.out 1).trans rfl, (blk_cell BK332.out 0).trans rfl, (blk_cell BK332.out 1).trans rfl, (blk_cell BK332.out 2).trans rfl⟩ (fun hHeld => ?_)
    clear hK K
    refine norm_ (a' := ?_) ?_ ?_
    rotate_left
    · show Act.put _ (some 28) _ = _
      simp only [Act.put, List.setIfInBounds_toArray, List.set_cons_zero, List.set_cons_succ, i64_w, i32_w]
      rfl
    refine one_ (i := 4) (N := some 31) #[true, true, true, true, true, true, true, false, true, false, false, false, false, false, false, false, false] rfl rfl (one_of HT_.out (by kernel_rfl)) (by decide) (fun K hK => ?_)
    refine goes_ Try.func12 (by kernel_rfl) rfl #[.agg #[.int .i64 a2_0, .int .i64 a2_1]] (by rfl) rfl rfl arr_ ?_
    with_reducible refine (laws_toDrift.calls a2_0 a2_1 t336 t337 _ A17.out).mono ?_
    rintro e w34 ⟨rfl, hb⟩
    refine ⟨_, rfl, ?_⟩
    have n0_ := Aside0.mk (bb_ BK330.out hb)
    have n1_ := Aside0.mk (bb_ BK331.out hb)
    have n2_ := Aside0.mk (bb_ BK332.out hb)
    have n3_ := Aside0.mk (below_step (hb3_ HB.out GE330.out GE331.out GE332.out) hb)
    clear BK330
    clear BK331
    clear BK332
    clear HB
    have BK330 := n0_
    have BK331 := n1_
    have BK332 := n2_
    have HB := n3_
    clear n0_ n1_ n2_ n3_
    (try clear hb)
    (try clear hb2)
    (try clear hk)
    (try clear hi)
    refine hK.out _ _ ⟨(blk_cell BK330.out 0).trans rfl, (blk_cell BK330.out 1).trans rfl, (blk_cell BK331.out 0).trans rfl, (blk_cell BK331.out 1).trans rfl, (blk_cell BK332.out 0).trans rfl, (blk_cell BK332.out 1).trans rfl, (blk_cell BK332.out 2).trans rfl⟩ (fun hHeld => ?_)
    clear hK K
    refine norm_ (a' := ?_) ?_ ?_
    rotate_left
    · show Act.put _ (some 31) _ = _
      simp only [Act.put, List.setIfInBounds_toArray, List.set_cons_zero, List.set_cons_succ, i64_w, i32_w]
      rfl
    refine one_ (i := 7) (N := some 34) #[true, true, true, true, true, true, true, true, true, false, false, false, false, false, false, false, false] rfl rfl (one_of HT_.out (by kernel_rfl)) (by decide) (fun K hK => ?_)
    refine goes_ Try.func13 (by kernel_rfl) rfl #[.agg #[.int .i64 a4_0, .int .i64 a4_1, .slice A4_2 l4_2.length c4_2]] (by rfl) rfl rfl arr_ ?_
    with_reducible refine (laws_toPlan.calls k a4_0 a4_1 _ _ l4_2 t338 t339 t340 _ ?side1 ?side2 A18.out).mono ?_
    (case side1 => exact kc_ (Kd.C_below HR4_2.out HB.out))
    (case side2 => exact HC4_2.out)
    rintro e w35 ⟨v341, rfl, ho0, hb⟩
    refine ⟨_, rfl, ?_⟩
    have n0_ := Aside0.mk (Kd.R_lower ho0 (below_size (hb3_ HB.out GE330.out GE331.out GE332.out)))
    have n1_ := Aside0.mk (bb_ BK330.out hb)
    have n2_ := Aside0.mk (bb_ BK331.out hb)
    have n3_ := Aside0.mk (bb_ BK332.out hb)
    have n4_ := Aside0.mk (below_step (hb3_ HB.out GE330.out GE331.out GE332.out) hb)
    clear BK330
    clear BK331
    clear BK332
    clear HB
    have HO342 := n0_
    have BK330 := n1_
    have BK331 := n2_
    have BK332 := n3_
    have HB := n4_
    clear n0_ n1_ n2_ n3_ n4_
    (try clear hb)
    (try clear hb2)
    (try clear hk)
    (try clear hi)
    (try clear ho0)
    obtain ⟨Ao36, co36, eo36⟩ := Kd.R_slice HO342.out
    (first | subst eo36 | (injection eo36 with f1_ f2_ f3_; have f4_ := f1_.symm; have f5_ := f3_.symm; clear f1_ f2_ f3_; subst f4_; subst f5_))
    refine hK.out _ _ ⟨(blk_cell BK330.out 0).trans rfl, (blk_cell BK330.out 1).trans rfl, (blk_cell BK331.out 0).trans rfl, (blk_cell BK331.out 1).trans rfl, (blk_cell BK332.out 0).trans rfl, (blk_cell BK332.out 1).trans rfl, (blk_cell BK332.out 2).trans rfl⟩ (fun hHeld => ?_)
    clear hK K
    refine norm_ (a' := ?_) ?_ ?_
    rotate_left
    · show Act.put _ (some 34) _ = _
      simp only [Act.put, List.setIfInBounds_toArray, List.set_cons_zero, List.set_cons_succ, i64_w, i32_w]
      rfl
    refine one_ (i := 9) (N := some 36) #[true, true, true, true, true, true, true, true, true, true, false, false, false, false, false, false, false] rfl rfl (one_of HT_.out (by kernel_rfl)) (by decide) (fun K hK => ?_)
    refine goes_ Try.func10 (by kernel_rfl) rfl #[.agg #[.int .i64 t334, .int .i64 t335], .bool a1, .agg #[.int .i64 t336, .int .i64 t337], .int .i64 a3, .agg #[.int .i64 t338, .int .i64 t339, .slice Ao36 t340.length co36], .int .i64 a5] (by rfl) rfl rfl arr_ ?_
    with_reducible refine (spec_GateAsk.calls k t334 t335 a1 t336 t337 a3 t338 t339 _ _ t340 a5 t343 t344 t345 _ ?side1 ?side2 A19.out).mono ?_
    (case side1 => repeat (first | exact (Kd.R_reads' HO342.out).2.2 | (with_reducible refine Kd.C_alloc ?_ _) | (with_reducible refine Kd.C_drewN ?_ _) | (with_reducible refine Kd.C_drew ?_)))
    (case side2 => exact (Kd.R_reads' HO342.out).2.1)
    rintro e w37 ⟨rfl, hb⟩
    refine ⟨_, rfl, ?_⟩
    have n0_ := Aside0.mk (Kd.R_below (by (with_reducible repeat (first | apply Kd.R_alloc | apply Kd.R_drewN | apply Kd.R_drew)); exact HO342.out) hb)
    have n1_ := Aside0.mk (bb_ BK330.out hb)
    have n2_ := Aside0.mk (bb_ BK331.out hb)
    have n3_ := Aside0.mk (bb_ BK332.out hb)
    have n4_ := Aside0.mk (below_step (hb3_ HB.out GE330.out GE331.out GE332.out) hb)
    clear HO342
    clear BK330
    clear BK331
    clear BK332
    clear HB
    have HO342 := n0_
    have BK330 := n1_
    have BK331 := n2_
    have BK332 := n3_
    have HB := n4_
    clear n0_ n1_ n2_ n3_ n4_
    (try clear hb)
    (try clear hb2)
    (try clear hk)
    (try clear hi)
    refine hK.out _ _ ⟨(blk_cell BK330.out 0).trans rfl, (blk_cell BK330.out 1).trans rfl, (blk_cell BK331.out 0).trans rfl, (blk_cell BK331.out 1).trans rfl, (blk_cell BK332.out 0).trans rfl, (blk_cell BK332.out 1).trans rfl, (blk_cell BK332.out 2).trans rfl⟩ (fun hHeld => ?_)
    clear hK K
    refine norm_ (a' := ?_) ?_ ?_
    rotate_left
    · show Act.put _ (some 36) _ = _
      simp only [Act.put, List.setIfInBounds_toArray, List.set_cons_zero, List.set_cons_succ, i64_w, i32_w]
      rfl
    refine pure_ (i := 10) (N := some 26) (v := ?_) (a' := ?_) #[true, true, true, true, true, true, true, true, true, true, true, false, false, false, false, false, false] rfl rfl (any_of HT_.out (by kernel_rfl)) (fun _ _ _ h => h) (Or.inl ⟨by rfl, ?_⟩) ?_ ?_
    rotate_left
    · intro w'
      go_simp
      with_reducible rfl
    rotate_left
    · simp only [Act.put, List.setIfInBounds_toArray, List.set_cons_zero, List.set_cons_succ, i64_w, i32_w]
      rfl
    refine pure_ (i := 11) (N := some 37) (v := ?_) (a' := ?_) #[true, true, true, true, true, true, true, true, true, true, true, true, false, false, false, false, false] rfl rfl (any_of HT_.out (by kernel_rfl)) (fun _ _ _ h => h) (Or.inl ⟨by rfl, ?_⟩) ?_ ?_
    rotate_left
    · intro w'
      go_simp
      with_reducible rfl
    rotate_left
    · simp only [Act.put, List.setIfInBounds_toArray, List.set_cons_zero, List.set_cons_succ, i64_w, i32_w]
      rfl
    refine pure_ (i := 12) (N := some 38) (v := ?_) (a' := ?_) #[true, true, true, true, true, true, true, true, true, true, true, true, true, false, false, false, false] rfl rfl (any_of HT_.out (by kernel_rfl)) (fun _ _ _ h => h) (Or.inl ⟨by rfl, ?_⟩) ?_ ?_
    rotate_left
    · intro w'
      go_simp
      with_reducible rfl
    rotate_left
    · simp only [Act.put, List.setIfInBounds_toArray, List.set_cons_zero, List.set_cons_succ, i64_w, i32_w]
      rfl
    refine pure_ (i := 13) (N := some 39) (v := ?_) (a' := ?_) #[true, true, true, true, true, true, true, true, true, true, true, true, true, true, false, false, false] rfl rfl (any_of HT_.out (by kernel_rfl)) (fun _ _ _ h => h) (Or.inl ⟨by rfl, ?_⟩) ?_ ?_
    rotate_left
    · intro w'
      go_simp
      with_reducible rfl
    rotate_left
    · simp only [Act.put, List.setIfInBounds_toArray, List.set_cons_zero, List.set_cons_succ, i64_w, i32_w]
      rfl
    refine pure_ (i := 14) (N := some 14) (v := ?_) (a' := ?_) #[true, true, true, true, true, true, true, true, true, true, true, true, true, true, true, false, false] rfl rfl (any_of HT_.out (by kernel_rfl)) (fun _ _ _ h => h) (Or.inl ⟨by rfl, ?_⟩) ?_ ?_
    rotate_left
    · intro w'
      go_simp
      with_reducible rfl
    rotate_left
    · simp only [Act.put, List.setIfInBounds_toArray, List.set_cons_zero, List.set_cons_succ, i64_w, i32_w]
      rfl
    refine pure_ (i := 15) (N := some 15) (v := ?_) (a' := ?_) #[true, true, true, true, true, true, true, true, true, true, true, true, true, true, true, true, false] rfl rfl (any_of HT_.out (by kernel_rfl)) (fun _ _ _ h => h) (Or.inl ⟨by rfl, ?_⟩) ?_ ?_
    rotate_left
    · intro w'
      go_simp
      with_reducible rfl
    rotate_left
    · simp only [Act.put, List.setIfInBounds_toArray, List.set_cons_zero, List.set_cons_succ, i64_w, i32_w]
      rfl
    refine pure_ (i := 16) (N := some 16) (v := ?_) (a' := ?_) #[true, true, true, true, true, true, true, true, true, true, true, true, true, true, true, true, true] rfl rfl (any_of HT_.out (by kernel_rfl)) (fun _ _ _ h => h) (Or.inl ⟨by rfl, ?_⟩) ?_ ?_
    rotate_left
    · intro w'
      go_simp
      with_reducible rfl
    rotate_left
    · simp only [Act.put, List.setIfInBounds_toArray, List.set_cons_zero, List.set_cons_succ, i64_w, i32_w]
      rfl
    refine done_ (done_of HT_.out (by kernel_rfl)) ?_
    have hcz38_0 := bc_ BK332.out 0 (.int .i64 a4_0) rfl
    have hcz38_1 := bc_ BK332.out 1 (.int .i64 a4_1) rfl
    have hcz38_2 := bc_ BK332.out 2 (.slice A4_2 l4_2.length c4_2) rfl
    have hfz38_0 := blk_frozen BK332.out 0
    have hfz38_1 := blk_frozen BK332.out 1
    have hfz38_2 := blk_frozen BK332.out 2
    try go_wp2_with (first | ((with_reducible refine gate_callee (f := 13) rfl ?_); refine goesL_ (some 41) rfl rfl Try.func13 (by kernel_rfl) rfl #[.agg #[.int .i64 a4_0, .int .i64 a4_1, .slice A4_2 l4_2.length c4_2]] rfl arr_ ?_; (with_reducible refine (laws_toPlan.calls k a4_0 a4_1 _ _ l4_2 t346 t347 t348 _ ?side1 ?side2 A20.out).mono ?_); (case side1 => exact kc_ (Kd.C_below HR4_2.out HB.out)); (case side2 => exact HC4_2.out); rintro e w39 ⟨v349, rfl, ho0, hb⟩; refine ⟨_, rfl, ?_⟩; have n0_ := Aside0.mk (Kd.R_elder' (by (with_reducible repeat (first | apply Kd.R_alloc | apply Kd.R_drewN | apply Kd.R_drew)); exact HO342.out) (Kd.R_base ho0) hb); have n1_ := Aside0.mk (Kd.R_lower (Kd.R_new' ho0 (Kd.R_lt (by (with_reducible repeat (first | apply Kd.R_alloc | apply Kd.R_drewN | apply Kd.R_drew)); exact HO342.out))) (below_size (hb3_ HB.out GE330.out GE331.out GE332.out))); have n2_ := Aside0.mk (bb_ BK330.out hb); have n3_ := Aside0.mk (bb_ BK331.out hb); have n4_ := Aside0.mk (bb_ BK332.out hb); have n5_ := Aside0.mk (below_step (hb3_ HB.out GE330.out GE331.out GE332.out) hb); clear HO342; clear BK330; clear BK331; clear BK332; clear HB; have HO342 := n0_; have HO350 := n1_; have BK330 := n2_; have BK331 := n3_; have BK332 := n4_; have HB := n5_; clear n0_ n1_ n2_ n3_ n4_ n5_; (try clear hb); (try clear hb2); (try clear hk); (try clear hi); (try clear ho0)) | ((with_reducible refine gate_dst (N := 17) rfl ?_); refine box_event ?hg (N := 17) ?hd (cs := #[.int .i64 0, .int .i64 0, .slice none 0 0]) (t := 38) ?hr ?_; (case hd => rfl); (case hg => rfl); (case hr => first | (go_simp; done) | (go_simp; rfl)); intro gb351 hg w40 hbox hb; have n0_ := Aside0.mk (Kd.R_below (by (with_reducible repeat (first | apply Kd.R_alloc | apply Kd.R_drewN | apply Kd.R_drew)); exact HO342.out) hb); have n1_ := Aside0.mk (Kd.R_below (by (with_reducible repeat (first | apply Kd.R_alloc | apply Kd.R_drewN | apply Kd.R_drew)); exact HO350.out) hb); have n2_ := Aside0.mk (bb_ BK330.out hb); have n3_ := Aside0.mk (bb_ BK331.out hb); have n4_ := Aside0.mk (bb_ BK332.out hb); have n5_ := Aside0.mk (below_step (hb3_ HB.out GE330.out GE331.out GE332.out) hb); have n6_ := Aside0.mk (hbox); have n7_ := Aside0.mk ((by rw [hg]; exact (below_size (hb3_ HB.out GE330.out GE331.out GE332.out)) : w.heap.size ≤ gb351)); have n8_ := Aside0.mk ((by rw [hg]; exact (below_size (hb3_ HB.out GE330.out GE331.out GE332.out)) : w.heap.size ≤ gb351)); have n9_ := Aside0.mk ((bl_ hg BK330.out : gb330 ≠ gb351)); have n10_ := Aside0.mk ((bg_ hg BK330.out : gb351 ≠ gb330)); have n11_ := Aside0.mk ((bl_ hg BK331.out : gb331 ≠ gb351)); have n12_ := Aside0.mk ((bg_ hg BK331.out : gb351 ≠ gb331)); have n13_ := Aside0.mk ((bl_ hg BK332.out : gb332 ≠ gb351)); have n14_ := Aside0.mk ((bg_ hg BK332.out : gb351 ≠ gb332)); clear HO342; clear HO350; clear BK330; clear BK331; clear BK332; clear HB; have HO342 := n0_; have HO350 := n1_; have BK330 := n2_; have BK331 := n3_; have BK332 := n4_; have HB := n5_; have BK351 := n6_; have GW351 := n7_; have GE351 := n8_; have NB330_351 := n9_; have NB351_330 := n10_; have NB331_351 := n11_; have NB351_331 := n12_; have NB332_351 := n13_; have NB351_332 := n14_; clear n0_ n1_ n2_ n3_ n4_ n5_ n6_ n7_ n8_ n9_ n10_ n11_ n12_ n13_ n14_; clear hb hbox hg; have hnb41 := NB351_330.out; have hnc41 := NB330_351.out; have hnb42 := NB351_331.out; have hnc42 := NB331_351.out; have hnb43 := NB351_332.out; have hnc43 := NB332_351.out; have hcz44_0 := bc_ BK351.out 0 (.int .i64 0) rfl; have hcz44_1 := bc_ BK351.out 1 (.int .i64 0) rfl; have hcz44_2 := bc_ BK351.out 2 (.slice none 0 0) rfl; have hfz44_0 := blk_frozen BK351.out 0; have hfz44_1 := blk_frozen BK351.out 1; have hfz44_2 := blk_frozen BK351.out 2; obtain ⟨Ao45, co45, eo45⟩ := Kd.R_slice HO350.out; subst eo45))
    have n0_ : Aside0 (Kd.R k55 55 (((w40.setCell ⟨gb351, 0, none⟩ (.int .i64 t346)).setCell ⟨gb351, 1, none⟩ (.int .i64 t347)).setCell ⟨gb351, 2, none⟩ (.slice Ao45 t348.length co45)) w.heap.size (fun k_ => some k_ ≠ (.slice Ao45 t348.length co45 : Value).ownBlock) (.slice Ao36 t340.length co36) t340) := ⟨by (with_reducible repeat (first | apply Kd.R_alloc | apply Kd.R_drewN | apply Kd.R_drew)); exact Kd.R_mono (Kd.R_far (p := ⟨gb351, 2, none⟩) (Kd.R_far (p := ⟨gb351, 1, none⟩) (Kd.R_far (p := ⟨gb351, 0, none⟩) (Kd.R_types HO342.out BK351.out (by decide)) (fun _ hk => hk.2) (.int .i64 t346)) (fun _ hk => hk.2) (.int .i64 t347)) (fun _ hk => hk.2) (.slice Ao45 t348.length co45)) (fun _ hk => hk.1.2)⟩
    have n1_ : Aside0 (Kd.R k55 55 (((w40.setCell ⟨gb351, 0, none⟩ (.int .i64 t346)).setCell ⟨gb351, 1, none⟩ (.int .i64 t347)).setCell ⟨gb351, 2, none⟩ (.slice Ao45 t348.length co45)) w.heap.size (fun k_ => some k_ ≠ (.slice Ao36 t340.length co36 : Value).ownBlock) (.slice Ao45 t348.length co45) t348) := ⟨by (with_reducible repeat (first | apply Kd.R_alloc | apply Kd.R_drewN | apply Kd.R_drew)); exact Kd.R_mono (Kd.R_far (p := ⟨gb351, 2, none⟩) (Kd.R_far (p := ⟨gb351, 1, none⟩) (Kd.R_far (p := ⟨gb351, 0, none⟩) (Kd.R_types HO350.out BK351.out (by decide)) (fun _ hk => hk.2) (.int .i64 t346)) (fun _ hk => hk.2) (.int .i64 t347)) (fun _ hk => hk.2) (.slice Ao45 t348.length co45)) (fun _ hk => hk.1.2)⟩
    have n2_ : Aside0 ((((w40.setCell ⟨gb351, 0, none⟩ (.int .i64 t346)).setCell ⟨gb351, 1, none⟩ (.int .i64 t347)).setCell ⟨gb351, 2, none⟩ (.slice Ao45 t348.length co45)).heap[gb330]? = some (.cells #[.int .i64 a0_0, .int .i64 a0_1] 23 (0, 0))) := ⟨by (with_reducible repeat (first | refine blk_drewN ?_ _ | refine blk_drew ?_ | refine blk_alloc ?_ _)); refine blk_far ?_ NB330_351.out _; (with_reducible repeat (first | refine blk_drewN ?_ _ | refine blk_drew ?_ | refine blk_alloc ?_ _)); refine blk_far ?_ NB330_351.out _; (with_reducible repeat (first | refine blk_drewN ?_ _ | refine blk_drew ?_ | refine blk_alloc ?_ _)); refine blk_far ?_ NB330_351.out _; (with_reducible repeat (first | refine blk_drewN ?_ _ | refine blk_drew ?_ | refine blk_alloc ?_ _)); exact BK330.out⟩
    have n3_ : Aside0 ((((w40.setCell ⟨gb351, 0, none⟩ (.int .i64 t346)).setCell ⟨gb351, 1, none⟩ (.int .i64 t347)).setCell ⟨gb351, 2, none⟩ (.slice Ao45 t348.length co45)).heap[gb331]? = some (.cells #[.int .i64 a2_0, .int .i64 a2_1] 25 (0, 0))) := ⟨by (with_reducible repeat (first | refine blk_drewN ?_ _ | refine blk_drew ?_ | refine blk_alloc ?_ _)); refine blk_far ?_ NB331_351.out _; (with_reducible repeat (first | refine blk_drewN ?_ _ | refine blk_drew ?_ | refine blk_alloc ?_ _)); refine blk_far ?_ NB331_351.out _; (with_reducible repeat (first | refine blk_drewN ?_ _ | refine blk_drew ?_ | refine blk_alloc ?_ _)); refine blk_far ?_ NB331_351.out _; (with_reducible repeat (first | refine blk_drewN ?_ _ | refine blk_drew ?_ | refine blk_alloc ?_ _)); exact BK331.out⟩
    have n4_ : Aside0 ((((w40.setCell ⟨gb351, 0, none⟩ (.int .i64 t346)).setCell ⟨gb351, 1, none⟩ (.int .i64 t347)).setCell ⟨gb351, 2, none⟩ (.slice Ao45 t348.length co45)).heap[gb332]? = some (.cells #[.int .i64 a4_0, .int .i64 a4_1, .slice A4_2 l4_2.length c4_2] 28 (0, 0))) := ⟨by (with_reducible repeat (first | refine blk_drewN ?_ _ | refine blk_drew ?_ | refine blk_alloc ?_ _)); refine blk_far ?_ NB332_351.out _; (with_reducible repeat (first | refine blk_drewN ?_ _ | refine blk_drew ?_ | refine blk_alloc ?_ _)); refine blk_far ?_ NB332_351.out _; (with_reducible repeat (first | refine blk_drewN ?_ _ | refine blk_drew ?_ | refine blk_alloc ?_ _)); refine blk_far ?_ NB332_351.out _; (with_reducible repeat (first | refine blk_drewN ?_ _ | refine blk_drew ?_ | refine blk_alloc ?_ _)); exact BK332.out⟩
    have n5_ : Aside0 ((((w40.setCell ⟨gb351, 0, none⟩ (.int .i64 t346)).setCell ⟨gb351, 1, none⟩ (.int .i64 t347)).setCell ⟨gb351, 2, none⟩ (.slice Ao45 t348.length co45)).heap[gb351]? = some (.cells #[.int .i64 t346, .int .i64 t347, .slice Ao45 t348.length co45] 38 (0, 0))) := ⟨by (with_reducible repeat (first | refine blk_drewN ?_ _ | refine blk_drew ?_ | refine blk_alloc ?_ _)); refine blk_put (cs := #[.int .i64 t346, .int .i64 t347, .slice none 0 0]) ?_ 2 _ rfl; (with_reducible repeat (first | refine blk_drewN ?_ _ | refine blk_drew ?_ | refine blk_alloc ?_ _)); refine blk_put (cs := #[.int .i64 t346, .int .i64 0, .slice none 0 0]) ?_ 1 _ rfl; (with_reducible repeat (first | refine blk_drewN ?_ _ | refine blk_drew ?_ | refine blk_alloc ?_ _)); refine blk_put (cs := #[.int .i64 0, .int .i64 0, .slice none 0 0]) ?_ 0 _ rfl; (with_reducible repeat (first | refine blk_drewN ?_ _ | refine blk_drew ?_ | refine blk_alloc ?_ _)); exact BK351.out⟩
    have n6_ : Aside0 (Below w.heap.size w (((w40.setCell ⟨gb351, 0, none⟩ (.int .i64 t346)).setCell ⟨gb351, 1, none⟩ (.int .i64 t347)).setCell ⟨gb351, 2, none⟩ (.slice Ao45 t348.length co45))) := ⟨hb4_ HB.out GE330.out GE331.out GE332.out GE351.out⟩
    (try clear HO342)
    (try clear HO350)
    (try clear BK330)
    (try clear BK331)
    (try clear BK332)
    (try clear BK351)
    (try clear HB)
    generalize (((w40.setCell ⟨gb351, 0, none⟩ (.int .i64 t346)).setCell ⟨gb351, 1, none⟩ (.int .i64 t347)).setCell ⟨gb351, 2, none⟩ (.slice Ao45 t348.length co45)) = w46 at n0_ n1_ n2_ n3_ n4_ n5_ n6_ ⊢
    have HO342 := n0_
    have HO350 := n1_
    have BK330 := n2_
    have BK331 := n3_
    have BK332 := n4_
    have BK351 := n5_
    have HB := n6_
    clear n0_ n1_ n2_ n3_ n4_ n5_ n6_
    have n0_ := Aside0.mk (Kd.R_drew HO342.out)
    have n1_ := Aside0.mk (Kd.R_drew HO350.out)
    have n2_ := Aside0.mk (blk_drew BK330.out)
    have n3_ := Aside0.mk (blk_drew BK331.out)
    have n4_ := Aside0.mk (blk_drew BK332.out)
    have n5_ := Aside0.mk (blk_drew BK351.out)
    have n6_ := Aside0.mk (below_drew1 HB.out)
    clear HO342
    clear HO350
    clear BK330
    clear BK331
    clear BK332
    clear BK351
    clear HB
    have HO342 := n0_
    have HO350 := n1_
    have BK330 := n2_
    have BK331 := n3_
    have BK332 := n4_
    have BK351 := n5_
    have HB := n6_
    clear n0_ n1_ n2_ n3_ n4_ n5_ n6_
    refine start_ (n := 16) (S := fun w' => w'.cell? ⟨gb330, 0, none⟩ = some (.int .i64 a0_0) ∧ w'.cell? ⟨gb330, 1, none⟩ = some (.int .i64 a0_1) ∧ w'.cell? ⟨gb331, 0, none⟩ = some (.int .i64 a2_0) ∧ w'.cell? ⟨gb331, 1, none⟩ = some (.int .i64 a2_1) ∧ w'.cell? ⟨gb351, 0, none⟩ = some (.int .i64 t346) ∧ w'.cell? ⟨gb351, 1, none⟩ = some (.int .i64 t347) ∧ w'.cell? ⟨gb351, 2, none⟩ = some (.slice Ao45 t348.length co45)) (ds := []) #[false, false, false, false, false, false, false, false, false, false, false, false, false, false, false, false] (by kernel_rfl) rfl rfl ⟨(blk_cell BK330.out 0).trans rfl, (blk_cell BK330.out 1).trans rfl, (blk_cell BK331.out 0).trans rfl, (blk_cell BK331.out 1).trans rfl, (blk_cell BK351.out 0).trans rfl, (blk_cell BK351.out 1).trans rfl, (blk_cell BK351.out 2).trans rfl⟩ (fun hHeld => ?_); refine with_tabW laws_FnExactGateAsk.tab7 laws_FnExactGateAsk.bits7 (fun HT_ HW_ => ?_)
    generalize w46.drew = w47 at HO342 HO350 BK330 BK331 BK332 BK351 HB hHeld ⊢
    refine pure_ (i := 2) (N := some 45) (v := ?_) (a' := ?_) #[false, false, true, false, false, false, false, false, false, false, false, false, false, false, false, false] rfl rfl (any_of HT_.out (by kernel_rfl)) (fun _ _ _ h => h) (Or.inl ⟨by rfl, ?_⟩) ?_ ?_
    rotate_left
    · intro w'
      go_simp
      with_reducible rfl
    rotate_left
    · simp only [Act.put, List.setIfInBounds_toArray, List.set_cons_zero, List.set_cons_succ, i64_w, i32_w]
      rfl
    refine pure_ (i := 5) (N := some 48) (v := ?_) (a' := ?_) #[false, false, true, false, false, true, false, false, false, false, false, false, false, false, false, false] rfl rfl (any_of HT_.out (by kernel_rfl)) (fun _ _ _ h => h) (Or.inl ⟨by rfl, ?_⟩) ?_ ?_
    rotate_left
    · intro w'
      go_simp
      with_reducible rfl
    rotate_left
    · simp only [Act.put, List.setIfInBounds_toArray, List.set_cons_zero, List.set_cons_succ, i64_w, i32_w]
      rfl
    refine pure_ (i := 7) (N := some 50) (v := ?_) (a' := ?_) #[false, false, true, false, false, true, false, true, false, false, false, false, false, false, false, false] rfl rfl (any_of HT_.out (by kernel_rfl)) (fun _ _ _ h => h) (Or.inl ⟨by rfl, ?_⟩) ?_ ?_
    rotate_left
    · intro w'
      go_simp
      with_reducible rfl
    rotate_left
    · simp only [Act.put, List.setIfInBounds_toArray, List.set_cons_zero, List.set_cons_succ, i64_w, i32_w]
      rfl
    refine take_ (i := 0) (N := some 43) (v := ?_) (a' := ?_) #[true, false, true, false, false, true, false, true, false, false, false, false, false, false, false, false] rfl rfl (take_ofW HT_.out HW_.out (by kernel_rfl)) (fun _ _ _ h => h) (Or.inl ⟨by rfl, ?_⟩) hHeld ?_ ?_
    rotate_left
    · rintro w' ⟨s0, s1, s2, s3, s4, s5, s6⟩
      go_simp
      with_reducible rfl
    rotate_left
    · simp only [Act.put, List.setIfInBounds_toArray, List.set_cons_zero, List.set_cons_succ, i64_w, i32_w]
      rfl
    refine take_ (i := 3) (N := some 46) (v := ?_) (a' := ?_) #[true, false, true, true, false, true, false, true, false, false, false, false, false, false, false, false] rfl rfl (take_ofW HT_.out HW_.out (by kernel_rfl)) (fun _ _ _ h => h) (Or.inl ⟨by rfl, ?_⟩) hHeld ?_ ?_
    rotate_left
    · rintro w' ⟨s0, s1, s2, s3, s4, s5, s6⟩
      go_simp
      with_reducible rfl
    rotate_left
    · simp only [Act.put, List.setIfInBounds_toArray, List.set_cons_zero, List.set_cons_succ, i64_w, i32_w]
      rfl
    refine take_ (i := 6) (N := some 49) (v := ?_) (a' := ?_) #[true, false, true, true, false, true, true, true, false, false, false, false, false, false, false, false] rfl rfl (take_ofW HT_.out HW_.out (by kernel_rfl)) (fun _ _ _ h => h) (Or.inl ⟨by rfl, ?_⟩) hHeld ?_ ?_
    rotate_left
    · rintro w' ⟨s0, s1, s2, s3, s4, s5, s6⟩
      go_simp
      with_reducible rfl
    rotate_left
    · simp only [Act.put, List.setIfInBounds_toArray, List.set_cons_zero, List.set_cons_succ, i64_w, i32_w]
      rfl
    refine one_ (i := 1) (N := some 44) #[true, true, true, true, false, true, true, true, false, false, false, false, false, false, false, false] rfl rfl (one_of HT_.out (by kernel_rfl)) (by decide) (fun K hK => ?_)
    refine goes_ Try.func11 (by kernel_rfl) rfl #[.agg #[.int .i64 a0_0, .int .i64 a0_1]] (by rfl) rfl rfl arr_ ?_
    with_reducible refine (laws_toIval.calls a0_0 a0_1 t352 t353 _ A21.out).mono ?_
    rintro e w48 ⟨rfl, hb⟩
    refine ⟨_, rfl, ?_⟩
    have n0_ := Aside0.mk (Kd.R_below (by (with_reducible repeat (first | apply Kd.R_alloc | apply Kd.R_drewN | apply Kd.R_drew)); exact HO342.out) hb)
    have n1_ := Aside0.mk (Kd.R_below (by (with_reducible repeat (first | apply Kd.R_alloc | apply Kd.R_drewN | apply Kd.R_drew)); exact HO350.out) hb)
    have n2_ := Aside0.mk (bb_ BK330.out hb)
    have n3_ := Aside0.mk (bb_ BK331.out hb)
    have n4_ := Aside0.mk (bb_ BK332.out hb)
    have n5_ := Aside0.mk (bb_ BK351.out hb)
    have n6_ := Aside0.mk (below_step (hb4_ HB.out GE330.out GE331.out GE332.out GE351.out) hb)
    clear HO342
    clear HO350
    clear BK330
    clear BK331
    clear BK332
    clear BK351
    clear HB
    have HO342 := n0_
    have HO350 := n1_
    have BK330 := n2_
    have BK331 := n3_
    have BK332 := n4_
    have BK351 := n5_
    have HB := n6_
    clear n0_ n1_ n2_ n3_ n4_ n5_ n6_
    (try clear hb)
    (try clear hb2)
    (try clear hk)
    (try clear hi)
    refine hK.out _ _ ⟨(blk_cell BK330.out 0).trans rfl, (blk_cell BK330.out 1).trans rfl, (blk_cell BK331.out 0).trans rfl, (blk_cell BK331.out 1).trans rfl, (blk_cell BK351.out 0).trans rfl, (blk_cell BK351.out 1).trans rfl, (blk_cell BK351.out 2).trans rfl⟩ (fun hHeld => ?_)
    clear hK K
    refine norm_ (a' := ?_) ?_ ?_
    rotate_left
    · show Act.put _ (some 44) _ = _
      simp only [Act.put, List.setIfInBounds_toArray, List.set_cons_zero, List.set_cons_succ, i64_w, i32_w]
      rfl
    refine one_ (i := 4) (N := some 47) #[true, true, true, true, true, true, true, true, false, false, false, false, false, false, false, false] rfl rfl (one_of HT_.out (by kernel_rfl)) (by decide) (fun K hK => ?_)
    refine goes_ Try.func12 (by kernel_rfl) rfl #[.agg #[.int .i64 a2_0, .int .i64 a2_1]] (by rfl) rfl rfl arr_ ?_
    with_reducible refine (laws_toDrift.calls a2_0 a2_1 t354 t355 _ A22.out).mono ?_
    rintro e w49 ⟨rfl, hb⟩
    refine ⟨_, rfl, ?_⟩
    have n0_ := Aside0.mk (Kd.R_below (by (with_reducible repeat (first | apply Kd.R_alloc | apply Kd.R_drewN | apply Kd.R_drew)); exact HO342.out) hb)
    have n1_ := Aside0.mk (Kd.R_below (by (with_reducible repeat (first | apply Kd.R_alloc | apply Kd.R_drewN | apply Kd.R_drew)); exact HO350.out) hb)
    have n2_ := Aside0.mk (bb_ BK330.out hb)
    have n3_ := Aside0.mk (bb_ BK331.out hb)
    have n4_ := Aside0.mk (bb_ BK332.out hb)
    have n5_ := Aside0.mk (bb_ BK351.out hb)
    have n6_ := Aside0.mk (below_step (hb4_ HB.out GE330.out GE331.out GE332.out GE351.out) hb)
    clear HO342
    clear HO350
    clear BK330
    clear BK331
    clear BK332
    clear BK351
    clear HB
    have HO342 := n0_
    have HO350 := n1_
    have BK330 := n2_
    have BK331 := n3_
    have BK332 := n4_
    have BK351 := n5_
    have HB := n6_
    clear n0_ n1_ n2_ n3_ n4_ n5_ n6_
    (try clear hb)
    (try clear hb2)
    (try clear hk)
    (try clear hi)
    refine hK.out _ _ ⟨(blk_cell BK330.out 0).trans rfl, (blk_cell BK330.out 1).trans rfl, (blk_cell BK331.out 0).trans rfl, (blk_cell BK331.out 1).trans rfl, (blk_cell BK351.out 0).trans rfl, (blk_cell BK351.out 1).trans rfl, (blk_cell BK351.out 2).trans rfl⟩ (fun hHeld => ?_)
    clear hK K
    refine norm_ (a' := ?_) ?_ ?_
    rotate_left
    · show Act.put _ (some 47) _ = _
      simp only [Act.put, List.setIfInBounds_toArray, List.set_cons_zero, List.set_cons_succ, i64_w, i32_w]
      rfl
    refine one_ (i := 8) (N := some 51) #[true, true, true, true, true, true, true, true, true, false, false, false, false, false, false, false] rfl rfl (one_of HT_.out (by kernel_rfl)) (by decide) (fun K hK => ?_)
    refine goes_ Try.func14 (by kernel_rfl) rfl #[.agg #[.int .i64 t352, .int .i64 t353], .bool a1, .agg #[.int .i64 t354, .int .i64 t355], .int .i64 a3, .agg #[.int .i64 t346, .int .i64 t347, .slice Ao45 t348.length co45], .int .i64 a5] (by rfl) rfl rfl arr_ ?_
    with_reducible refine (impl_GateAsk.calls k t352 t353 a1 t354 t355 a3 t346 t347 _ _ t348 a5 t356 t357 t358 _ ?side1 ?side2 A23.out).mono ?_
    (case side1 => repeat (first | exact (Kd.R_reads' HO350.out).2.2 | (with_reducible refine Kd.C_alloc ?_ _) | (with_reducible refine Kd.C_drewN ?_ _) | (with_reducible refine Kd.C_drew ?_)))
    (case side2 => exact (Kd.R_reads' HO350.out).2.1)
    rintro e w50 ⟨rfl, hb⟩
    refine ⟨_, rfl, ?_⟩
    have n0_ := Aside0.mk (Kd.R_below (by (with_reducible repeat (first | apply Kd.R_alloc | apply Kd.R_drewN | apply Kd.R_drew)); exact HO342.out) hb)
    have n1_ := Aside0.mk (Kd.R_below (by (with_reducible repeat (first | apply Kd.R_alloc | apply Kd.R_drewN | apply Kd.R_drew)); exact HO350.out) hb)
    have n2_ := Aside0.mk (bb_ BK330.out hb)
    have n3_ := Aside0.mk (bb_ BK331.out hb)
    have n4_ := Aside0.mk (bb_ BK332.out hb)
    have n5_ := Aside0.mk (bb_ BK351.out hb)
    have n6_ := Aside0.mk (below_step (hb4_ HB.out GE330.out GE331.out GE332.out GE351.out) hb)
    clear HO342
    clear HO350
    clear BK330
    clear BK331
    clear BK332
    clear BK351
    clear HB
    have HO342 := n0_
    have HO350 := n1_
    have BK330 := n2_
    have BK331 := n3_
    have BK332 := n4_
    have BK351 := n5_
    have HB := n6_
    clear n0_ n1_ n2_ n3_ n4_ n5_ n6_
    (try clear hb)
    (try clear hb2)
    (try clear hk)
    (try clear hi)
    refine hK.out _ _ ⟨(blk_cell BK330.out 0).trans rfl, (blk_cell BK330.out 1).trans rfl, (blk_cell BK331.out 0).trans rfl, (blk_cell BK331.out 1).trans rfl, (blk_cell BK351.out 0).trans rfl, (blk_cell BK351.out 1).trans rfl, (blk_cell BK351.out 2).trans rfl⟩ (fun hHeld => ?_)
    clear hK K
    refine norm_ (a' := ?_) ?_ ?_
    rotate_left
    · show Act.put _ (some 51) _ = _
      simp only [Act.put, List.setIfInBounds_toArray, List.set_cons_zero, List.set_cons_succ, i64_w, i32_w]
      rfl
    refine pure_ (i := 9) (N := some 42) (v := ?_) (a' := ?_) #[true, true, true, true, true, true, true, true, true, true, false, false, false, false, false, false] rfl rfl (any_of HT_.out (by kernel_rfl)) (fun _ _ _ h => h) (Or.inl ⟨by rfl, ?_⟩) ?_ ?_
    rotate_left
    · intro w'
      go_simp
      with_reducible rfl
    rotate_left
    · simp only [Act.put, List.setIfInBounds_toArray, List.set_cons_zero, List.set_cons_succ, i64_w, i32_w]
      rfl
    refine pure_ (i := 10) (N := some 52) (v := ?_) (a' := ?_) #[true, true, true, true, true, true, true, true, true, true, true, false, false, false, false, false] rfl rfl (any_of HT_.out (by kernel_rfl)) (fun _ _ _ h => h) (Or.inl ⟨by rfl, ?_⟩) ?_ ?_
    rotate_left
    · intro w'
      go_simp
      with_reducible rfl
    rotate_left
    · simp only [Act.put, List.setIfInBounds_toArray, List.set_cons_zero, List.set_cons_succ, i64_w, i32_w]
      rfl
    refine pure_ (i := 11) (N := some 53) (v := ?_) (a' := ?_) #[true, true, true, true, true, true, true, true, true, true, true, true, false, false, false, false] rfl rfl (any_of HT_.out (by kernel_rfl)) (fun _ _ _ h => h) (Or.inl ⟨by rfl, ?_⟩) ?_ ?_
    rotate_left
    · intro w'
      go_simp
      with_reducible rfl
    rotate_left
    · simp only [Act.put, List.setIfInBounds_toArray, List.set_cons_zero, List.set_cons_succ, i64_w, i32_w]
      rfl
    refine pure_ (i := 12) (N := some 54) (v := ?_) (a' := ?_) #[true, true, true, true, true, true, true, true, true, true, true, true, true, false, false, false] rfl rfl (any_of HT_.out (by kernel_rfl)) (fun _ _ _ h => h) (Or.inl ⟨by rfl, ?_⟩) ?_ ?_
    rotate_left
    · intro w'
      go_simp
      with_reducible rfl
    rotate_left
    · simp only [Act.put, List.setIfInBounds_toArray, List.set_cons_zero, List.set_cons_succ, i64_w, i32_w]
      rfl
    refine pure_ (i := 13) (N := some 18) (v := ?_) (a' := ?_) #[true, true, true, true, true, true, true, true, true, true, true, true, true, true, false, false] rfl rfl (any_of HT_.out (by kernel_rfl)) (fun _ _ _ h => h) (Or.inl ⟨by rfl, ?_⟩) ?_ ?_
    rotate_left
    · intro w'
      go_simp
      with_reducible rfl
    rotate_left
    · simp only [Act.put, List.setIfInBounds_toArray, List.set_cons_zero, List.set_cons_succ, i64_w, i32_w]
      rfl
    refine pure_ (i := 14) (N := some 19) (v := ?_) (a' := ?_) #[true, true, true, true, true, true, true, true, true, true, true, true, true, true, true, false] rfl rfl (any_of HT_.out (by kernel_rfl)) (fun _ _ _ h => h) (Or.inl ⟨by rfl, ?_⟩) ?_ ?_
    rotate_left
    · intro w'
      go_simp
      with_reducible rfl
    rotate_left
    · simp only [Act.put, List.setIfInBounds_toArray, List.set_cons_zero, List.set_cons_succ, i64_w, i32_w]
      rfl
    refine pure_ (i := 15) (N := some 20) (v := ?_) (a' := ?_) #[true, true, true, true, true, true, true, true, true, true, true, true, true, true, true, true] rfl rfl (any_of HT_.out (by kernel_rfl)) (fun _ _ _ h => h) (Or.inl ⟨by rfl, ?_⟩) ?_ ?_
    rotate_left
    · intro w'
      go_simp
      with_reducible rfl
    rotate_left
    · simp only [Act.put, List.setIfInBounds_toArray, List.set_cons_zero, List.set_cons_succ, i64_w, i32_w]
      rfl
    refine done_ (done_of HT_.out (by kernel_rfl)) ?_
    go_upto_region 8 with (fail)
    go_cut [67] (fun v67 wc => ∃ (kq : Nat) (x67_23 : Bool), v67 = .bool x67_23 ∧ Aside0 (laws_FnExactGateAsk.j0 kq x67_23 a4_0 a4_1 l4_2 t346 t347 t348 = some r) ∧ Aside0 (kq ≤ k) ∧ Aside0 (Kd.R k55 55 wc w.heap.size (fun _ => True) (.slice Ao45 t348.length co45) t348) ∧ Aside0 (wc.heap[gb330]? = some (.cells #[.int .i64 a0_0, .int .i64 a0_1] 23 (0, 0))) ∧ Aside0 (wc.heap[gb331]? = some (.cells #[.int .i64 a2_0, .int .i64 a2_1] 25 (0, 0))) ∧ Aside0 (wc.heap[gb332]? = some (.cells #[.int .i64 a4_0, .int .i64 a4_1, (.slice A4_2 l4_2.length c4_2)] 28 (0, 0))) ∧ Aside0 (wc.heap[gb351]? = some (.cells #[.int .i64 t346, .int .i64 t347, (.slice Ao45 t348.length co45)] 38 (0, 0))) ∧ Aside0 (Below w.heap.size w wc))
    case first =>
      have H := HC24.out
      clear HC24
      by_cases c51 : t356 = t343
      · rw [if_pos c51] at H
        have c51b0 : (t356 == t343) = true := beq_iff_eq.mpr c51
        have c51b1 : (t356 != t343) = false := bne_eq_false_iff_eq.mpr c51
        clear c51
        (first | rw [c51b0] | (simp only [i64_w, i32_w]; rw [c51b0]) | skip)
        by_cases c52 : t357 = t344
        · rw [if_pos c52] at H
          have c52b0 : (t357 == t344) = true := beq_iff_eq.mpr c52
          have c52b1 : (t357 != t344) = false := bne_eq_false_iff_eq.mpr c52
          clear c52
          have H' := Aside0.mk H
          clear H
          go_wp2
          go_meet
          case rel => exact ⟨_, ((t358 != t345)), (by first | rfl | (simp; done) | (simp [*]; done)), H', ⟨by first | omega | exact Nat.le_refl _⟩, ⟨by (with_reducible repeat (first | apply Kd.R_alloc | apply Kd.R_drewN | apply Kd.R_drew)); exact Kd.R_mono HO350.out (fun _ hk => trivial)⟩, ⟨bk_ BK330.out⟩, ⟨bk_ BK331.out⟩, ⟨bk_ BK332.out⟩, ⟨bk_ BK351.out⟩, ⟨hb4_ HB.out GE330.out GE331.out GE332.out GE351.out⟩⟩
        · rw [if_neg c52] at H
          have c52b0 : (t357 == t344) = false := beq_eq_false_iff_ne.mpr c52
          have c52b1 : (t357 != t344) = true := bne_iff_ne.mpr c52
          have H' := Aside0.mk H
          clear H
          go_wp2
          go_meet
          case rel => exact ⟨_, (true), (by first | rfl | (simp; done) | (simp [*]; done)), H', ⟨by first | omega | exact Nat.le_refl _⟩, ⟨by (with_reducible repeat (first | apply Kd.R_alloc | apply Kd.R_drewN | apply Kd.R_drew)); exact Kd.R_mono HO350.out (fun _ hk => trivial)⟩, ⟨bk_ BK330.out⟩, ⟨bk_ BK331.out⟩, ⟨bk_ BK332.out⟩, ⟨bk_ BK351.out⟩, ⟨hb4_ HB.out GE330.out GE331.out GE332.out GE351.out⟩⟩
      · rw [if_neg c51] at H
        have c51b0 : (t356 == t343) = false := beq_eq_false_iff_ne.mpr c51
        have c51b1 : (t356 != t343) = true := bne_iff_ne.mpr c51
        (first | rw [c51b0] | (simp only [i64_w, i32_w]; rw [c51b0]) | skip)
        have H' := Aside0.mk H
        clear H
        go_wp2
        go_meet
        case rel => exact ⟨_, (true), (by first | rfl | (simp; done) | (simp [*]; done)), H', ⟨by first | omega | exact Nat.le_refl _⟩, ⟨by (with_reducible repeat (first | apply Kd.R_alloc | apply Kd.R_drewN | apply Kd.R_drew)); exact Kd.R_mono HO350.out (fun _ hk => trivial)⟩, ⟨bk_ BK330.out⟩, ⟨bk_ BK331.out⟩, ⟨bk_ BK332.out⟩, ⟨bk_ BK351.out⟩, ⟨hb4_ HB.out GE330.out GE331.out GE332.out GE351.out⟩⟩
    case rest =>
      clear HC24
      try clear c1
      try clear c2
      try clear p2
      try clear c3
      try clear c4
      try clear c5
      try clear c9
      try clear c10
      try clear c11
      try clear c12
      try clear c13
      try clear c14
      try clear c28
      try clear c29
      try clear c41
      try clear c42
      try clear c43
      try clear c51
      try clear c51b0
      try clear c51b1
      try clear c52
      try clear c52b0
      try clear c52b1
      try clear hcz30_0
      try clear hcz30_1
      try clear hcz30_2
      try clear hcz38_0
      try clear hcz38_1
      try clear hcz38_2
      try clear hcz44_0
      try clear hcz44_1
      try clear hcz44_2
      try clear hfz30_0
      try clear hfz30_1
      try clear hfz30_2
      try clear hfz38_0
      try clear hfz38_1
      try clear hfz38_2
      try clear hfz44_0
      try clear hfz44_1
      try clear hfz44_2
      obtain ⟨kq, x67_23, rfl, HA, HJ23, HO_352002, BK330, BK331, BK332, BK351, HB⟩ := hcut
      cases kq with
      | zero => exact absurd HA.out (by simp [laws_FnExactGateAsk.j0])
      | succ kj23 =>
        have H := HA.out
        clear HA
        simp only [laws_FnExactGateAsk.j0] at H
        by_cases c53 : x67_23 = true
        · subst c53
          have H1 : (some false) = some r := by rw [if_pos rfl] at H; exact H
          clear H
          have H := H1
          clear H1
          obtain rfl := Option.some.inj H
          exact absurd hr_ (by decide)
        · replace c53 := Bool.eq_false_iff.mpr c53
          subst c53
          have H1 : ((laws_toPlan.f kj23 a4_0 a4_1 l4_2).bind fun bt359 => ((laws_eqPlan.f kj23 t346 t347 t348 bt359.1 bt359.2.1 bt359.2.2).bind fun t364 => (if t364 = true then (some true) else (some false)))) = some r := by rw [if_neg (show ¬ (false = true) by decide)] at H; exact H
          clear H
          have H := H1
          clear H1
          replace H := Option.bind_eq_some_iff.mp H
          obtain ⟨⟨t359, t360, t361⟩, A540, H⟩ := H
          replace H : ((laws_eqPlan.f kj23 t346 t347 t348 t359 t360 t361).bind fun t364 => (if t364 = true then (some true) else (some false))) = some r := H
          have A54 := Aside0.mk A540
          clear A540
          replace H := Option.bind_eq_some_iff.mp H
          obtain ⟨t364, A550, H⟩ := H
          replace H : (if t364 = true then (some true) else (some false)) = some r := H
          have A55 := Aside0.mk A550
          clear A550
          by_cases c56 : t364 = true
          · subst c56
            have H1 : (some true) = some r := by rw [if_pos rfl] at H; exact H
            clear H
            have H := H1
            clear H1
            obtain rfl := Option.some.inj H
            try go_wp2
            have n0_ := Aside0.mk (Kd.R_drew HO_352002.out)
            have n1_ := Aside0.mk (blk_drew BK330.out)
            have n2_ := Aside0.mk (blk_drew BK331.out)
            have n3_ := Aside0.mk (blk_drew BK332.out)
            have n4_ := Aside0.mk (blk_drew BK351.out)
            have n5_ := Aside0.mk (below_drew1 HB.out)
            clear HO_352002
            clear BK330
            clear BK331
            clear BK332
            clear BK351
            clear HB
            have HO_352002 := n0_
            have BK330 := n1_
            have BK331 := n2_
            have BK332 := n3_
            have BK351 := n4_
            have HB := n5_
            clear n0_ n1_ n2_ n3_ n4_ n5_
            refine start_ (n := 5) (S := fun w' => w'.cell? ⟨gb351, 0, none⟩ = some (.int .i64 t346) ∧ w'.cell? ⟨gb351, 1, none⟩ = some (.int .i64 t347) ∧ w'.cell? ⟨gb351, 2, none⟩ = some (.slice Ao45 t348.length co45) ∧ w'.cell? ⟨gb332, 0, none⟩ = some (.int .i64 a4_0) ∧ w'.cell? ⟨gb332, 1, none⟩ = some (.int .i64 a4_1) ∧ w'.cell? ⟨gb332, 2, none⟩ = some (.slice A4_2 l4_2.length c4_2)) (ds := []) #[false, false, false, false, false] (by kernel_rfl) rfl rfl ⟨(blk_cell BK351.out 0).trans rfl, (blk_cell BK351.out 1).trans rfl, (blk_cell BK351.out 2).trans rfl, (blk_cell BK332.out 0).trans rfl, (blk_cell BK332.out 1).trans rfl, (blk_cell BK332.out 2).trans rfl⟩ (fun hHeld => ?_)
            generalize wc.drew = w57 at HO_352002 BK330 BK331 BK332 BK351 HB hHeld ⊢
            refine take_ (i := 0) (N := some 68) (v := ?_) (a' := ?_) #[true, false, false, false, false] rfl rfl (by kernel_rfl) (fun _ _ _ h => h) (Or.inl ⟨by rfl, ?_⟩) hHeld ?_ ?_
            rotate_left
            · rintro w' ⟨s0, s1, s2, s3, s4, s5⟩
              go_simp
              with_reducible rfl
            rotate_left
            · simp only [Act.put, List.setIfInBounds_toArray, List.set_cons_zero, List.set_cons_succ, i64_w, i32_w]
              rfl
            refine take_ (i := 1) (N := some 69) (v := ?_) (a' := ?_) #[true, true, false, false, false] rfl rfl (by kernel_rfl) (fun _ _ _ h => h) (Or.inl ⟨by rfl, ?_⟩) hHeld ?_ ?_
            rotate_left
            · rintro w' ⟨s0, s1, s2, s3, s4, s5⟩
              go_simp
              with_reducible rfl
            rotate_left
            · simp only [Act.put, List.setIfInBounds_toArray, List.set_cons_zero, List.set_cons_succ, i64_w, i32_w]
              rfl
            refine one_ (i := 2) (N := some 70) #[true, true, true, false, false] rfl rfl (by kernel_rfl) (by decide) (fun K hK => ?_)
            refine goes_ Try.func13 (by kernel_rfl) rfl #[.agg #[.int .i64 a4_0, .int .i64 a4_1, .slice A4_2 l4_2.length c4_2]] (by rfl) rfl rfl arr_ ?_
            with_reducible refine (laws_toPlan.calls kj23 a4_0 a4_1 _ _ l4_2 t359 t360 t361 _ ?side1 ?side2 A54.out).mono ?_
            (case side1 => exact kc_ (Kd.C_below HR4_2.out HB.out))
            (case side2 => exact HC4_2.out)
            rintro e w58 ⟨v362, rfl, ho0, hb⟩
            refine ⟨_, rfl, ?_⟩
            have n0_ := Aside0.mk (Kd.R_elder' (by (with_reducible repeat (first | apply Kd.R_alloc | apply Kd.R_drewN | apply Kd.R_drew)); exact HO_352002.out) (Kd.R_base ho0) hb)
            have n1_ := Aside0.mk (Kd.R_lower (Kd.R_new' ho0 (Kd.R_lt (by (with_reducible repeat (first | apply Kd.R_alloc | apply Kd.R_drewN | apply Kd.R_drew)); exact HO_352002.out))) (below_size (hb4_ HB.out GE330.out GE331.out GE332.out GE351.out)))
            have n2_ := Aside0.mk (bb_ BK330.out hb)
            have n3_ := Aside0.mk (bb_ BK331.out hb)
            have n4_ := Aside0.mk (bb_ BK332.out hb)
            have n5_ := Aside0.mk (bb_ BK351.out hb)
            have n6_ := Aside0.mk (below_step (hb4_ HB.out GE330.out GE331.out GE332.out GE351.out) hb)
            clear HO_352002
            clear BK330
            clear BK331
            clear BK332
            clear BK351
            clear HB
            have HO_352002 := n0_
            have HO363 := n1_
            have BK330 := n2_
            have BK331 := n3_
            have BK332 := n4_
            have BK351 := n5_
            have HB := n6_
            clear n0_ n1_ n2_ n3_ n4_ n5_ n6_
            (try clear hb)
            (try clear hb2)
            (try clear hk)
            (try clear hi)
            (try clear ho0)
            obtain ⟨Ao59, co59, eo59⟩ := Kd.R_slice HO363.out
            (first | subst eo59 | (injection eo59 with f1_ f2_ f3_; have f4_ := f1_.symm; have f5_ := f3_.symm; clear f1_ f2_ f3_; subst f4_; subst f5_))
            refine hK.out _ _ ⟨(blk_cell BK351.out 0).trans rfl, (blk_cell BK351.out 1).trans rfl, (blk_cell BK351.out 2).trans rfl, (blk_cell BK332.out 0).trans rfl, (blk_cell BK332.out 1).trans rfl, (blk_cell BK332.out 2).trans rfl⟩ (fun hHeld => ?_)
            clear hK K
            refine norm_ (a' := ?_) ?_ ?_
            rotate_left
            · show Act.put _ (some 70) _ = _
              simp only [Act.put, List.setIfInBounds_toArray, List.set_cons_zero, List.set_cons_succ, i64_w, i32_w]
              rfl
            refine one_ (i := 3) (N := some 71) #[true, true, true, true, false] rfl rfl (by kernel_rfl) (by decide) (fun K hK => ?_)
            refine goes_ Try.func15 (by kernel_rfl) rfl #[.agg #[.int .i64 t346, .int .i64 t347, .slice Ao45 t348.length co45], .agg #[.int .i64 t359, .int .i64 t360, .slice Ao59 t361.length co59]] (by rfl) rfl rfl arr_ ?_
            with_reducible refine (laws_eqPlan.calls kj23 t346 t347 _ _ t348 t359 t360 _ _ t361 true _ ?side1 ?side2 ?side3 ?side4 A55.out).mono ?_
            (case side1 => repeat (first | exact (Kd.R_reads' HO_352002.out).2.2 | (with_reducible refine Kd.C_alloc ?_ _) | (with_reducible refine Kd.C_drewN ?_ _) | (with_reducible refine Kd.C_drew ?_)))
            (case side2 => exact (Kd.R_reads' HO_352002.out).2.1)
            (case side3 => repeat (first | exact (Kd.R_reads' HO363.out).2.2 | (with_reducible refine Kd.C_alloc ?_ _) | (with_reducible refine Kd.C_drewN ?_ _) | (with_reducible refine Kd.C_drew ?_)))
            (case side4 => exact (Kd.R_reads' HO363.out).2.1)
            rintro e w60 ⟨rfl, hb⟩
            refine ⟨_, rfl, ?_⟩
            have n0_ := Aside0.mk (Kd.R_below (by (with_reducible repeat (first | apply Kd.R_alloc | apply Kd.R_drewN | apply Kd.R_drew)); exact HO_352002.out) hb)
            have n1_ := Aside0.mk (Kd.R_below (by (with_reducible repeat (first | apply Kd.R_alloc | apply Kd.R_drewN | apply Kd.R_drew)); exact HO363.out) hb)
            have n2_ := Aside0.mk (bb_ BK330.out hb)
            have n3_ := Aside0.mk (bb_ BK331.out hb)
            have n4_ := Aside0.mk (bb_ BK332.out hb)
            have n5_ := Aside0.mk (bb_ BK351.out hb)
            have n6_ := Aside0.mk (below_step (hb4_ HB.out GE330.out GE331.out GE332.out GE351.out) hb)
            clear HO_352002
            clear HO363
            clear BK330
            clear BK331
            clear BK332
            clear BK351
            clear HB
            have HO_352002 := n0_
            have HO363 := n1_
            have BK330 := n2_
            have BK331 := n3_
            have BK332 := n4_
            have BK351 := n5_
            have HB := n6_
            clear n0_ n1_ n2_ n3_ n4_ n5_ n6_
            (try clear hb)
            (try clear hb2)
            (try clear hk)
            (try clear hi)
            refine hK.out _ _ ⟨(blk_cell BK351.out 0).trans rfl, (blk_cell BK351.out 1).trans rfl, (blk_cell BK351.out 2).trans rfl, (blk_cell BK332.out 0).trans rfl, (blk_cell BK332.out 1).trans rfl, (blk_cell BK332.out 2).trans rfl⟩ (fun hHeld => ?_)
            clear hK K
            refine norm_ (a' := ?_) ?_ ?_
            rotate_left
            · show Act.put _ (some 71) _ = _
              simp only [Act.put, List.setIfInBounds_toArray, List.set_cons_zero, List.set_cons_succ, i64_w, i32_w]
              rfl
            refine pure_ (i := 4) (N := some 72) (v := ?_) (a' := ?_) #[true, true, true, true, true] rfl rfl (by kernel_rfl) (fun _ _ _ h => h) (Or.inl ⟨by rfl, ?_⟩) ?_ ?_
            rotate_left
            · intro w'
              go_simp
              with_reducible rfl
            rotate_left
            · simp only [Act.put, List.setIfInBounds_toArray, List.set_cons_zero, List.set_cons_succ, i64_w, i32_w]
              rfl
            refine done_ (by kernel_rfl) ?_
            try go_wp2
            go_ret
            exact ⟨er_, hb4_ HB.out GE330.out GE331.out GE332.out GE351.out⟩
          · replace c56 := Bool.eq_false_iff.mpr c56
            subst c56
            have H1 : (some false) = some r := by rw [if_neg (show ¬ (false = true) by decide)] at H; exact H
            clear H
            have H := H1
            clear H1
            obtain rfl := Option.some.inj H
            exact absurd hr_ (by decide)
end Go.Proofs.Ytejohmompmjhnaa.P
namespace Go.Proofs.Ytejohmompmjhnaa.G
open Go.RowKit Go.Proofs.YtejohmompmjhnaaW.PrintWords
theorem wrap_id {x : Int} (h1 : -9223372036854775808 ≤ x) (h2 : x ≤ 9223372036854775807) : wrap64 x = x := by unfold wrap64; omega
theorem wrap_succ {i n : Nat} (h : i < n) (hn : n ≤ 9223372036854775807) : wrap64 ((i : Int) + 1) = ((i + 1 : Nat) : Int) := by unfold wrap64; omega
theorem wrap_pred {i n : Nat} (h0 : 0 < i) (h : i < n) (hn : n ≤ 9223372036854775807) : wrap64 ((i : Int) - 1) = ((i - 1 : Nat) : Int) := by unfold wrap64; omega
theorem all_loop {n : Nat} {L : Nat → Int → Option Bool} {Q : Nat → Bool} {e : Bool}
    (hs : ∀ k i, i < n → L (k + 1) (i : Int) = if Q i = true then L k ((i + 1 : Nat) : Int) else some false)
    (he : ∀ k, L (k + 1) (n : Int) = some e) :
    ∀ d i k, i + d = n → d < k → L k (i : Int) = some ((List.range' i d).all Q && e) := by
  intro d
  induction d with
  | zero =>
    intro i k h hk
    obtain ⟨k, rfl⟩ : ∃ m, k = m + 1 := ⟨k - 1, by omega⟩
    obtain rfl : i = n := by omega
    rw [he]; simp
  | succ d ih =>
    intro i k h hk
    obtain ⟨k, rfl⟩ : ∃ m, k = m + 1 := ⟨k - 1, by omega⟩
    rw [hs k i (by omega)]
    rw [List.range'_succ]
    cases hq : Q i with
    | true => rw [if_pos rfl, ih (i + 1) k (by omega) (by omega)]; simp [hq]
    | false => simp [hq]
theorem all_loop0 {n : Nat} {L : Nat → Int → Option Bool} {Q : Nat → Bool} {e : Bool}
    (hs : ∀ k i, i < n → L (k + 1) (i : Int) = if Q i = true then L k ((i + 1 : Nat) : Int) else some false)
    (he : ∀ k, L (k + 1) (n : Int) = some e) (k : Nat) (hk : n < k) : L k 0 = some ((List.range n).all Q && e) := by
  have := all_loop hs he n 0 k (by omega) hk
  rw [List.range_eq_range']
  exact this
theorem all_loopT {n : Nat} {L : Nat → Int → Option Bool}
    (hs : ∀ k i, i < n → L (k + 1) (i : Int) = L k ((i + 1 : Nat) : Int)) (he : ∀ k, L (k + 1) (n : Int) = some true) (k : Nat) (hk : n < k) : L k 0 = some true := by
  have := all_loop0 (Q := fun _ => true) (e := true) (fun k i hi => by rw [if_pos rfl]; exact hs k i hi) he k hk
  rw [this]
  simp [List.all_eq_true]
theorem fold_loop {n : Nat} {σ ρ : Type} {L : Nat → σ → Int → Option ρ} {st : Nat → σ → σ} {fin : σ → ρ} {I : Nat → σ → Prop}
    (hs : ∀ k i s, i < n → I i s → L (k + 1) s (i : Int) = L k (st i s) ((i + 1 : Nat) : Int))
    (hI : ∀ i s, i < n → I i s → I (i + 1) (st i s))
    (he : ∀ k s, I n s → L (k + 1) s (n : Int) = some (fin s)) :
    ∀ d i s k, i + d = n → I i s → d < k → L k s (i : Int) = some (fin ((List.range' i d).foldl (fun s i => st i s) s)) := by
  intro d
  induction d with
  | zero =>
    intro i s k h hi hk
    obtain ⟨k, rfl⟩ : ∃ m, k = m + 1 := ⟨k - 1, by omega⟩
    obtain rfl : i = n := by omega
    rw [he k s hi]; simp
  | succ d ih =>
    intro i s k h hi hk
    obtain ⟨k, rfl⟩ : ∃ m, k = m + 1 := ⟨k - 1, by omega⟩
    rw [hs k i s (by omega) hi, ih (i + 1) (st i s) k (by omega) (hI i s (by omega) hi) (by omega), List.range'_succ]
    rfl
def found {ρ : Type} (Q : Nat → Bool) (r : Nat → ρ) (e : ρ) (is : List Nat) : ρ := match is.find? Q with
  | some j => r j
  | none => e
theorem find_loop {n : Nat} {ρ : Type} {L : Nat → Int → Option ρ} {Q : Nat → Bool} {r : Nat → ρ} {e : ρ} {c : Nat}
    (hs : ∀ k i, i < n → c ≤ k → L (k + 1) (i : Int) = if Q i = true then some (r i) else L k ((i + 1 : Nat) : Int))
    (he : ∀ k, L (k + 1) (n : Int) = some e) :
    ∀ d i k, i + d = n → d + c < k → L k (i : Int) = some (found Q r e (List.range' i d)) := by
  intro d
  induction d with
  | zero =>
    intro i k h hk
    obtain ⟨k, rfl⟩ : ∃ m, k = m + 1 := ⟨k - 1, by omega⟩
    obtain rfl : i = n := by omega
    rw [he]; rfl
  | succ d ih =>
    intro i k h hk
    obtain ⟨k, rfl⟩ : ∃ m, k = m + 1 := ⟨k - 1, by omega⟩
    rw [hs k i (by omega) (by omega), List.range'_succ]
    unfold found
    cases hq : Q i with
    | true => simp [List.find?, hq]
    | false =>
      rw [if_neg (by simp), ih (i + 1) k (by omega) (by omega)]
      simp [List.find?, hq, found]
theorem find_loop0 {n : Nat} {ρ : Type} {L : Nat → Int → Option ρ} {Q : Nat → Bool} {r : Nat → ρ} {e : ρ} {c : Nat}
    (hs : ∀ k i, i < n → c ≤ k → L (k + 1) (i : Int) = if Q i = true then some (r i) else L k ((i + 1 : Nat) : Int))
    (he : ∀ k, L (k + 1) (n : Int) = some e) (k : Nat) (hk : n + c < k) : L k 0 = some (found Q r e (List.range n)) := by
  have := find_loop hs he n 0 k (by omega) hk
  rw [List.range_eq_range']
  exact this
theorem found_none {ρ : Type} {Q : Nat → Bool} {r : Nat → ρ} {e : ρ} {n : Nat} (h : ∀ i, i < n → Q i = false) : found Q r e (List.range n) = e := by
  unfold found
  have : (List.range n).find? Q = none := by
    rw [List.find?_eq_none]; intro i hi; rw [h i (List.mem_range.1 hi)]; simp
  rw [this]
theorem found_some {ρ : Type} {Q : Nat → Bool} {r : Nat → ρ} {e : ρ} {n j : Nat} (hj : j < n) (hq : Q j = true) (h : ∀ i, i < j → Q i = false) : found Q r e (List.range n) = r j := by
  unfold found
  have : (List.range n).find? Q = some j := by
    rw [List.find?_range_eq_some]; exact ⟨hq, List.mem_range.2 hj, fun i hi => by rw [h i hi]; rfl⟩
  rw [this]
theorem first_of {Q : Nat → Bool} : ∀ n, (∃ j, j < n ∧ Q j = true ∧ ∀ i, i < j → Q i = false) ∨ ∀ i, i < n → Q i = false := by
  intro n
  induction n with
  | zero => right; intro i hi; omega
  | succ n ih =>
    rcases ih with ⟨j, h1, h2, h3⟩ | h
    · left; exact ⟨j, by omega, h2, h3⟩
    · cases hq : Q n with
      | true => left; exact ⟨n, by omega, hq, h⟩
      | false => right; intro i hi; rcases Nat.lt_or_ge i n with c | c
                 · exact h i c
                 · obtain rfl : i = n := by omega
                   exact hq
theorem track_loop {n : Nat} {σ ρ : Type} {L : Nat → σ → Int → Option ρ} {F : Nat → σ} {r : ρ} {c : Nat}
    (hs : ∀ k i, i < n → c ≤ k → L (k + 1) (F i) (i : Int) = L k (F (i + 1)) ((i + 1 : Nat) : Int))
    (he : ∀ k, c ≤ k → L (k + 1) (F n) (n : Int) = some r) :
    ∀ d i k, i + d = n → d + c < k → L k (F i) (i : Int) = some r := by
  intro d
  induction d with
  | zero =>
    intro i k h hk
    obtain ⟨k, rfl⟩ : ∃ m, k = m + 1 := ⟨k - 1, by omega⟩
    obtain rfl : i = n := by omega
    exact he k (by omega)
  | succ d ih =>
    intro i k h hk
    obtain ⟨k, rfl⟩ : ∃ m, k = m + 1 := ⟨k - 1, by omega⟩
    rw [hs k i (by omega) (by omega)]
    exact ih (i + 1) k (by omega) (by omega)
theorem track_loop0 {n : Nat} {σ ρ : Type} {L : Nat → σ → Int → Option ρ} {F : Nat → σ} {r : ρ} {c : Nat}
    (hs : ∀ k i, i < n → c ≤ k → L (k + 1) (F i) (i : Int) = L k (F (i + 1)) ((i + 1 : Nat) : Int))
    (he : ∀ k, c ≤ k → L (k + 1) (F n) (n : Int) = some r) (k : Nat) (hk : n + c < k) : L k (F 0) 0 = some r :=
  track_loop hs he n 0 k (by omega) hk
theorem inv_loop {n : Nat} {σ ρ : Type} {L : Nat → σ → Int → Option ρ} {I : Nat → σ → Prop} {R : ρ → Prop}
    (hs : ∀ k i s, i < n → I i s → (∃ s', L (k + 1) s (i : Int) = L k s' ((i + 1 : Nat) : Int) ∧ I (i + 1) s') ∨ ∃ r, L (k + 1) s (i : Int) = some r ∧ R r)
    (he : ∀ k s, I n s → ∃ r, L (k + 1) s (n : Int) = some r ∧ R r) :
    ∀ d i s k, i + d = n → I i s → d < k → ∃ r, L k s (i : Int) = some r ∧ R r := by
  intro d
  induction d with
  | zero =>
    intro i s k h hi hk
    obtain ⟨k, rfl⟩ : ∃ m, k = m + 1 := ⟨k - 1, by omega⟩
    obtain rfl : i = n := by omega
    exact he k s hi
  | succ d ih =>
    intro i s k h hi hk
    obtain ⟨k, rfl⟩ : ∃ m, k = m + 1 := ⟨k - 1, by omega⟩
    rcases hs k i s (by omega) hi with ⟨s', h1, h2⟩ | ⟨r, h1, h2⟩
    · rw [h1]; exact ih (i + 1) s' k (by omega) h2 (by omega)
    · exact ⟨r, h1, h2⟩
theorem to_loop {α β : Type} {l : List α} {c : α → β} {z : β} {L : Nat → List β → Int → Option (List β)}
    (hs : ∀ k acc i (hi : i < l.length), acc.length = l.length → L (k + 1) acc (i : Int) = L k (acc.set i (c l[i])) ((i + 1 : Nat) : Int))
    (he : ∀ k acc, acc.length = l.length → L (k + 1) acc (l.length : Int) = some acc) :
    ∀ d i k, i + d = l.length → d < k → L k ((l.take i).map c ++ List.replicate d z) (i : Int) = some (l.map c) := by
  intro d
  induction d with
  | zero =>
    intro i k h hk
    obtain ⟨k, rfl⟩ : ∃ m, k = m + 1 := ⟨k - 1, by omega⟩
    obtain rfl : i = l.length := by omega
    rw [he _ _ (by simp)]; simp
  | succ d ih =>
    intro i k h hk
    obtain ⟨k, rfl⟩ : ∃ m, k = m + 1 := ⟨k - 1, by omega⟩
    have hi : i < l.length := by omega
    rw [hs _ _ i hi (by simp; omega), ← ih (i + 1) k (by omega) (by omega)]
    congr 1
    have hl : ((l.take i).map c).length = i := by simp; omega
    rw [List.set_append, if_neg (by omega), hl, Nat.sub_self, List.replicate_succ, List.set_cons_zero, List.take_succ_eq_append_getElem hi, List.map_append, List.append_assoc]
    rfl
theorem to_loop0 {α β : Type} {l : List α} {c : α → β} {z : β} {L : Nat → List β → Int → Option (List β)}
    (hs : ∀ k acc i (hi : i < l.length), acc.length = l.length → L (k + 1) acc (i : Int) = L k (acc.set i (c l[i])) ((i + 1 : Nat) : Int))
    (he : ∀ k acc, acc.length = l.length → L (k + 1) acc (l.length : Int) = some acc) (k : Nat) (hk : l.length < k) : L k (List.replicate l.length z) 0 = some (l.map c) := by
  have := to_loop hs he l.length 0 k (by omega) hk (z := z)
  simpa using this
theorem all_true {n : Nat} {Q : Nat → Bool} (h : ∀ i, i < n → Q i = true) : (List.range n).all Q = true := by
  rw [List.all_eq_true]; intro i hi; exact h i (List.mem_range.1 hi)
theorem all_iff {n : Nat} {Q : Nat → Bool} : (List.range n).all Q = true ↔ ∀ i, i < n → Q i = true := by
  rw [List.all_eq_true]; exact ⟨fun h i hi => h i (List.mem_range.2 hi), fun h i hi => h i (List.mem_range.1 hi)⟩
end Go.Proofs.Ytejohmompmjhnaa.G
namespace Go.Proofs.Ytejohmompmjhnaa.C
open Go.RowKit Go.Proofs.Ytejohmompmjhnaa.P Go.Proofs.Ytejohmompmjhnaa.G
theorem l1In (a b c : Int) : spec_l1In.f a b c = some (decide (b ≤ a ∧ a ≤ c)) := by
  unfold spec_l1In.f; by_cases h : a ≥ b <;> simp [h] <;> omega
theorem in_ (a b c : Int) : impl_in.f a b c = some (decide (b ≤ a ∧ a ≤ c)) := by
  unfold impl_in.f; by_cases h : b ≤ a <;> simp [h]
theorem l2Time (a : Int) : spec_l2Time.f a = some (decide (0 ≤ a ∧ a ≤ 1000000000000)) := by
  unfold spec_l2Time.f; rw [l1In]; rfl
theorem isTime (a : Int) : impl_isTime.f a = some (decide (0 ≤ a ∧ a ≤ 1000000000000)) := by
  unfold impl_isTime.f; rw [in_]; rfl
theorem l4Node (a : Int) : spec_l4Node.f a = some (decide (0 ≤ a ∧ a ≤ 7)) := by
  unfold spec_l4Node.f; rw [l1In]; rfl
theorem isNode (a : Int) : impl_isNode.f a = some (decide (0 ≤ a ∧ a ≤ 7)) := by
  unfold impl_isNode.f; rw [in_]; rfl
def timeOk (x : Int) : Bool := decide (0 ≤ x ∧ x ≤ 1000000000000)
theorem timeOk_iff (x : Int) : timeOk x = true ↔ 0 ≤ x ∧ x ≤ 1000000000000 := by unfold timeOk; simp
abbrev Sl := S55
abbrev SlL := S104
def toSl (x : SlL) : Sl := ⟨x.f0, x.f1⟩
theorem rdSl (l : List Sl) (i : Nat) (h : i < l.length) : rd_T55 l (i : Int) = l[i] := by
  unfold rd_T55; simp [List.getD, h]
theorem rdSlL (l : List SlL) (i : Nat) (h : i < l.length) : rd_T104 l (i : Int) = l[i] := by
  unfold rd_T104; simp [List.getD, h]
theorem toSlotS (l : List SlL) (hl : l.length ≤ 1048576) (k : Nat) (hk : l.length < k) : laws_toSlotS.f k l = some (l.map toSl) := by
  unfold laws_toSlotS.f
  rw [if_pos (by omega), if_pos (by simp; omega)]
  simp only [Int.toNat_natCast]
  refine to_loop0 (L := fun k acc i => laws_toSlotS.l0 k l acc i) (fun k acc i hi ha => ?_) (fun k acc ha => ?_) k hk
  · simp only [laws_toSlotS.l0, laws_toSlot.f, Option.bind_some]
    rw [if_pos (by omega), if_pos (by omega), if_pos (by omega), wrap_succ hi (by omega), rdSlL l i hi]
    rfl
  · simp only [laws_toSlotS.l0]
    rw [if_neg (by omega)]
theorem toPlan (a b : Int) (l : List SlL) (hl : l.length ≤ 1048576) (k : Nat) (hk : l.length < k) : laws_toPlan.f k a b l = some (a, b, l.map toSl) := by
  unfold laws_toPlan.f; rw [toSlotS l hl k hk]; rfl
theorem eqSlotS (l : List Sl) (hl : l.length ≤ 1048576) (k : Nat) (hk : l.length < k) : laws_eqSlotS.f k l l = some true := by
  unfold laws_eqSlotS.f
  rw [if_pos rfl]
  refine all_loopT (n := l.length) (L := fun k i => laws_eqSlotS.l0 k l l i) (fun k i hi => ?_) (fun k => ?_) k hk
  · simp only [laws_eqSlotS.l0, laws_eqSlot.f]
    rw [if_pos (by omega), if_pos (by omega), if_pos (by omega), wrap_succ hi (by omega)]
    simp
  · simp only [laws_eqSlotS.l0]
    rw [if_neg (by omega)]
theorem eqPlan (a b : Int) (l : List Sl) (hl : l.length ≤ 1048576) (k : Nat) (hk : l.length < k) : laws_eqPlan.f k a b l a b l = some true := by
  unfold laws_eqPlan.f; rw [eqSlotS l hl k hk]; simp
theorem szPlan (a b : Int) (l : List SlL) (hl : l.length ≤ 9223372036854775807) (x : Int) (hx : 0 ≤ x ∧ x ≤ 1048576) :
    (laws_szPlan.f a b l x = some (-1)) ∨ (laws_szPlan.f a b l x = some (x - l.length) ∧ (l.length : Int) ≤ x) := by
  unfold laws_szPlan.f laws_szSlotS.f
  have hw : wrap64 (x - (l.length : Int)) = x - l.length := wrap_id (by omega) (by omega)
  rw [hw]
  by_cases h : x - (l.length : Int) < 0
  · left; rw [if_pos h]; simp
  · right; rw [if_neg h]; simp only [Option.bind_some]; rw [if_neg h]; exact ⟨rfl, by omega⟩
def slotOk (x : Sl) : Bool := decide (0 ≤ x.f0 ∧ x.f0 ≤ 7) && decide (1 ≤ x.f1 ∧ x.f1 ≤ 1000000)
def slotsOk (l : List Sl) : Bool := (List.range l.length).all fun i => match l[i]? with | some x => slotOk x | none => true
def planOk (st gap : Int) (l : List Sl) : Bool := decide (0 ≤ st ∧ st ≤ 1000000000000) && decide (0 ≤ gap ∧ gap ≤ 100000) && decide ((1 : Int) ≤ l.length ∧ (l.length : Int) ≤ 12) && slotsOk l
theorem slotsOk_get {l : List Sl} (h : slotsOk l = true) (i : Nat) (hi : i < l.length) : 0 ≤ l[i].f0 ∧ l[i].f0 ≤ 7 ∧ 1 ≤ l[i].f1 ∧ l[i].f1 ≤ 1000000 := by
  unfold slotsOk at h; rw [all_iff] at h
  have := h i hi
  rw [List.getElem?_eq_getElem hi] at this
  simp [slotOk] at this; omega
theorem planOk_iff (st gap : Int) (l : List Sl) : planOk st gap l = true ↔ (0 ≤ st ∧ st ≤ 1000000000000) ∧ (0 ≤ gap ∧ gap ≤ 100000) ∧ (1 ≤ l.length ∧ l.length ≤ 12) ∧ slotsOk l = true := by
  unfold planOk; simp only [Bool.and_eq_true, decide_eq_true_eq]; constructor
  · rintro ⟨⟨⟨h1, h2⟩, h3⟩, h4⟩; exact ⟨h1, h2, by omega, h4⟩
  · rintro ⟨h1, h2, h3, h4⟩; exact ⟨⟨⟨h1, h2⟩, by omega⟩, h4⟩
theorem iIndexSlot (l : List Sl) (hl : l.length ≤ 1048576) (k : Nat) (hk : l.length < k) : ∃ r, slices_IndexFunc_Slot.f k l = some r ∧ decide (r ≥ 0) = !slotsOk l := by
  have h1 : ∀ x : Sl, impl_PlanOk_1.f x.f0 x.f1 = some (!slotOk x) := by
    intro x; unfold impl_PlanOk_1.f slotOk; simp only [isNode, in_, Option.bind_some]
    cases decide (0 ≤ x.f0 ∧ x.f0 ≤ 7) <;> simp
  unfold slices_IndexFunc_Slot.f
  have := find_loop0 (n := l.length) (L := fun k i => slices_IndexFunc_Slot.l0 k l (l.length : Int) i) (Q := fun i => match l[i]? with | some x => !slotOk x | none => false) (r := fun i => (i : Int)) (e := -1) (c := 0) (fun k i hi _ => ?_) (fun k => ?_) k (by omega)
  · refine ⟨_, this, ?_⟩
    rcases first_of (Q := fun i => match l[i]? with | some x => !slotOk x | none => false) l.length with ⟨j, h2, h3, h4⟩ | h2
    · rw [found_some h2 h3 h4]
      have : slotsOk l = false := by
        cases hs : slotsOk l with
        | false => rfl
        | true =>
          unfold slotsOk at hs; rw [all_iff] at hs
          have := hs j h2
          rw [List.getElem?_eq_getElem h2] at this h3
          simp at this h3; rw [this] at h3; cases h3
      rw [this]; simp
    · rw [found_none h2]
      have : slotsOk l = true := by
        unfold slotsOk; rw [all_iff]; intro i hi
        have := h2 i hi
        rw [List.getElem?_eq_getElem hi] at this ⊢
        simpa using this
      rw [this]; simp
  · simp only [slices_IndexFunc_Slot.l0]
    rw [if_pos (by omega), if_pos (by omega), if_pos (by omega), wrap_succ hi (by omega), rdSl l i hi, h1, List.getElem?_eq_getElem hi]
    rfl
  · simp only [slices_IndexFunc_Slot.l0]
    rw [if_neg (by omega)]
theorem iPlanOk (st gap : Int) (l : List Sl) (hl : l.length ≤ 1048576) (k : Nat) (hk : l.length < k) : impl_PlanOk.f k st gap l = some (planOk st gap l) := by
  obtain ⟨r, h1, h2⟩ := iIndexSlot l hl k hk
  unfold impl_PlanOk.f planOk slices_ContainsFunc_Slot.f; simp only [isTime, in_, h1, h2, Option.bind_some]
  cases decide (0 ≤ st ∧ st ≤ 1000000000000) <;> cases decide (0 ≤ gap ∧ gap ≤ 100000) <;> cases decide ((1 : Int) ≤ l.length ∧ (l.length : Int) ≤ 12) <;> simp
theorem sPlanOk (st gap : Int) (l : List Sl) (hl : l.length ≤ 1048576) (k : Nat) (hk : l.length + 1 < k) : spec_PlanOk.f k st gap l = some (planOk st gap l) := by
  obtain ⟨k, rfl⟩ : ∃ j, k = j + 1 := ⟨k - 1, by omega⟩
  have hL : spec_PlanOk.l0 k 0 st gap l = some (slotsOk l) := by
    unfold slotsOk
    have := all_loop0 (n := l.length) (L := fun k i => spec_PlanOk.l0 k i st gap l) (Q := fun i => match l[i]? with | some x => slotOk x | none => true) (e := true) (fun k i hi => ?_) (fun k => ?_) k (by omega)
    · simpa using this
    · simp only [spec_PlanOk.l0, l4Node, l1In, Option.bind_some]
      rw [if_pos (by omega), if_pos (by omega), wrap_succ hi (by omega), rdSl l i hi, List.getElem?_eq_getElem hi]
      simp only [slotOk]
      by_cases h1 : (0 ≤ l[i].f0 ∧ l[i].f0 ≤ 7) <;> by_cases h2 : (1 ≤ l[i].f1 ∧ l[i].f1 ≤ 1000000) <;> simp [h1, h2]
    · simp only [spec_PlanOk.l0]
      rw [if_neg (by omega)]
  unfold spec_PlanOk.f planOk; simp only [l2Time, l1In, Option.bind_some, spec_PlanOk.j0, hL]
  cases decide (0 ≤ st ∧ st ≤ 1000000000000) <;> cases decide (0 ≤ gap ∧ gap ≤ 100000) <;> cases decide ((1 : Int) ≤ l.length ∧ (l.length : Int) ≤ 12) <;> simp
def ivalOk (a b : Int) : Bool := decide (-1000000000000 ≤ a) && decide (a ≤ b) && decide (b ≤ 1000000000000)
theorem ivalOk_iff (a b : Int) : ivalOk a b = true ↔ -1000000000000 ≤ a ∧ a ≤ b ∧ b ≤ 1000000000000 := by unfold ivalOk; simp; omega
theorem sIvalOk (a b : Int) : spec_IvalOk.f a b = some (ivalOk a b) := by
  have e : ivalOk a b = decide (-1000000000000 ≤ a ∧ a ≤ b ∧ b ≤ 1000000000000) := by
    rw [Bool.eq_iff_iff, ivalOk_iff, decide_eq_true_iff]
  rw [e]
  unfold spec_IvalOk.f; simp only [l1In, Option.bind_some]
  by_cases h1 : a ≤ b
  · rw [if_pos h1]
    by_cases h2 : (-1000000000000 ≤ a ∧ a ≤ 1000000000000)
    · rw [decide_eq_true h2, if_pos rfl]; congr 1; rw [decide_eq_decide]; omega
    · rw [decide_eq_false h2, if_neg (by decide)]; congr 1; symm; apply decide_eq_false; omega
  · rw [if_neg h1]; congr 1; symm; apply decide_eq_false; omega
theorem iIvalOk (a b : Int) : impl_IvalOk.f a b = some (ivalOk a b) := by
  unfold impl_IvalOk.f ivalOk
  by_cases h1 : a ≤ b <;> by_cases h2 : -1000000000000 ≤ a <;> by_cases h3 : b ≤ 1000000000000 <;> simp [h1, h2, h3]
def ivalT (a b : Int) : Int × Int × Bool := if ivalOk a b = true then (a, b, true) else (0, 0, false)
theorem sTold (a b : Int) : spec_l1Told.f a b = some (ivalT a b) := by
  unfold spec_l1Told.f ivalT; rw [sIvalOk]; simp only [Option.bind_some]; split <;> rfl
theorem iIval (a b : Int) : impl_ival.f a b = some (ivalT a b) := by
  unfold impl_ival.f ivalT; rw [iIvalOk]; simp only [Option.bind_some]; split <;> rfl
def uptoL (gap : Int) : List Sl → Int
  | [] => 0
  | x :: xs => x.f1 + gap + uptoL gap xs
theorem uptoL_append (gap : Int) (a b : List Sl) : uptoL gap (a ++ b) = uptoL gap a + uptoL gap b := by
  induction a with
  | nil => simp [uptoL]
  | cons x xs ih => simp only [List.cons_append, uptoL, ih]; omega
def upto (gap : Int) (l : List Sl) (n : Nat) : Int := uptoL gap (l.take n)
theorem upto_zero (gap : Int) (l : List Sl) : upto gap l 0 = 0 := rfl
theorem upto_succ (gap : Int) (l : List Sl) (i : Nat) (h : i < l.length) : upto gap l (i + 1) = upto gap l i + (l[i].f1 + gap) := by
  unfold upto; rw [List.take_succ_eq_append_getElem h, uptoL_append]; simp [uptoL]
def round (gap : Int) (l : List Sl) : Int := upto gap l l.length
theorem upto_bd {st gap : Int} {l : List Sl} (h : planOk st gap l = true) : ∀ n, n ≤ l.length → (n : Int) ≤ upto gap l n ∧ upto gap l n ≤ 1100000 * n := by
  rw [planOk_iff] at h
  intro n
  induction n with
  | zero => intro _; rw [upto_zero]; omega
  | succ n ih =>
    intro hn
    have h1 := ih (by omega)
    have h2 := slotsOk_get h.2.2.2 n (by omega)
    rw [upto_succ gap l n (by omega)]
    omega
theorem round_bd {st gap : Int} {l : List Sl} (h : planOk st gap l = true) : 1 ≤ round gap l ∧ round gap l ≤ 13200000 := by
  have h1 := upto_bd h l.length (Nat.le_refl _)
  rw [planOk_iff] at h
  unfold round; omega
theorem upto_mono {st gap : Int} {l : List Sl} (h : planOk st gap l = true) (i : Nat) : ∀ j, (hj : i < j) → (hl : j ≤ l.length) → upto gap l i + (l[i]'(by omega)).f1 + gap ≤ upto gap l j := by
  have h' := h
  rw [planOk_iff] at h'
  intro j
  induction j with
  | zero => intro hj; omega
  | succ j ih =>
    intro hj hl
    rw [upto_succ gap l j (by omega)]
    have h2 := slotsOk_get h'.2.2.2 j (by omega)
    rcases Nat.lt_or_ge i j with c | c
    · have := ih c (by omega); omega
    · obtain rfl : i = j := by omega
      omega
theorem iFrom {st gap : Int} {l : List Sl} (h : planOk st gap l = true) (n : Nat) (hn : n ≤ l.length) (k : Nat) (hk : 20 ≤ k) : impl_Plan_from.f k st gap l (n : Int) = some (upto gap l n) := by
  have h' := h
  rw [planOk_iff] at h'
  unfold impl_Plan_from.f
  rw [if_pos (by omega), if_pos (by omega)]
  simp only [Option.bind_some, Int.toNat_natCast]
  have hy : (l.take n).length = n := by simp; omega
  rw [hy]
  refine track_loop0 (n := n) (c := 0) (L := fun k s i => impl_Plan_from.l0 k s (l.take n) (n : Int) i st gap l) (F := fun i => upto gap l i) (fun k i hi _ => ?_) (fun k _ => ?_) k (by omega)
  · simp only [impl_Plan_from.l0]
    have hb := upto_bd h i (by omega)
    have hs := slotsOk_get h'.2.2.2 i (by omega)
    rw [if_pos (by omega), if_pos (by omega), if_pos (by omega), wrap_succ hi (by omega), rdSl (l.take n) i (by omega), List.getElem_take, upto_succ gap l i (by omega), wrap_id (x := l[i].f1 + gap) (by omega) (by omega), wrap_id (by omega) (by omega)]
  · simp only [impl_Plan_from.l0]
    rw [if_neg (by omega)]
theorem iRound {st gap : Int} {l : List Sl} (h : planOk st gap l = true) (k : Nat) (hk : 20 ≤ k) : impl_Plan_round.f k st gap l = some (round gap l) := by
  unfold impl_Plan_round.f; rw [iFrom h l.length (Nat.le_refl _) k hk]; rfl
theorem sUpto {st gap : Int} {l : List Sl} (h : planOk st gap l = true) (n : Nat) (hn : n ≤ l.length) (k : Nat) (hk : 20 ≤ k) : spec_l13Upto.f k st gap l (n : Int) = some (upto gap l n) := by
  have h' := h
  rw [planOk_iff] at h'
  unfold spec_l13Upto.f
  refine track_loop0 (n := n) (c := 0) (L := fun k s i => spec_l13Upto.l0 k (n : Int) s i st gap l) (F := fun i => upto gap l i) (fun k i hi _ => ?_) (fun k _ => ?_) k (by omega)
  · simp only [spec_l13Upto.l0]
    have hb := upto_bd h i (by omega)
    have hs := slotsOk_get h'.2.2.2 i (by omega)
    rw [if_pos (by omega), if_pos (by omega), if_pos (by omega), wrap_succ hi (by omega), rdSl l i (by omega), upto_succ gap l i (by omega), wrap_id (x := upto gap l i + l[i].f1) (by omega) (by omega), wrap_id (by omega) (by omega)]
    congr 1; omega
  · simp only [spec_l13Upto.l0]
    rw [if_neg (by omega)]
def roundOf (st gap : Int) (l : List Sl) : Int := if planOk st gap l = true then round gap l else 0
theorem sRoundOf (st gap : Int) (l : List Sl) (hl : l.length ≤ 1048576) (k : Nat) (hk : 1050000 ≤ k) : spec_RoundOf.f k st gap l = some (roundOf st gap l) := by
  unfold spec_RoundOf.f roundOf; rw [sPlanOk st gap l hl k (by omega)]
  simp only [Option.bind_some]
  cases h : planOk st gap l with
  | false => rfl
  | true => rw [if_pos rfl, sUpto h l.length (Nat.le_refl _) k (by omega)]; rfl
theorem sRoundOf' {st gap : Int} {l : List Sl} (h : planOk st gap l = true) (k : Nat) (hk : 20 ≤ k) : spec_RoundOf.f k st gap l = some (round gap l) := by
  have h' := h
  rw [planOk_iff] at h'
  unfold spec_RoundOf.f; rw [sPlanOk st gap l (by omega) k (by omega), h]
  simp only [Option.bind_some]
  rw [if_pos trivial, sUpto h l.length (Nat.le_refl _) k (by omega)]; rfl
def isSlot (st gap : Int) (l : List Sl) (i : Int) : Bool := planOk st gap l && decide (0 ≤ i ∧ i < l.length)
theorem isSlot_iff (st gap : Int) (l : List Sl) (i : Int) : isSlot st gap l i = true ↔ planOk st gap l = true ∧ 0 ≤ i ∧ i < l.length := by unfold isSlot; simp
theorem sSlot (st gap : Int) (l : List Sl) (hl : l.length ≤ 1048576) (i : Int) (k : Nat) (hk : 1050000 ≤ k) : spec_l13Slot.f k st gap l i = some (isSlot st gap l i) := by
  unfold spec_l13Slot.f isSlot; rw [sPlanOk st gap l hl k (by omega)]
  simp only [Option.bind_some, l1In]
  rw [wrap_id (by omega) (by omega)]
  cases planOk st gap l with
  | false => rfl
  | true => rw [if_pos rfl, Bool.true_and]; congr 1; rw [decide_eq_decide]; omega
theorem sSlot' {st gap : Int} {l : List Sl} (h : planOk st gap l = true) (i : Nat) (hi : i < l.length) (k : Nat) (hk : 20 ≤ k) : spec_l13Slot.f k st gap l (i : Int) = some true := by
  have h' := h
  rw [planOk_iff] at h'
  unfold spec_l13Slot.f; rw [sPlanOk st gap l (by omega) k (by omega), h]
  simp only [Option.bind_some, l1In]
  rw [wrap_id (by omega) (by omega), if_pos trivial, decide_eq_true (by omega)]
theorem iSlot (st gap : Int) (l : List Sl) (hl : l.length ≤ 1048576) (i : Int) (k : Nat) (hk : 1050000 ≤ k) : impl_isSlot.f k st gap l i = some (isSlot st gap l i) := by
  unfold impl_isSlot.f isSlot; rw [iPlanOk st gap l hl k (by omega)]
  simp only [Option.bind_some, in_]
  rw [wrap_id (by omega) (by omega)]
  cases planOk st gap l with
  | false => rfl
  | true => rw [if_pos rfl, Bool.true_and]; congr 1; rw [decide_eq_decide]; omega
theorem iSlot' {st gap : Int} {l : List Sl} (h : planOk st gap l = true) (i : Nat) (hi : i < l.length) (k : Nat) (hk : 20 ≤ k) : impl_isSlot.f k st gap l (i : Int) = some true := by
  have h' := h
  rw [planOk_iff] at h'
  unfold impl_isSlot.f; rw [iPlanOk st gap l (by omega) k (by omega), h]
  simp only [Option.bind_some, in_]
  rw [wrap_id (by omega) (by omega), if_pos trivial, decide_eq_true (by omega)]
def occ (st gap : Int) (l : List Sl) (i : Nat) (q : Int) : Int × Int × Bool := if 0 ≤ q ∧ q ≤ 1000000000000 / round gap l then ivalT (st + q * round gap l + upto gap l i) (st + q * round gap l + upto gap l i + (match l[i]? with | some x => x.f1 | none => 0)) else (0, 0, false)
def occurrence (st gap : Int) (l : List Sl) (i q : Int) : Int × Int × Bool := if isSlot st gap l i = true then occ st gap l i.toNat q else (0, 0, false)
theorem q_bd {r q : Int} (hr : 1 ≤ r) (h : 0 ≤ q ∧ q ≤ 1000000000000 / r) : 0 ≤ q * r ∧ q * r ≤ 1000000000000 ∧ q ≤ 1000000000000 := by
  have h1 : q * r ≤ 1000000000000 := Int.le_trans (Int.mul_le_mul_of_nonneg_right h.2 (by omega)) (Int.ediv_mul_le _ (by omega))
  have h2 : 0 ≤ q * r := Int.mul_nonneg h.1 (by omega)
  have h3 : q * 1 ≤ q * r := Int.mul_le_mul_of_nonneg_left hr h.1
  omega
theorem div_bd {r : Int} (hr : 1 ≤ r) : 0 ≤ (1000000000000 : Int) / r ∧ (1000000000000 : Int) / r ≤ 1000000000000 :=
  ⟨Int.ediv_nonneg (by omega) (by omega), Int.ediv_le_self _ (by omega)⟩
theorem occ_told {st gap : Int} {l : List Sl} (h : planOk st gap l = true) (i : Nat) (hi : i < l.length) (q : Int) (hq : 0 ≤ q ∧ q ≤ 1000000000000 / round gap l) :
    (0 ≤ st + q * round gap l + upto gap l i ∧ st + q * round gap l + upto gap l i + l[i].f1 ≤ 3000000000000) ∧ wrap64 (wrap64 (st + wrap64 (q * round gap l)) + upto gap l i) = st + q * round gap l + upto gap l i ∧ wrap64 (st + q * round gap l + upto gap l i + l[i].f1) = st + q * round gap l + upto gap l i + l[i].f1 := by
  have hr := round_bd h
  have hb := q_bd hr.1 hq
  have hu := upto_bd h i (by omega)
  rw [planOk_iff] at h
  have hs := slotsOk_get h.2.2.2 i hi
  refine ⟨by omega, ?_, wrap_id (by omega) (by omega)⟩
  rw [wrap_id (x := q * round gap l) (by omega) (by omega), wrap_id (x := st + q * round gap l) (by omega) (by omega), wrap_id (by omega) (by omega)]
theorem sOcc {st gap : Int} {l : List Sl} (h : planOk st gap l = true) (i : Nat) (hi : i < l.length) (q : Int) (k : Nat) (hk : 30 ≤ k) : spec_Occurrence.f k st gap l (i : Int) q = some (occ st gap l i q) := by
  obtain ⟨k, rfl⟩ : ∃ j, k = j + 1 := ⟨k - 1, by omega⟩
  have hr := round_bd h
  have hd := div_bd hr.1
  unfold spec_Occurrence.f occ
  rw [sSlot' h i hi _ (by omega), sRoundOf' h _ (by omega)]
  simp only [Option.bind_some, l1In, spec_Occurrence.j0, if_true]
  rw [sRoundOf' h _ (by omega), sUpto h i (by omega) _ (by omega)]
  simp only [Option.bind_some]
  rw [if_neg (show ¬ round gap l = 0 by omega), Int.tdiv_eq_ediv_of_nonneg (by omega : (0 : Int) ≤ 1000000000000), wrap_id (x := 1000000000000 / round gap l) (by omega) (by omega), if_pos (show (0 : Int) ≤ i by omega), if_pos (show (i : Int) < l.length by omega), rdSl l i hi, List.getElem?_eq_getElem hi]
  by_cases hq : 0 ≤ q ∧ q ≤ 1000000000000 / round gap l
  · have ht := occ_told h i hi q hq
    have hb := q_bd hr.1 hq
    rw [decide_eq_true (by omega : 0 ≤ q ∧ q ≤ 1000000000000), if_pos rfl, decide_eq_false (by omega), if_neg (by decide), if_pos hq, ht.2.1, ht.2.2, sTold]
    rfl
  · rw [if_neg hq]
    by_cases h1 : 0 ≤ q ∧ q ≤ 1000000000000
    · rw [decide_eq_true h1, if_pos rfl, decide_eq_true (by omega), if_pos rfl]
    · rw [decide_eq_false h1]; rfl
theorem iOcc {st gap : Int} {l : List Sl} (h : planOk st gap l = true) (i : Nat) (hi : i < l.length) (q : Int) (k : Nat) (hk : 30 ≤ k) : impl_Occurrence.f k st gap l (i : Int) q = some (occ st gap l i q) := by
  obtain ⟨k, rfl⟩ : ∃ j, k = j + 1 := ⟨k - 1, by omega⟩
  have hr := round_bd h
  have hd := div_bd hr.1
  unfold impl_Occurrence.f occ
  rw [iSlot' h i hi _ (by omega), iRound h _ (by omega)]
  simp only [Option.bind_some, in_, impl_Occurrence.j0, if_true]
  rw [iRound h _ (by omega), iFrom h i (by omega) _ (by omega)]
  simp only [Option.bind_some]
  rw [if_neg (show ¬ round gap l = 0 by omega), Int.tdiv_eq_ediv_of_nonneg (by omega : (0 : Int) ≤ 1000000000000), wrap_id (x := 1000000000000 / round gap l) (by omega) (by omega), if_pos (show (0 : Int) ≤ i by omega), if_pos (show (i : Int) < l.length by omega), rdSl l i hi, List.getElem?_eq_getElem hi]
  by_cases hq : 0 ≤ q ∧ q ≤ 1000000000000 / round gap l
  · have ht := occ_told h i hi q hq
    rw [decide_eq_true hq, if_neg (by decide), if_pos hq, ht.2.1, ht.2.2, iIval]
    rfl
  · rw [if_neg hq, decide_eq_false hq]; rfl
theorem sOccurrence (st gap : Int) (l : List Sl) (hl : l.length ≤ 1048576) (i q : Int) (k : Nat) (hk : 1050100 ≤ k) : spec_Occurrence.f k st gap l i q = some (occurrence st gap l i q) := by
  unfold occurrence
  cases h : isSlot st gap l i with
  | false =>
    obtain ⟨k, rfl⟩ : ∃ j, k = j + 1 := ⟨k - 1, by omega⟩
    unfold spec_Occurrence.f
    rw [sSlot st gap l hl i _ (by omega), h]
    simp only [Option.bind_some, spec_Occurrence.j0]
    rfl
  | true =>
    rw [isSlot_iff] at h
    obtain ⟨n, rfl⟩ := Int.eq_ofNat_of_zero_le h.2.1
    rw [sOcc h.1 n (by omega) q k (by omega)]; rfl
theorem iOccurrence (st gap : Int) (l : List Sl) (hl : l.length ≤ 1048576) (i q : Int) (k : Nat) (hk : 1050100 ≤ k) : impl_Occurrence.f k st gap l i q = some (occurrence st gap l i q) := by
  unfold occurrence
  cases h : isSlot st gap l i with
  | false =>
    obtain ⟨k, rfl⟩ : ∃ j, k = j + 1 := ⟨k - 1, by omega⟩
    unfold impl_Occurrence.f
    rw [iSlot st gap l hl i _ (by omega), h]
    simp only [Option.bind_some, impl_Occurrence.j0]
    rfl
  | true =>
    rw [isSlot_iff] at h
    obtain ⟨n, rfl⟩ := Int.eq_ofNat_of_zero_le h.2.1
    rw [iOcc h.1 n (by omega) q k (by omega)]; rfl
end Go.Proofs.Ytejohmompmjhnaa.C
namespace Go.Proofs.Ytejohmompmjhnaa.P
open Go.RowKit Go.Proofs.YtejohmompmjhnaaW.PrintWords Go.Proofs.YtejohmompmjhnaaW.PrintLast Go.Proofs.YtejohmompmjhnaaW.PrintMore
attribute [local go_sem] max2_int min2_int max_two min_two max_three min_three max_four min_four
set_option linter.unusedVariables false
set_option linter.unusedSimpArgs false
def spec_l1Max.f (a0 : Int) (a1 : Int) : Option (Int) := if a0 > a1 then (some a0) else (some a1)
set_option maxHeartbeats 8000000 in
set_option maxRecDepth 100000 in
theorem spec_l1Max.calls (a0 : Int) (a1 : Int) (r : Int) (w : World) (h : spec_l1Max.f a0 a1 = some r) :
    Calls Try.prog 51 #[.int .i64 a0, .int .i64 a1] w fun e w' => e = .returned (.int .i64 r) ∧ Drawn0 w w' := by
  have H : (if a0 > a1 then (some a0) else (some a1)) = some r := h
  clear h
  by_cases c3 : a0 > a1
  · rw [if_pos c3] at H
    have c3b0 : decide (a1 < a0) = true := decide_eq_true c3
    clear c3
    obtain rfl := Option.some.inj H
    go_enter Try.func51, Try.ntmps51
    go_wp2
    go_ret
    exact ⟨by first | rfl | (simp; done) | (simp [*]; done), by repeat (first | exact Drawn0.refl _ | apply Drawn0.step)⟩
  · rw [if_neg c3] at H
    have c3b0 : decide (a1 < a0) = false := decide_eq_false c3
    clear c3
    obtain rfl := Option.some.inj H
    go_enter Try.func51, Try.ntmps51
    go_wp2
    go_ret
    exact ⟨by first | rfl | (simp; done) | (simp [*]; done), by repeat (first | exact Drawn0.refl _ | apply Drawn0.step)⟩
end Go.Proofs.Ytejohmompmjhnaa.P
namespace Go.Proofs.Ytejohmompmjhnaa.C
open Go.RowKit Go.Proofs.Ytejohmompmjhnaa.P Go.Proofs.Ytejohmompmjhnaa.G Go.Proofs.YtejohmompmjhnaaW.PrintMore
def inS (gap : Int) (l : List Sl) (left : Int) (i : Nat) : Bool := decide (upto gap l i ≤ left) && decide (left < upto gap l (i + 1) - gap)
theorem inS_iff {gap : Int} {l : List Sl} {left : Int} {i : Nat} (hi : i < l.length) : inS gap l left i = true ↔ upto gap l i ≤ left ∧ left < upto gap l i + l[i].f1 := by
  unfold inS; rw [upto_succ gap l i hi]; simp; omega
theorem inS_one {st gap : Int} {l : List Sl} (h : planOk st gap l = true) {left : Int} {i j : Nat} (hi : i < l.length) (hj : j < l.length) (h1 : inS gap l left i = true) (h2 : inS gap l left j = true) : i = j := by
  rw [inS_iff hi] at h1; rw [inS_iff hj] at h2
  rcases Nat.lt_trichotomy i j with c | c | c
  · have := upto_mono h i j c (by omega); rw [planOk_iff] at h; omega
  · exact c
  · have := upto_mono h j i c (by omega); rw [planOk_iff] at h; omega
def slotAtQ (st gap : Int) (l : List Sl) (t : Int) : Int × Int × Bool :=
  found (inS gap l ((t - st) % round gap l)) (fun i => if (occ st gap l i ((t - st) / round gap l)).2.2 = true then ((i : Int), (t - st) / round gap l, true) else (0, 0, false)) (0, 0, false) (List.range l.length)
def slotAt (st gap : Int) (l : List Sl) (t : Int) : Int × Int × Bool := if (planOk st gap l && timeOk t && decide (st ≤ t)) = true then slotAtQ st gap l t else (0, 0, false)
theorem when_q {st gap : Int} {l : List Sl} (h : planOk st gap l = true) {t : Int} (ht : 0 ≤ t ∧ t ≤ 1000000000000) (hs : st ≤ t) :
    0 ≤ (t - st) / round gap l ∧ (t - st) / round gap l ≤ 1000000000000 / round gap l ∧ (t - st) / round gap l ≤ 1000000000000 ∧ 0 ≤ (t - st) % round gap l ∧ (t - st) % round gap l < round gap l ∧ (t - st) / round gap l * round gap l + (t - st) % round gap l = t - st := by
  have hr := round_bd h
  rw [planOk_iff] at h
  have h1 := Int.mul_ediv_add_emod (t - st) (round gap l)
  rw [Int.mul_comm] at h1
  refine ⟨Int.ediv_nonneg (by omega) (by omega), Int.ediv_le_ediv (by omega) (by omega), ?_, Int.emod_nonneg _ (by omega), Int.emod_lt_of_pos _ (by omega), h1⟩
  have := Int.ediv_le_self (round gap l) (show 0 ≤ t - st by omega); omega
theorem occ_eq {st gap : Int} {l : List Sl} {i : Nat} (hi : i < l.length) {q : Int} (hq : 0 ≤ q ∧ q ≤ 1000000000000 / round gap l) : occ st gap l i q = ivalT (st + q * round gap l + upto gap l i) (st + q * round gap l + upto gap l i + l[i].f1) := by
  unfold occ; rw [if_pos hq, List.getElem?_eq_getElem hi]
theorem ivalT_ok {a b : Int} (h : (ivalT a b).2.2 = true) : ivalT a b = (a, b, true) ∧ ivalOk a b = true := by
  unfold ivalT at h ⊢
  cases hv : ivalOk a b with
  | true => exact ⟨rfl, rfl⟩
  | false => rw [hv] at h; simp at h
theorem occ_in {st gap : Int} {l : List Sl} (h : planOk st gap l = true) {t : Int} (ht : 0 ≤ t ∧ t ≤ 1000000000000) (hs : st ≤ t) (i : Nat) (hi : i < l.length) (ho : (occ st gap l i ((t - st) / round gap l)).2.2 = true) :
    ((occ st gap l i ((t - st) / round gap l)).1 ≤ t ∧ t < (occ st gap l i ((t - st) / round gap l)).2.1) ↔ inS gap l ((t - st) % round gap l) i = true := by
  have hq := when_q h ht hs
  rw [inS_iff hi]
  rw [occ_eq hi ⟨hq.1, hq.2.1⟩] at ho ⊢
  rw [(ivalT_ok ho).1]
  simp only
  omega
theorem iSlotAtQ {st gap : Int} {l : List Sl} (h : planOk st gap l = true) {t : Int} (ht : 0 ≤ t ∧ t ≤ 1000000000000) (hs : st ≤ t) (k : Nat) (hk : 60 ≤ k) : impl_SlotAt.j0 k t false st gap l = some (slotAtQ st gap l t) := by
  obtain ⟨k, rfl⟩ : ∃ j, k = j + 1 := ⟨k - 1, by omega⟩
  have hr := round_bd h
  have hq := when_q h ht hs
  have h' := h
  rw [planOk_iff] at h'
  simp only [impl_SlotAt.j0]
  rw [if_neg (by decide), iRound h _ (by omega)]
  simp only [Option.bind_some]
  rw [if_neg (by omega), wrap_id (x := t - st) (by omega) (by omega), Int.tdiv_eq_ediv_of_nonneg (by omega), Int.tmod_eq_emod_of_nonneg (by omega), wrap_id (by omega) (by omega)]
  rw [if_neg (by omega)]
  unfold slotAtQ
  refine find_loop0 (n := l.length) (c := 35) (L := fun k i => impl_SlotAt.l0 k ((t - st) / round gap l) ((t - st) % round gap l) l (l.length : Int) i st gap l) (fun k i hi hk => ?_) (fun k => ?_) k (by omega)
  · simp only [impl_SlotAt.l0]
    have hb := upto_bd h i (by omega)
    have hsl := slotsOk_get h'.2.2.2 i hi
    rw [if_pos (by omega), if_pos (by omega), if_pos (by omega), wrap_succ hi (by omega), rdSl l i hi, iFrom h i (by omega) _ (by omega)]
    simp only [Option.bind_some, in_]
    rw [wrap_id (x := upto gap l i + l[i].f1) (by omega) (by omega), wrap_id (x := upto gap l i + l[i].f1 - 1) (by omega) (by omega), iOcc h i hi _ _ (by omega)]
    simp only [Option.bind_some]
    cases hc : inS gap l ((t - st) % round gap l) i with
    | true =>
      have := (inS_iff hi).1 hc
      rw [decide_eq_true (by omega), if_pos rfl, if_pos rfl]
      split <;> rfl
    | false =>
      have : ¬ (upto gap l i ≤ (t - st) % round gap l ∧ (t - st) % round gap l < upto gap l i + l[i].f1) := by rw [← inS_iff hi, hc]; simp
      rw [decide_eq_false (by omega), if_neg (by decide), if_neg (by decide)]
  · simp only [impl_SlotAt.l0]
    rw [if_neg (by omega)]
theorem sSlotAtQ {st gap : Int} {l : List Sl} (h : planOk st gap l = true) {t : Int} (ht : 0 ≤ t ∧ t ≤ 1000000000000) (hs : st ≤ t) (k : Nat) (hk : 60 ≤ k) : spec_SlotAt.j0 k t false st gap l = some (slotAtQ st gap l t) := by
  obtain ⟨k, rfl⟩ : ∃ j, k = j + 1 := ⟨k - 1, by omega⟩
  have hr := round_bd h
  have hq := when_q h ht hs
  have h' := h
  rw [planOk_iff] at h'
  simp only [spec_SlotAt.j0]
  rw [if_neg (by decide), sRoundOf' h _ (by omega)]
  simp only [Option.bind_some]
  rw [if_neg (by omega), wrap_id (x := t - st) (by omega) (by omega), Int.tdiv_eq_ediv_of_nonneg (by omega), wrap_id (by omega) (by omega)]
  have hL := find_loop0 (n := l.length) (c := 35) (L := fun k i => spec_SlotAt.l0 k t ((t - st) / round gap l) i st gap l) (Q := fun i => (occ st gap l i ((t - st) / round gap l)).2.2 && inS gap l ((t - st) % round gap l) i) (r := fun i => ((i : Int), (t - st) / round gap l, true)) (e := (0, 0, false)) (fun k i hi hk => ?_) (fun k => ?_) k (by omega)
  · rw [hL]
    congr 1
    unfold slotAtQ
    rcases first_of (Q := inS gap l ((t - st) % round gap l)) l.length with ⟨j, h1, h2, h3⟩ | h1
    · rw [found_some h1 h2 h3]
      cases ho : (occ st gap l j ((t - st) / round gap l)).2.2 with
      | true =>
        rw [if_pos rfl]
        refine found_some h1 (by rw [ho, h2]; rfl) (fun i hi => by rw [h3 i hi]; simp)
      | false =>
        rw [if_neg (by decide)]
        refine found_none (fun i hi => ?_)
        cases hc : inS gap l ((t - st) % round gap l) i with
        | false => simp
        | true => obtain rfl := inS_one h hi h1 hc h2; rw [ho]; rfl
    · rw [found_none h1]
      refine found_none (fun i hi => by rw [h1 i hi]; simp)
  · simp only [spec_SlotAt.l0]
    rw [if_pos (by omega), wrap_succ hi (by omega), sOcc h i hi _ _ (by omega)]
    simp only [Option.bind_some]
    cases ho : (occ st gap l i ((t - st) / round gap l)).2.2 with
    | false => simp
    | true =>
      have hio := occ_in h ht hs i hi ho
      rw [if_pos rfl, Bool.true_and]
      cases hc : inS gap l ((t - st) % round gap l) i with
      | true =>
        have := hio.2 hc
        rw [if_pos this.1, if_pos this.2, if_pos rfl]
      | false =>
        rw [hc] at hio
        by_cases hx : (occ st gap l i ((t - st) / round gap l)).1 ≤ t
        · rw [if_pos hx, if_neg (fun hy => by have := hio.1 ⟨hx, hy⟩; cases this), if_neg (by decide)]
        · rw [if_neg hx, if_neg (by decide)]
  · simp only [spec_SlotAt.l0]
    rw [if_neg (by omega)]
theorem iSlotAt (st gap : Int) (l : List Sl) (hl : l.length ≤ 1048576) (t : Int) (k : Nat) (hk : 1050000 ≤ k) : impl_SlotAt.f k st gap l t = some (slotAt st gap l t) := by
  have hj : ∀ k, 1 ≤ k → impl_SlotAt.j0 k t true st gap l = some (0, 0, false) := fun k hk => by
    obtain ⟨k, rfl⟩ : ∃ j, k = j + 1 := ⟨k - 1, by omega⟩
    simp only [impl_SlotAt.j0]; rfl
  unfold impl_SlotAt.f slotAt
  rw [iPlanOk st gap l hl k (by omega), isTime]
  simp only [Option.bind_some]
  change (if planOk st gap l = true then (if timeOk t = true then _ else _) else _) = _
  cases h : planOk st gap l with
  | false => rw [hj k (by omega)]; rfl
  | true =>
    cases h2 : timeOk t with
    | false => rw [hj k (by omega)]; rfl
    | true =>
      rw [timeOk_iff] at h2
      by_cases h3 : t < st
      · rw [decide_eq_true h3, hj k (by omega), decide_eq_false (by omega)]; rfl
      · rw [decide_eq_false h3, iSlotAtQ h h2 (by omega) k (by omega), decide_eq_true (by omega)]; rfl
theorem sSlotAt (st gap : Int) (l : List Sl) (hl : l.length ≤ 1048576) (t : Int) (k : Nat) (hk : 1050000 ≤ k) : spec_SlotAt.f k st gap l t = some (slotAt st gap l t) := by
  have hj : ∀ k, 1 ≤ k → spec_SlotAt.j0 k t true st gap l = some (0, 0, false) := fun k hk => by
    obtain ⟨k, rfl⟩ : ∃ j, k = j + 1 := ⟨k - 1, by omega⟩
    simp only [spec_SlotAt.j0]; rfl
  unfold spec_SlotAt.f slotAt
  rw [sPlanOk st gap l hl k (by omega), l2Time]
  simp only [Option.bind_some]
  change (if planOk st gap l = true then (if timeOk t = true then _ else _) else _) = _
  cases h : planOk st gap l with
  | false => rw [hj k (by omega)]; rfl
  | true =>
    cases h2 : timeOk t with
    | false => rw [hj k (by omega)]; rfl
    | true =>
      rw [timeOk_iff] at h2
      by_cases h3 : t < st
      · rw [decide_eq_true h3, hj k (by omega), decide_eq_false (by omega)]; rfl
      · rw [decide_eq_false h3, sSlotAtQ h h2 (by omega) k (by omega), decide_eq_true (by omega)]; rfl
theorem slotAt_in {st gap : Int} {l : List Sl} {t : Int} (h : (slotAt st gap l t).2.2 = true) : ∃ i : Nat, i < l.length ∧ (slotAt st gap l t).1 = (i : Int) ∧ planOk st gap l = true ∧ timeOk t = true ∧ st ≤ t ∧ (slotAt st gap l t).2.1 = (t - st) / round gap l ∧ inS gap l ((t - st) % round gap l) i = true ∧ (occ st gap l i ((t - st) / round gap l)).2.2 = true := by
  unfold slotAt at h ⊢
  split at h
  · rename_i hc
    rw [if_pos hc]
    simp only [Bool.and_eq_true, decide_eq_true_eq] at hc
    unfold slotAtQ at h ⊢
    rcases first_of (Q := inS gap l ((t - st) % round gap l)) l.length with ⟨j, h1, h2, h3⟩ | h1
    · rw [found_some h1 h2 h3] at h ⊢
      split at h
      · rename_i ho
        rw [if_pos ho]
        exact ⟨j, h1, rfl, hc.1.1, hc.1.2, hc.2, rfl, h2, ho⟩
      · simp at h
    · rw [found_none h1] at h; simp at h
  · simp at h
def inSlot (st gap : Int) (l : List Sl) (owner a b : Int) : Int × Int × Bool :=
  if (slotAt st gap l a).2.2 = true ∧ (match l[(slotAt st gap l a).1.toNat]? with | some x => x.f0 | none => -1) = owner ∧ a ≤ b ∧ b ≤ (occurrence st gap l (slotAt st gap l a).1 (slotAt st gap l a).2.1).2.1
  then ((slotAt st gap l a).1, (slotAt st gap l a).2.1, true) else (0, 0, false)
theorem sInSlot (st gap : Int) (l : List Sl) (hl : l.length ≤ 1048576) (owner a b : Int) (k : Nat) (hk : 1050200 ≤ k) : spec_InSlot.f k st gap l owner a b = some (inSlot st gap l owner a b) := by
  obtain ⟨k, rfl⟩ : ∃ j, k = j + 1 := ⟨k - 1, by omega⟩
  unfold spec_InSlot.f inSlot
  rw [sSlotAt st gap l hl a _ (by omega)]
  simp only [Option.bind_some, spec_InSlot.j0]
  rw [sOccurrence st gap l hl _ _ _ (by omega)]
  simp only [Option.bind_some, if_true]
  cases h : (slotAt st gap l a).2.2 with
  | false => simp
  | true =>
    obtain ⟨i, hi, e, _⟩ := slotAt_in h
    rw [if_pos rfl, e, if_pos (by omega), if_pos (by omega), rdSl l i hi]
    have e2 : ((i : Int)).toNat = i := by omega
    rw [e2, List.getElem?_eq_getElem hi]
    simp only
    by_cases h1 : l[i].f0 = owner
    · rw [if_pos h1]
      by_cases h2 : a > b
      · rw [decide_eq_true h2, if_pos rfl, if_neg (by omega)]
      · rw [decide_eq_false h2, if_neg (by decide)]
        by_cases h3 : b > (occurrence st gap l (i : Int) (slotAt st gap l a).2.1).2.1
        · rw [if_pos h3, if_neg (by omega)]
        · rw [if_neg h3, if_pos ⟨trivial, h1, by omega, by omega⟩]
    · rw [if_neg h1, if_neg (fun hx => h1 hx.2.1)]
theorem iInSlot (st gap : Int) (l : List Sl) (hl : l.length ≤ 1048576) (owner a b : Int) (k : Nat) (hk : 1050200 ≤ k) : impl_InSlot.f k st gap l owner a b = some (inSlot st gap l owner a b) := by
  obtain ⟨k, rfl⟩ : ∃ j, k = j + 1 := ⟨k - 1, by omega⟩
  unfold impl_InSlot.f inSlot
  rw [iSlotAt st gap l hl a _ (by omega)]
  simp only [Option.bind_some, impl_InSlot.j0]
  rw [iOccurrence st gap l hl _ _ _ (by omega)]
  simp only [Option.bind_some, if_true]
  cases h : (slotAt st gap l a).2.2 with
  | false => simp
  | true =>
    obtain ⟨i, hi, e, _⟩ := slotAt_in h
    rw [if_pos rfl, e, if_pos (by omega), if_pos (by omega), rdSl l i hi]
    have e2 : ((i : Int)).toNat = i := by omega
    rw [e2, List.getElem?_eq_getElem hi]
    simp only
    by_cases h1 : l[i].f0 = owner
    · rw [if_pos h1]
      by_cases h2 : a > b
      · rw [decide_eq_true h2, if_pos rfl, if_neg (by omega)]
      · rw [decide_eq_false h2, if_neg (by decide)]
        by_cases h3 : b > (occurrence st gap l (i : Int) (slotAt st gap l a).2.1).2.1
        · rw [if_pos h3, if_neg (by omega)]
        · rw [if_neg h3, if_pos ⟨trivial, h1, by omega, by omega⟩]
    · rw [if_neg h1, if_neg (fun hx => h1 hx.2.1)]
end Go.Proofs.Ytejohmompmjhnaa.C
namespace Go.Proofs.Ytejohmompmjhnaa.P
open Go.RowKit Go.Proofs.YtejohmompmjhnaaW.PrintWords Go.Proofs.YtejohmompmjhnaaW.PrintLast Go.Proofs.YtejohmompmjhnaaW.PrintMore
attribute [local go_sem] max2_int min2_int max_two min_two max_three min_three max_four min_four
set_option linter.unusedVariables false
set_option linter.unusedSimpArgs false
def spec_l1Up.f (a0 : Int) (a1 : Int) : Option (Int) := (spec_l1Down.f (wrap64 (-a0)) a1).bind fun t649 => (some (wrap64 (-t649)))
set_option maxHeartbeats 8000000 in
set_option maxRecDepth 100000 in
theorem spec_l1Up.calls (a0 : Int) (a1 : Int) (r : Int) (w : World) (h : spec_l1Up.f a0 a1 = some r) :
    Calls Try.prog 70 #[.int .i64 a0, .int .i64 a1] w fun e w' => e = .returned (.int .i64 r) ∧ Drawn0 w w' := by
  have H : ((spec_l1Down.f (wrap64 (-a0)) a1).bind fun t649 => (some (wrap64 (-t649)))) = some r := h
  clear h
  replace H := Option.bind_eq_some_iff.mp H
  obtain ⟨t649, A30, H⟩ := H
  replace H : (some (wrap64 (-t649))) = some r := H
  have A3 := Aside0.mk A30
  clear A30
  obtain rfl := Option.some.inj H
  go_enter Try.func70, Try.ntmps70
  go_wp2_with (first | ((with_reducible refine gate_callee (f := 69) rfl ?_); refine goesL_ (some 8) rfl rfl Try.func69 (by kernel_rfl) rfl #[.int .i64 (wrap64 (-a0)), .int .i64 a1] rfl arr_ ?_; (with_reducible refine (spec_l1Down.calls (wrap64 (-a0)) a1 t649 _ A3.out).mono ?_); rintro e w' ⟨rfl, ⟨nd, rfl⟩⟩; refine ⟨_, rfl, ?_⟩))
  go_ret
  exact ⟨by first | rfl | (simp; done) | (simp [*]; done), by repeat (first | exact Drawn0.refl _ | apply Drawn0.step)⟩
def spec_LeastTime.j0 : Nat → Int → Bool → Int → Int → Option (Int × Bool)
  | 0, _, _, _, _ => none
  | k + 1, x1, x13, x651000, x651001 => if x13 = true then (some (0, false)) else ((spec_l1Up.f (wrap64 (x1 * x651001)) (wrap64 (x651001 + x651000))).bind fun t653 => ((spec_l2Told.f t653).bind fun bt654 => (some (bt654.1, bt654.2))))
def spec_LeastTime.f (k : Nat) (a0_0 : Int) (a0_1 : Int) (a1 : Int) : Option (Int × Bool) := (spec_DriftOk.f a0_0 a0_1).bind fun t651 => (if t651 = true then ((spec_l2Time.f a1).bind fun t652 => (spec_LeastTime.j0 k a1 (!t652) a0_0 a0_1)) else (spec_LeastTime.j0 k a1 true a0_0 a0_1))
theorem spec_LeastTime.mono_l : ∀ k, (∀ y0 y1 y2 y3, LeO (spec_LeastTime.j0 k y0 y1 y2 y3) (spec_LeastTime.j0 (k + 1) y0 y1 y2 y3))
  | 0 => fun _ _ _ _ r h => by simp [spec_LeastTime.j0] at h
  | k + 1 => by
    have ih0 := spec_LeastTime.mono_l k
    · intro y0 y1 y2 y3
      unfold spec_LeastTime.j0
      repeat' first
      | (with_reducible exact ih0 _ _ _ _)
      | (with_reducible exact LeO.refl _)
      | (with_reducible exact LeO.none _)
      | (with_reducible refine LeO.ite ?_ ?_)
      | (with_reducible refine LeO.bind ?_ (fun _ => ?_))
      | exact ih0 _ _ _ _
      | exact LeO.none _
      | refine LeO.ite ?_ ?_
      | refine LeO.bind ?_ (fun _ => ?_)
theorem spec_LeastTime.mono : ∀ a0 a1 a2 k, LeO (spec_LeastTime.f k a0 a1 a2) (spec_LeastTime.f (k + 1) a0 a1 a2) := by
  intro a0 a1 a2 k
  have ih0 := spec_LeastTime.mono_l k
  unfold spec_LeastTime.f
  repeat' first
      | (with_reducible exact ih0 _ _ _ _)
      | (with_reducible exact LeO.refl _)
      | (with_reducible exact LeO.none _)
      | (with_reducible refine LeO.ite ?_ ?_)
      | (with_reducible refine LeO.bind ?_ (fun _ => ?_))
      | exact ih0 _ _ _ _
      | exact LeO.none _
      | refine LeO.ite ?_ ?_
      | refine LeO.bind ?_ (fun _ => ?_)
set_option maxHeartbeats 8000000 in
set_option maxRecDepth 100000 in
theorem spec_LeastTime.calls (k : Nat) (a0_0 : Int) (a0_1 : Int) (a1 : Int) (r1 : Int) (r2 : Bool) (w : World) (h : spec_LeastTime.f k a0_0 a0_1 a1 = some (r1, r2)) :
    Calls Try.prog 22 #[.agg #[.int .i64 a0_0, .int .i64 a0_1], .int .i64 a1] w fun e w' => e = .returned (.tuple #[.int .i64 r1, .bool r2]) ∧ Below w.heap.size w w' := by
  have hu34 := Try.underlying34
  have HB := Aside0.mk (Below.refl w.heap.size w)
  have H : ((spec_DriftOk.f a0_0 a0_1).bind fun t651 => (if t651 = true then ((spec_l2Time.f a1).bind fun t652 => (spec_LeastTime.j0 k a1 (!t652) a0_0 a0_1)) else (spec_LeastTime.j0 k a1 true a0_0 a0_1))) = some (r1, r2) := h
  clear h
  have HC3 := Aside0.mk H
  clear H
  go_enter Try.func22, Try.ntmps22
  go_upto_region 1 with (first | ((with_reducible refine gate_dst (N := 2) rfl ?_); refine box_event ?hg (N := 2) ?hd (cs := #[.int .i64 a0_0, .int .i64 a0_1]) (t := 34) ?hr ?_; (case hd => rfl); (case hg => rfl); (case hr => first | (go_simp; done) | (go_simp; rfl)); intro gb650 hg w4 hbox hb; have n0_ := Aside0.mk (below_step (hb_ HB.out) hb); have n1_ := Aside0.mk (hbox); have n2_ := Aside0.mk ((by rw [hg]; exact (below_size (hb_ HB.out)) : w.heap.size ≤ gb650)); have n3_ := Aside0.mk ((by rw [hg]; exact (below_size (hb_ HB.out)) : w.heap.size ≤ gb650)); clear HB; have HB := n0_; have BK650 := n1_; have GW650 := n2_; have GE650 := n3_; clear n0_ n1_ n2_ n3_; clear hb hbox hg))
  (try simp only [Act.put, List.setIfInBounds_toArray, List.set_cons_zero, List.set_cons_succ])
  go_cut [13] (fun v13 wc => ∃ (kq : Nat) (x13_2 : Bool), v13 = .bool x13_2 ∧ Aside0 (spec_LeastTime.j0 kq a1 x13_2 a0_0 a0_1 = some (r1, r2)) ∧ Aside0 (kq ≤ k) ∧ Aside0 (wc.heap[gb650]? = some (.cells #[.int .i64 a0_0, .int .i64 a0_1] 34 (0, 0))) ∧ Aside0 (Below w.heap.size w wc))
  case first =>
    have H := HC3.out
    clear HC3
    replace H := Option.bind_eq_some_iff.mp H
    obtain ⟨t651, A50, H⟩ := H
    replace H : (if t651 = true then ((spec_l2Time.f a1).bind fun t652 => (spec_LeastTime.j0 k a1 (!t652) a0_0 a0_1)) else (spec_LeastTime.j0 k a1 true a0_0 a0_1)) = some (r1, r2) := H
    have A5 := Aside0.mk A50
    clear A50
    by_cases c6 : t651 = true
    · subst c6
      have H1 : ((spec_l2Time.f a1).bind fun t652 => (spec_LeastTime.j0 k a1 (!t652) a0_0 a0_1)) = some (r1, r2) := by rw [if_pos rfl] at H; exact H
      clear H
      have H := H1
      clear H1
      replace H := Option.bind_eq_some_iff.mp H
      obtain ⟨t652, A70, H⟩ := H
      replace H : (spec_LeastTime.j0 k a1 (!t652) a0_0 a0_1) = some (r1, r2) := H
      have A7 := Aside0.mk A70
      clear A70
      have H' := Aside0.mk H
      clear H
      have hcz8_0 := bc_ BK650.out 0 (.int .i64 a0_0) rfl
      have hcz8_1 := bc_ BK650.out 1 (.int .i64 a0_1) rfl
      have hfz8_0 := blk_frozen BK650.out 0
      have hfz8_1 := blk_frozen BK650.out 1
      go_wp2_with (first | ((with_reducible refine gate_callee (f := 37) rfl ?_); refine goesL_ (some 7) rfl rfl Try.func37 (by kernel_rfl) rfl #[.agg #[.int .i64 a0_0, .int .i64 a0_1]] rfl arr_ ?_; (with_reducible refine (spec_DriftOk.calls a0_0 a0_1 true _ A5.out).mono ?_); rintro e w9 ⟨rfl, hb⟩; refine ⟨_, rfl, ?_⟩; have n0_ := Aside0.mk (bb_ BK650.out hb); have n1_ := Aside0.mk (below_step (hb1_ HB.out GE650.out) hb); clear BK650; clear HB; have BK650 := n0_; have HB := n1_; clear n0_ n1_; (try clear hb); (try clear hb2); (try clear hk); (try clear hi)) | (go_at_call 67; (with_reducible refine (spec_l2Time.calls a1 t652 _ A7.out).mono ?_); rintro e w' ⟨rfl, ⟨nd, rfl⟩⟩))
      go_meet
      case rel => exact ⟨_, (!t652), (by first | rfl | (simp; done) | (simp [*]; done)), H', ⟨by first | omega | exact Nat.le_refl _⟩, ⟨bk_ BK650.out⟩, ⟨hb1_ HB.out GE650.out⟩⟩
    · replace c6 := Bool.eq_false_iff.mpr c6
      subst c6
      have H1 : (spec_LeastTime.j0 k a1 true a0_0 a0_1) = some (r1, r2) := by rw [if_neg (show ¬ (false = true) by decide)] at H; exact H
      clear H
      have H := H1
      clear H1
      have H' := Aside0.mk H
      clear H
      have hcz10_0 := bc_ BK650.out 0 (.int .i64 a0_0) rfl
      have hcz10_1 := bc_ BK650.out 1 (.int .i64 a0_1) rfl
      have hfz10_0 := blk_frozen BK650.out 0
      have hfz10_1 := blk_frozen BK650.out 1
      go_wp2_with (first | ((with_reducible refine gate_callee (f := 37) rfl ?_); refine goesL_ (some 7) rfl rfl Try.func37 (by kernel_rfl) rfl #[.agg #[.int .i64 a0_0, .int .i64 a0_1]] rfl arr_ ?_; (with_reducible refine (spec_DriftOk.calls a0_0 a0_1 false _ A5.out).mono ?_); rintro e w11 ⟨rfl, hb⟩; refine ⟨_, rfl, ?_⟩; have n0_ := Aside0.mk (bb_ BK650.out hb); have n1_ := Aside0.mk (below_step (hb1_ HB.out GE650.out) hb); clear BK650; clear HB; have BK650 := n0_; have HB := n1_; clear n0_ n1_; (try clear hb); (try clear hb2); (try clear hk); (try clear hi)))
      go_meet
      case rel => exact ⟨_, (true), (by first | rfl | (simp; done) | (simp [*]; done)), H', ⟨by first | omega | exact Nat.le_refl _⟩, ⟨bk_ BK650.out⟩, ⟨hb1_ HB.out GE650.out⟩⟩
  case rest =>
    clear HC3
    try clear c2
    try clear p2
    try clear c3
    try clear c6
    try clear hcz10_0
    try clear hcz10_1
    try clear hcz8_0
    try clear hcz8_1
    try clear hfz10_0
    try clear hfz10_1
    try clear hfz8_0
    try clear hfz8_1
    obtain ⟨kq, x13_2, rfl, HA, HJ2, BK650, HB⟩ := hcut
    cases kq with
    | zero => exact absurd HA.out (by simp [spec_LeastTime.j0])
    | succ kj2 =>
      have H := HA.out
      clear HA
      simp only [spec_LeastTime.j0] at H
      by_cases c12 : x13_2 = true
      · subst c12
        have H1 : (some (0, false)) = some (r1, r2) := by rw [if_pos rfl] at H; exact H
        clear H
        have H := H1
        clear H1
        simp only [Option.some.injEq, Prod.mk.injEq] at H
        obtain ⟨rfl, rfl⟩ := H
        go_wp2
        go_ret2
        exact ⟨er_, hb1_ HB.out GE650.out⟩
      · replace c12 := Bool.eq_false_iff.mpr c12
        subst c12
        have H1 : ((spec_l1Up.f (wrap64 (a1 * a0_1)) (wrap64 (a0_1 + a0_0))).bind fun t653 => ((spec_l2Told.f t653).bind fun bt654 => (some (bt654.1, bt654.2)))) = some (r1, r2) := by rw [if_neg (show ¬ (false = true) by decide)] at H; exact H
        clear H
        have H := H1
        clear H1
        replace H := Option.bind_eq_some_iff.mp H
        obtain ⟨t653, A130, H⟩ := H
        replace H : ((spec_l2Told.f t653).bind fun bt654 => (some (bt654.1, bt654.2))) = some (r1, r2) := H
        have A13 := Aside0.mk A130
        clear A130
        replace H := Option.bind_eq_some_iff.mp H
        obtain ⟨⟨t654, t655⟩, A140, H⟩ := H
        replace H : (some (t654, t655)) = some (r1, r2) := H
        have A14 := Aside0.mk A140
        clear A140
        simp only [Option.some.injEq, Prod.mk.injEq] at H
        obtain ⟨rfl, rfl⟩ := H
        have hcz15_0 := bc_ BK650.out 0 (.int .i64 a0_0) rfl
        have hcz15_1 := bc_ BK650.out 1 (.int .i64 a0_1) rfl
        have hfz15_0 := blk_frozen BK650.out 0
        have hfz15_1 := blk_frozen BK650.out 1
        go_wp2_with (first | ((with_reducible refine gate_callee (f := 70) rfl ?_); refine goesL_ (some 23) rfl rfl Try.func70 (by kernel_rfl) rfl #[.int .i64 (wrap64 (a1 * a0_1)), .int .i64 (wrap64 (a0_1 + a0_0))] rfl arr_ ?_; (with_reducible refine (spec_l1Up.calls (wrap64 (a1 * a0_1)) (wrap64 (a0_1 + a0_0)) t653 _ A13.out).mono ?_); rintro e w' ⟨rfl, ⟨nd, rfl⟩⟩; refine ⟨_, rfl, ?_⟩) | ((with_reducible refine gate_callee (f := 68) rfl ?_); refine goesL_ (some 24) rfl rfl Try.func68 (by kernel_rfl) rfl #[.int .i64 t653] rfl arr_ ?_; (with_reducible refine (spec_l2Told.calls t653 t654 t655 _ A14.out).mono ?_); rintro e w' ⟨rfl, ⟨nd, rfl⟩⟩; refine ⟨_, rfl, ?_⟩))
        go_ret2
        exact ⟨er_, hb1_ HB.out GE650.out⟩
def impl_down.f (a0 : Int) (a1 : Int) : Option (Int) := if a1 = 0 then (none) else (if (Int.tmod a0 a1) < 0 then (some (wrap64 ((wrap64 (Int.tdiv a0 a1)) - 1))) else (some (wrap64 (Int.tdiv a0 a1))))
set_option maxHeartbeats 8000000 in
set_option maxRecDepth 100000 in
theorem impl_down.calls (a0 : Int) (a1 : Int) (r : Int) (w : World) (h : impl_down.f a0 a1 = some r) :
    Calls Try.prog 104 #[.int .i64 a0, .int .i64 a1] w fun e w' => e = .returned (.int .i64 r) ∧ Drawn0 w w' := by
  have H : (if a1 = 0 then (none) else (if (Int.tmod a0 a1) < 0 then (some (wrap64 ((wrap64 (Int.tdiv a0 a1)) - 1))) else (some (wrap64 (Int.tdiv a0 a1))))) = some r := h
  clear h
  by_cases c3 : a1 = 0
  · rw [if_pos c3] at H
    exact absurd H (by simp)
  · rw [if_neg c3] at H
    have c3b0 : (a1 == 0) = false := beq_eq_false_iff_ne.mpr c3
    have c3b1 : (a1 != 0) = true := bne_iff_ne.mpr c3
    by_cases c4 : (Int.tmod a0 a1) < 0
    · rw [if_pos c4] at H
      have c4b0 : decide ((Int.tmod a0 a1) < 0) = true := decide_eq_true c4
      clear c4
      obtain rfl := Option.some.inj H
      go_enter Try.func104, Try.ntmps104
      go_wp2
      go_ret
      exact ⟨by first | rfl | (simp; done) | (simp [*]; done), by repeat (first | exact Drawn0.refl _ | apply Drawn0.step)⟩
    · rw [if_neg c4] at H
      have c4b0 : decide ((Int.tmod a0 a1) < 0) = false := decide_eq_false c4
      clear c4
      obtain rfl := Option.some.inj H
      go_enter Try.func104, Try.ntmps104
      go_wp2
      go_ret
      exact ⟨by first | rfl | (simp; done) | (simp [*]; done), by repeat (first | exact Drawn0.refl _ | apply Drawn0.step)⟩
def impl_up.f (a0 : Int) (a1 : Int) : Option (Int) := (impl_down.f (wrap64 (-a0)) a1).bind fun t778 => (some (wrap64 (-t778)))
set_option maxHeartbeats 8000000 in
set_option maxRecDepth 100000 in
theorem impl_up.calls (a0 : Int) (a1 : Int) (r : Int) (w : World) (h : impl_up.f a0 a1 = some r) :
    Calls Try.prog 100 #[.int .i64 a0, .int .i64 a1] w fun e w' => e = .returned (.int .i64 r) ∧ Drawn0 w w' := by
  have H : ((impl_down.f (wrap64 (-a0)) a1).bind fun t778 => (some (wrap64 (-t778)))) = some r := h
  clear h
  replace H := Option.bind_eq_some_iff.mp H
  obtain ⟨t778, A30, H⟩ := H
  replace H : (some (wrap64 (-t778))) = some r := H
  have A3 := Aside0.mk A30
  clear A30
  obtain rfl := Option.some.inj H
  go_enter Try.func100, Try.ntmps100
  go_wp2_with (first | ((with_reducible refine gate_callee (f := 104) rfl ?_); refine goesL_ (some 8) rfl rfl Try.func104 (by kernel_rfl) rfl #[.int .i64 (wrap64 (-a0)), .int .i64 a1] rfl arr_ ?_; (with_reducible refine (impl_down.calls (wrap64 (-a0)) a1 t778 _ A3.out).mono ?_); rintro e w' ⟨rfl, ⟨nd, rfl⟩⟩; refine ⟨_, rfl, ?_⟩))
  go_ret
  exact ⟨by first | rfl | (simp; done) | (simp [*]; done), by repeat (first | exact Drawn0.refl _ | apply Drawn0.step)⟩
end Go.Proofs.Ytejohmompmjhnaa.P
namespace Go.Proofs.Ytejohmompmjhnaa.P
open Go.RowKit Go.Proofs.YtejohmompmjhnaaW.PrintWords Go.Proofs.YtejohmompmjhnaaW.PrintLast Go.Proofs.YtejohmompmjhnaaW.PrintMore
attribute [local go_sem] max2_int min2_int max_two min_two max_three min_three max_four min_four
set_option linter.unusedVariables false
set_option linter.unusedSimpArgs false
set_option maxHeartbeats 8000000 in
set_option maxRecDepth 100000 in
theorem impl_LeastTime_1.calls (gx gd : Nat) (num den x y : Int) (w : World) (hx : w.heap[gx]? = some (.cells #[.int .i64 x] 3 (0, 0))) (hd : w.heap[gd]? = some (.cells #[.int .i64 num, .int .i64 den] 34 (0, 0))) (hu : impl_up.f (wrap64 (x * den)) (wrap64 (den + num)) = some y) :
    Calls Try.prog 99 #[.pointer (some ⟨gx, 0, none⟩), .pointer (some ⟨gd, 0, none⟩)] w fun e w' => e = .returned (.int .i64 y) ∧ Below w.heap.size w w' := by
  have hu0 := Try.underlying34
  have HB := Aside0.mk (Below.refl w.heap.size w)
  have h1 : w.cell? ⟨gx, 0, none⟩ = some (.int .i64 x) := (blk_cell hx 0).trans rfl
  have h2 : w.cell? ⟨gd, 0, none⟩ = some (.int .i64 num) := (blk_cell hd 0).trans rfl
  have h3 : w.cell? ⟨gd, 1, none⟩ = some (.int .i64 den) := (blk_cell hd 1).trans rfl
  have z1 := blk_frozen hx 0
  have z2 := blk_frozen hd 0
  have z3 := blk_frozen hd 1
  clear hx hd
  have A1 := Aside0.mk hu
  clear hu
  go_enter Try.func99, Try.ntmps99
  go_wp2_with (first | (go_at_call 100; (with_reducible refine (impl_up.calls (wrap64 (x * den)) (wrap64 (den + num)) y _ A1.out).mono ?_); rintro e w' ⟨rfl, ⟨nd, rfl⟩⟩))
  go_ret
  exact ⟨rfl, hb_ HB.out⟩
end Go.Proofs.Ytejohmompmjhnaa.P
namespace Go.Proofs.Ytejohmompmjhnaa.P
open Go.RowKit Go.Proofs.YtejohmompmjhnaaW.PrintWords Go.Proofs.YtejohmompmjhnaaW.PrintLast Go.Proofs.YtejohmompmjhnaaW.PrintMore
attribute [local go_sem] max2_int min2_int max_two min_two max_three min_three max_four min_four
set_option linter.unusedVariables false
set_option linter.unusedSimpArgs false
def impl_LeastTime.f (a0_0 : Int) (a0_1 : Int) (a1 : Int) : Option (Int × Bool) := (impl_DriftOk.f a0_0 a0_1).bind fun t1 => (if t1 = true then ((impl_up.f (wrap64 (a1 * a0_1)) (wrap64 (a0_1 + a0_0))).bind fun y => (impl_bounded.f a0_0 a0_1 a1 y)) else (impl_bounded.f a0_0 a0_1 a1 0))
set_option maxHeartbeats 8000000 in
set_option maxRecDepth 100000 in
theorem impl_LeastTime.calls (num den x : Int) (r1 : Int) (r2 : Bool) (w : World) (h : impl_LeastTime.f num den x = some (r1, r2)) :
    Calls Try.prog 80 #[.agg #[.int .i64 num, .int .i64 den], .int .i64 x] w fun e w' => e = .returned (.tuple #[.int .i64 r1, .bool r2]) ∧ Below w.heap.size w w' := by
  have hu0 := Try.underlying34
  have HB := Aside0.mk (Below.refl w.heap.size w)
  unfold impl_LeastTime.f at h
  obtain ⟨t1, A1, H⟩ := Option.bind_eq_some_iff.mp h
  clear h
  have A1 := Aside0.mk A1
  cases t1 with
  | false =>
    rw [if_neg (by decide)] at H
    have H := Aside0.mk H
    go_enter Try.func80, Try.ntmps80
    go_wp2_with (first | ((with_reducible refine gate_dst (N := 2) rfl ?_); refine box_event ?hg (N := 2) ?hd (cs := #[.int .i64 num, .int .i64 den]) (t := 34) ?hr ?_; (case hd => rfl); (case hg => rfl); (case hr => first | (go_simp; done) | (go_simp; rfl)); intro gd hg w1 hbox hb; have n0_ := Aside0.mk (below_step (hb_ HB.out) hb); clear HB; have HB := n0_; clear n0_; have Bgd := Aside0.mk (hbox); clear hb hbox hg; have hcgd0_w1 : w1.cell? ⟨gd, 0, none⟩ = some (.int .i64 num) := (blk_cell Bgd.out 0).trans rfl; have hzgd0_w1 := blk_frozen Bgd.out 0; have hcgd1_w1 : w1.cell? ⟨gd, 1, none⟩ = some (.int .i64 den) := (blk_cell Bgd.out 1).trans rfl; have hzgd1_w1 := blk_frozen Bgd.out 1) | ((with_reducible refine gate_dst (N := 3) rfl ?_); refine box_event ?hg (N := 3) ?hd (cs := #[.int .i64 x]) (t := 3) ?hr ?_; (case hd => rfl); (case hg => rfl); (case hr => first | (go_simp; done) | (go_simp; rfl)); intro gx hg w2 hbox hb; have oBgd := Aside0.mk (blk_below (bk_ Bgd.out) hb); have n0_ := Aside0.mk (below_step (hb_ HB.out) hb); clear HB; have HB := n0_; clear n0_; clear Bgd; have Bgd := oBgd; clear oBgd; have Bgx := Aside0.mk (hbox); clear hb hbox hg; have hcgd0_w2 : w2.cell? ⟨gd, 0, none⟩ = some (.int .i64 num) := (blk_cell Bgd.out 0).trans rfl; have hzgd0_w2 := blk_frozen Bgd.out 0; have hcgd1_w2 : w2.cell? ⟨gd, 1, none⟩ = some (.int .i64 den) := (blk_cell Bgd.out 1).trans rfl; have hzgd1_w2 := blk_frozen Bgd.out 1; have hcgx0_w2 : w2.cell? ⟨gx, 0, none⟩ = some (.int .i64 x) := (blk_cell Bgx.out 0).trans rfl; have hzgx0_w2 := blk_frozen Bgx.out 0) | ((go_at_call 90); (with_reducible refine (impl_bounded.calls num den x 0 99 #[.pointer (some ⟨gx, 0, none⟩), .pointer (some ⟨gd, 0, none⟩)] r1 r2 _ Try.f99 Try.func99 (by kernel_rfl) rfl ?_ H.out).mono ?_); (exact fun h1 => absurd (A1.out.symm.trans h1) (by simp)); rintro e w4 ⟨rfl, hb⟩; have n0_ := Aside0.mk (below_step (hb_ HB.out) hb); clear HB; have HB := n0_; clear n0_; (try clear hb)))
    go_ret2
    exact ⟨rfl, hb_ HB.out⟩
  | true =>
    rw [if_pos rfl] at H
    obtain ⟨y, A2, H⟩ := Option.bind_eq_some_iff.mp H
    have A2 := Aside0.mk A2
    have H := Aside0.mk H
    go_enter Try.func80, Try.ntmps80
    go_wp2_with (first | ((with_reducible refine gate_dst (N := 2) rfl ?_); refine box_event ?hg (N := 2) ?hd (cs := #[.int .i64 num, .int .i64 den]) (t := 34) ?hr ?_; (case hd => rfl); (case hg => rfl); (case hr => first | (go_simp; done) | (go_simp; rfl)); intro gd hg w1 hbox hb; have n0_ := Aside0.mk (below_step (hb_ HB.out) hb); clear HB; have HB := n0_; clear n0_; have Bgd := Aside0.mk (hbox); clear hb hbox hg; have hcgd0_w1 : w1.cell? ⟨gd, 0, none⟩ = some (.int .i64 num) := (blk_cell Bgd.out 0).trans rfl; have hzgd0_w1 := blk_frozen Bgd.out 0; have hcgd1_w1 : w1.cell? ⟨gd, 1, none⟩ = some (.int .i64 den) := (blk_cell Bgd.out 1).trans rfl; have hzgd1_w1 := blk_frozen Bgd.out 1) | ((with_reducible refine gate_dst (N := 3) rfl ?_); refine box_event ?hg (N := 3) ?hd (cs := #[.int .i64 x]) (t := 3) ?hr ?_; (case hd => rfl); (case hg => rfl); (case hr => first | (go_simp; done) | (go_simp; rfl)); intro gx hg w2 hbox hb; have oBgd := Aside0.mk (blk_below (bk_ Bgd.out) hb); have n0_ := Aside0.mk (below_step (hb_ HB.out) hb); clear HB; have HB := n0_; clear n0_; clear Bgd; have Bgd := oBgd; clear oBgd; have Bgx := Aside0.mk (hbox); clear hb hbox hg; have hcgd0_w2 : w2.cell? ⟨gd, 0, none⟩ = some (.int .i64 num) := (blk_cell Bgd.out 0).trans rfl; have hzgd0_w2 := blk_frozen Bgd.out 0; have hcgd1_w2 : w2.cell? ⟨gd, 1, none⟩ = some (.int .i64 den) := (blk_cell Bgd.out 1).trans rfl; have hzgd1_w2 := blk_frozen Bgd.out 1; have hcgx0_w2 : w2.cell? ⟨gx, 0, none⟩ = some (.int .i64 x) := (blk_cell Bgx.out 0).trans rfl; have hzgx0_w2 := blk_frozen Bgx.out 0) | ((go_at_call 90); (with_reducible refine (impl_bounded.calls num den x y 99 #[.pointer (some ⟨gx, 0, none⟩), .pointer (some ⟨gd, 0, none⟩)] r1 r2 _ Try.f99 Try.func99 (by kernel_rfl) rfl ?_ H.out).mono ?_); (exact fun _ _ W hW => impl_LeastTime_1.calls gx gd num den x y W (blk_below (bk_ Bgx.out) hW) (blk_below (bk_ Bgd.out) hW) A2.out); rintro e w4 ⟨rfl, hb⟩; have n0_ := Aside0.mk (below_step (hb_ HB.out) hb); clear HB; have HB := n0_; clear n0_; (try clear hb)))
    go_ret2
    exact ⟨rfl, hb_ HB.out⟩
end Go.Proofs.Ytejohmompmjhnaa.P
namespace Go.Proofs.Ytejohmompmjhnaa.C
open Go.RowKit Go.Proofs.Ytejohmompmjhnaa.P Go.Proofs.Ytejohmompmjhnaa.G
def driftOk (n d : Int) : Bool := decide (1 ≤ d ∧ d ≤ 1000000) && decide (0 ≤ n ∧ n ≤ d) && decide (2 * n ≤ d)
theorem driftOk_iff (n d : Int) : driftOk n d = true ↔ 1 ≤ d ∧ d ≤ 1000000 ∧ 0 ≤ n ∧ 2 * n ≤ d := by
  unfold driftOk; simp; omega
theorem sDriftOk (n d : Int) : spec_DriftOk.f n d = some (driftOk n d) := by
  unfold spec_DriftOk.f driftOk; simp only [l1In, Option.bind_some]
  by_cases h1 : (1 ≤ d ∧ d ≤ 1000000)
  · by_cases h2 : (0 ≤ n ∧ n ≤ d)
    · rw [wrap_id (by omega) (by omega)]; simp [h1, h2]
    · simp [h1, h2]
  · simp [h1]
theorem iDriftOk (n d : Int) : impl_DriftOk.f n d = some (driftOk n d) := by
  unfold impl_DriftOk.f driftOk; simp only [in_, Option.bind_some]
  by_cases h1 : (1 ≤ d ∧ d ≤ 1000000)
  · by_cases h2 : (0 ≤ n ∧ n ≤ d)
    · rw [wrap_id (by omega) (by omega)]; simp [h1, h2]
    · simp [h1, h2]
  · simp [h1]
theorem mul_bd {x d : Int} (hx : 0 ≤ x ∧ x ≤ 1000000000000) (hd : 0 ≤ d ∧ d ≤ 1000000) : 0 ≤ x * d ∧ x * d ≤ 1000000000000000000 := by
  refine ⟨Int.mul_nonneg hx.1 hd.1, ?_⟩
  calc x * d ≤ 1000000000000 * d := Int.mul_le_mul_of_nonneg_right hx.2 hd.1
    _ ≤ 1000000000000 * 1000000 := Int.mul_le_mul_of_nonneg_left hd.2 (by omega)
theorem ediv_bd {a b : Int} (ha : 0 ≤ a) (hb : 1 ≤ b) : 0 ≤ a / b ∧ a / b ≤ a :=
  ⟨Int.ediv_nonneg ha (by omega), Int.ediv_le_self _ ha⟩
theorem down_eq {a b : Int} (hb : 1 ≤ b) : (if Int.tmod a b < 0 then Int.tdiv a b - 1 else Int.tdiv a b) = a / b := by
  have h1 := Int.mul_tdiv_add_tmod a b
  have h2 := Int.mul_ediv_add_emod a b
  have h3 := Int.emod_nonneg a (by omega : b ≠ 0)
  have h4 := Int.emod_lt_of_pos a (by omega : 0 < b)
  have h5 := Int.tmod_lt_of_pos a (by omega : 0 < b)
  rcases Int.lt_or_le a 0 with h | h
  · have h6 : -b < Int.tmod a b := by
      have := Int.tmod_lt_of_pos (-a) (by omega : 0 < b); rw [Int.neg_tmod] at this; omega
    split
    · have e : b * (Int.tdiv a b - 1) + (Int.tmod a b + b) = b * (a / b) + a % b := by rw [Int.mul_sub, Int.mul_one]; omega
      have : b * (Int.tdiv a b - 1 - a / b) = a % b - (Int.tmod a b + b) := by rw [Int.mul_sub]; omega
      rcases Int.lt_trichotomy (Int.tdiv a b - 1 - a / b) 0 with c | c | c
      · have : b * (Int.tdiv a b - 1 - a / b) ≤ b * (-1) := Int.mul_le_mul_of_nonneg_left (by omega) (by omega); omega
      · omega
      · have : b * 1 ≤ b * (Int.tdiv a b - 1 - a / b) := Int.mul_le_mul_of_nonneg_left (by omega) (by omega); omega
    · rename_i h7
      have : b * (Int.tdiv a b - a / b) = a % b - Int.tmod a b := by rw [Int.mul_sub]; omega
      rcases Int.lt_trichotomy (Int.tdiv a b - a / b) 0 with c | c | c
      · have : b * (Int.tdiv a b - a / b) ≤ b * (-1) := Int.mul_le_mul_of_nonneg_left (by omega) (by omega); omega
      · omega
      · have : b * 1 ≤ b * (Int.tdiv a b - a / b) := Int.mul_le_mul_of_nonneg_left (by omega) (by omega); omega
  · rw [if_neg (by have := Int.tmod_nonneg b h; omega), Int.tdiv_eq_ediv_of_nonneg h]
theorem iDown {a b : Int} (hb : 1 ≤ b) (ha : -1000000000000000000 ≤ a ∧ a ≤ 1000000000000000000) : impl_down.f a b = some (a / b) := by
  have hd := down_eq (a := a) hb
  have hq : -1000000000000000000 ≤ a / b ∧ a / b ≤ 1000000000000000000 := by
    rcases Int.lt_or_le a 0 with h | h
    · have h2 := Int.mul_ediv_add_emod a b
      have h3 := Int.emod_nonneg a (by omega : b ≠ 0)
      have h4 : a / b < 0 := Int.ediv_neg_of_neg_of_pos h (by omega)
      have h5 : a ≤ a / b := by
        have e : b * (a / b) ≤ 1 * (a / b) := by
          have := Int.mul_le_mul_of_nonpos_right hb (by omega : a / b ≤ 0); exact this
        have h6 := Int.emod_lt_of_pos a (by omega : 0 < b)
        rcases Int.lt_or_le (a / b) a with c | c
        · have : b * (a / b) ≤ b * (a - 1) := Int.mul_le_mul_of_nonneg_left (by omega) (by omega)
          have : b * (a - 1) = b * a - b := by rw [Int.mul_sub, Int.mul_one]
          have : b * a ≤ 1 * a := Int.mul_le_mul_of_nonpos_right hb (by omega)
          omega
        · exact c
      omega
    · have := ediv_bd h hb; omega
  unfold impl_down.f
  rw [if_neg (by omega)]
  by_cases h : Int.tmod a b < 0
  · rw [if_pos h] at hd ⊢
    rw [wrap_id (x := Int.tdiv a b) (by omega) (by omega), hd, wrap_id (by omega) (by omega)]
  · rw [if_neg h] at hd ⊢
    rw [hd, wrap_id (by omega) (by omega)]
theorem sDown {a b : Int} (hb : 1 ≤ b) (ha : -1000000000000000000 ≤ a ∧ a ≤ 1000000000000000000) : spec_l1Down.f a b = some (a / b) := iDown hb ha
def mostTime (n d x : Int) : Int × Bool := if (driftOk n d && timeOk x) = true then (if x * d / (d - n) ≤ 1000000000000 then (x * d / (d - n), true) else (0, false)) else (0, false)
def leastTime (n d x : Int) : Int × Bool := if (driftOk n d && timeOk x) = true then (if -(-(x * d) / (d + n)) ≤ 1000000000000 then (-(-(x * d) / (d + n)), true) else (0, false)) else (0, false)
theorem told (x : Int) : spec_l2Told.f x = some (if x ≤ 1000000000000 then (x, true) else (0, false)) := by
  unfold spec_l2Told.f; by_cases h : x > 1000000000000
  · rw [if_pos h, if_neg (by omega)]
  · rw [if_neg h, if_pos (by omega)]
theorem up_bd {x n d : Int} (h : driftOk n d = true) (hx : timeOk x = true) : -(1000000000000000000 : Int) ≤ -(-(x * d) / (d + n)) ∧ -(-(x * d) / (d + n)) ≤ 1000000000000000000 := by
  rw [driftOk_iff] at h; rw [timeOk_iff] at hx
  have hm := mul_bd hx (d := d) (by omega)
  have h2 := Int.mul_ediv_add_emod (-(x * d)) (d + n)
  have h3 := Int.emod_nonneg (-(x * d)) (by omega : d + n ≠ 0)
  have h4 := Int.emod_lt_of_pos (-(x * d)) (by omega : 0 < d + n)
  have h5 : -(x * d) / (d + n) ≤ 0 := by
    rcases Int.lt_or_le 0 (-(x * d) / (d + n)) with c | c
    · have : (d + n) * 1 ≤ (d + n) * (-(x * d) / (d + n)) := Int.mul_le_mul_of_nonneg_left (by omega) (by omega); omega
    · exact c
  have h6 : -(x * d) ≤ -(x * d) / (d + n) := by
    rcases Int.lt_or_le (-(x * d) / (d + n)) (-(x * d)) with c | c
    · have e1 : (d + n) * (-(x * d) / (d + n)) ≤ (d + n) * (-(x * d) - 1) := Int.mul_le_mul_of_nonneg_left (by omega) (by omega)
      have e2 : (d + n) * (-(x * d) - 1) = (d + n) * (-(x * d)) - (d + n) := by rw [Int.mul_sub, Int.mul_one]
      have e3 : (d + n) * (-(x * d)) ≤ 1 * (-(x * d)) := Int.mul_le_mul_of_nonpos_right (by omega) (by omega)
      omega
    · exact c
  omega
theorem sMostTime (k : Nat) (n d x : Int) (hk : 1 ≤ k) : spec_MostTime.f k n d x = some (mostTime n d x) := by
  obtain ⟨k, rfl⟩ : ∃ j, k = j + 1 := ⟨k - 1, by omega⟩
  unfold spec_MostTime.f mostTime; simp only [sDriftOk, l2Time, Option.bind_some, spec_MostTime.j0]
  change (if driftOk n d = true then (if (!timeOk x) = true then _ else _) else _) = _
  cases h1 : driftOk n d with
  | false => simp
  | true =>
    cases h2 : timeOk x with
    | false => simp
    | true =>
      rw [driftOk_iff] at h1; rw [timeOk_iff] at h2
      have hm := mul_bd h2 (d := d) (by omega)
      simp only [Bool.not_true, Bool.false_eq_true, if_false, if_true, Bool.and_true]
      rw [wrap_id (x := x * d) (by omega) (by omega), wrap_id (x := d - n) (by omega) (by omega), sDown (by omega) (by omega)]
      simp only [Option.bind_some, told]
theorem iBounded (n d x y : Int) : impl_bounded.f n d x y = some (if (driftOk n d && timeOk x) = true then (if y ≤ 1000000000000 then (y, true) else (0, false)) else (0, false)) := by
  unfold impl_bounded.f; simp only [iDriftOk, isTime, Option.bind_some]
  change (if driftOk n d = true then (if timeOk x = true then _ else _) else _) = _
  cases h1 : driftOk n d <;> cases h2 : timeOk x <;> simp
  split <;> rfl
theorem iMostTime (n d x : Int) : impl_MostTime.f n d x = some (mostTime n d x) := by
  unfold impl_MostTime.f mostTime; simp only [iDriftOk, Option.bind_some, iBounded]
  cases h1 : driftOk n d with
  | false => simp
  | true =>
    have h1' := h1
    rw [driftOk_iff] at h1'
    rw [if_pos rfl, wrap_id (x := d - n) (by omega) (by omega), if_neg (by omega)]
    cases h2 : timeOk x with
    | false => simp
    | true =>
      rw [timeOk_iff] at h2
      have hm := mul_bd h2 (d := d) (by omega)
      have hq := ediv_bd hm.1 (b := d - n) (by omega)
      rw [wrap_id (x := x * d) (by omega) (by omega), Int.tdiv_eq_ediv_of_nonneg hm.1, wrap_id (by omega) (by omega)]
theorem sLeastTime (k : Nat) (n d x : Int) (hk : 1 ≤ k) : spec_LeastTime.f k n d x = some (leastTime n d x) := by
  obtain ⟨k, rfl⟩ : ∃ j, k = j + 1 := ⟨k - 1, by omega⟩
  unfold spec_LeastTime.f leastTime; simp only [sDriftOk, l2Time, Option.bind_some, spec_LeastTime.j0]
  change (if driftOk n d = true then (if (!timeOk x) = true then _ else _) else _) = _
  cases h1 : driftOk n d with
  | false => simp
  | true =>
    cases h2 : timeOk x with
    | false => simp
    | true =>
      have hu := up_bd h1 h2
      rw [driftOk_iff] at h1; rw [timeOk_iff] at h2
      have hm := mul_bd h2 (d := d) (by omega)
      simp only [Bool.not_true, Bool.false_eq_true, if_false, if_true, Bool.and_true]
      unfold spec_l1Up.f
      rw [wrap_id (x := x * d) (by omega) (by omega), wrap_id (x := d + n) (by omega) (by omega), wrap_id (x := -(x * d)) (by omega) (by omega), sDown (by omega) (by omega)]
      simp only [Option.bind_some]
      rw [wrap_id (by omega) (by omega)]
      simp only [told, Option.bind_some]
theorem iLeastTime (n d x : Int) (hx : -9223372036854775808 ≤ x ∧ x ≤ 9223372036854775807) : impl_LeastTime.f n d x = some (leastTime n d x) := by
  unfold impl_LeastTime.f leastTime; simp only [iDriftOk, Option.bind_some]
  cases h1 : driftOk n d with
  | false => simp [iBounded, h1]
  | true =>
    have h1' := h1
    rw [driftOk_iff] at h1'
    rw [if_pos rfl, wrap_id (x := d + n) (by omega) (by omega)]
    cases h2 : timeOk x with
    | false =>
      unfold impl_up.f impl_down.f
      rw [if_neg (by omega)]
      have : ∃ v, (if (wrap64 (-wrap64 (x * d))).tmod (d + n) < 0 then some (wrap64 (wrap64 ((wrap64 (-wrap64 (x * d))).tdiv (d + n)) - 1)) else some (wrap64 ((wrap64 (-wrap64 (x * d))).tdiv (d + n)))) = some v := by split <;> exact ⟨_, rfl⟩
      obtain ⟨v, hv⟩ := this
      rw [hv]; simp [iBounded, h1, h2]
    | true =>
      have hu := up_bd h1 h2
      have h2' := h2
      rw [timeOk_iff] at h2'
      have hm := mul_bd h2' (d := d) (by omega)
      unfold impl_up.f
      rw [wrap_id (x := x * d) (by omega) (by omega), wrap_id (x := -(x * d)) (by omega) (by omega), iDown (by omega) (by omega)]
      simp only [Option.bind_some]
      rw [wrap_id (by omega) (by omega), iBounded, h1, h2]
def spread (a b x y : Int) : Int × Int × Bool := if ivalOk a b && decide (0 ≤ x ∧ x ≤ 2000000000000) && decide (0 ≤ y ∧ y ≤ 2000000000000) then ivalT (a - x) (b + y) else (0, 0, false)
theorem sSpread (a b x y : Int) : spec_Spread.f a b x y = some (spread a b x y) := by
  unfold spec_Spread.f spread; simp only [sIvalOk, l1In, Option.bind_some]
  cases h1 : ivalOk a b with
  | false => simp
  | true =>
    rw [ivalOk_iff] at h1
    by_cases h2 : (0 ≤ x ∧ x ≤ 2000000000000)
    · by_cases h3 : (0 ≤ y ∧ y ≤ 2000000000000)
      · rw [wrap_id (by omega) (by omega), wrap_id (by omega) (by omega)]; simp [h2, h3, sTold]
      · simp [h2, h3]
    · simp [h2]
theorem iSpread (a b x y : Int) : impl_Spread.f a b x y = some (spread a b x y) := by
  unfold impl_Spread.f spread; simp only [iIvalOk, in_, Option.bind_some]
  cases h1 : ivalOk a b with
  | false => simp
  | true =>
    rw [ivalOk_iff] at h1
    by_cases h2 : (0 ≤ x ∧ x ≤ 2000000000000)
    · by_cases h3 : (0 ≤ y ∧ y ≤ 2000000000000)
      · rw [wrap_id (by omega) (by omega), wrap_id (by omega) (by omega)]; simp [h2, h3, iIval]
      · simp [h2, h3]
    · simp [h2]
def gateSpan (a b n d x : Int) : Int × Int × Bool := if (mostTime n d x).2 = true then (if x < 1 then (0, 0, false) else spread a b 0 (mostTime n d x).1) else (0, 0, false)
theorem sGateSpan (k : Nat) (a b n d x : Int) (hk : 1 ≤ k) : spec_GateSpan.f k a b n d x = some (gateSpan a b n d x) := by
  unfold spec_GateSpan.f gateSpan; simp only [sMostTime k n d x hk, sSpread, Option.bind_some]
  split
  · split <;> rfl
  · rfl
theorem iGateSpan (a b n d x : Int) : impl_GateSpan.f a b n d x = some (gateSpan a b n d x) := by
  unfold impl_GateSpan.f gateSpan; simp only [iMostTime n d x, iSpread, Option.bind_some]
  split
  · split <;> rfl
  · rfl
end Go.Proofs.Ytejohmompmjhnaa.C
