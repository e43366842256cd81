/- Texts of the seat's proofs, part 13: functions of the program told as plain functions, with their contracts, and what is shown of them. No condition. -/
import Derived.Test.YtejohmompmjhnaaU
import Derived.Test.YtejohmompmjhnaaM1
import Derived.Test.YtejohmompmjhnaaM3
import Derived.Test.YtejohmompmjhnaaM6
import Derived.Test.YtejohmompmjhnaaM8
set_option linter.unusedVariables false
set_option linter.unusedSimpArgs false
namespace Go.Proofs.Ytejohmompmjhnaa.P
open Go.RowKit Go.Proofs.YtejohmompmjhnaaW.PrintWords Go.Proofs.YtejohmompmjhnaaW.PrintLast Go.Proofs.YtejohmompmjhnaaW.PrintMore
attribute [local go_sem] max2_int min2_int max_two min_two max_three min_three max_four min_four
set_option linter.unusedVariables false
set_option linter.unusedSimpArgs false
def laws_FnExactGateBudget.j0 : Nat → Bool → Int → Int → List (S104) → Int → Int → List (S55) → Option (Bool)
  | 0, _, _, _, _, _, _, _ => none
  | k + 1, x48, x381000, x381001, x381002, x398000, x398001, x398002 => if x48 = true then (some false) else ((laws_toPlan.f k x381000 x381001 x381002).bind fun bt402 => ((laws_eqPlan.f k x398000 x398001 x398002 bt402.1 bt402.2.1 bt402.2.2).bind fun t407 => (if t407 = true then (some true) else (some false))))
def laws_FnExactGateBudget.f (k : Nat) (a0_0 : Int) (a0_1 : Int) (l0_2 : List (S104)) (a1 : Int) (a2_0 : Int) (a2_1 : Int) (a3 : Int) : Option (Bool) := (laws_szPlan.f a0_0 a0_1 l0_2 1048576).bind fun t382 => (if t382 < 0 then (some true) else ((laws_toPlan.f k a0_0 a0_1 l0_2).bind fun bt383 => ((laws_toDrift.f a2_0 a2_1).bind fun bt388 => ((spec_GateBudget.f k bt383.1 bt383.2.1 bt383.2.2 a1 bt388.1 bt388.2 a3).bind fun bt390 => ((laws_toPlan.f k a0_0 a0_1 l0_2).bind fun bt392 => ((laws_toDrift.f a2_0 a2_1).bind fun bt398 => ((impl_GateBudget.f k bt392.1 bt392.2.1 bt392.2.2 a1 bt398.1 bt398.2 a3).bind fun bt400 => (if bt400.1 = bt390.1 then (laws_FnExactGateBudget.j0 k (bt400.2 != bt390.2) a0_0 a0_1 l0_2 bt392.1 bt392.2.1 bt392.2.2) else (laws_FnExactGateBudget.j0 k true a0_0 a0_1 l0_2 bt392.1 bt392.2.1 bt392.2.2)))))))))
theorem laws_FnExactGateBudget.mono_l : ∀ k, (∀ y0 y1 y2 y3 y4 y5 y6, LeO (laws_FnExactGateBudget.j0 k y0 y1 y2 y3 y4 y5 y6) (laws_FnExactGateBudget.j0 (k + 1) y0 y1 y2 y3 y4 y5 y6))
  | 0 => fun _ _ _ _ _ _ _ r h => by simp [laws_FnExactGateBudget.j0] at h
  | k + 1 => by
    have ih0 := laws_FnExactGateBudget.mono_l k
    · intro y0 y1 y2 y3 y4 y5 y6
      unfold laws_FnExactGateBudget.j0
      repeat' first
      | (with_reducible exact ih0 _ _ _ _ _ _ _)
      | (with_reducible exact impl_GateBudget.mono _ _ _ _ _ _ _ _)
      | (with_reducible exact laws_eqPlan.mono _ _ _ _ _ _ _)
      | (with_reducible exact laws_toPlan.mono _ _ _ _)
      | (with_reducible exact spec_GateBudget.mono _ _ _ _ _ _ _ _)
      | (with_reducible exact LeO.refl _)
      | (with_reducible exact LeO.none _)
      | (with_reducible refine LeO.ite ?_ ?_)
      | (with_reducible refine LeO.bind ?_ (fun _ => ?_))
      | exact ih0 _ _ _ _ _ _ _
      | exact impl_GateBudget.mono _ _ _ _ _ _ _ _
      | exact laws_eqPlan.mono _ _ _ _ _ _ _
      | exact laws_toPlan.mono _ _ _ _
      | exact spec_GateBudget.mono _ _ _ _ _ _ _ _
      | exact LeO.none _
      | refine LeO.ite ?_ ?_
      | refine LeO.bind ?_ (fun _ => ?_)
theorem laws_FnExactGateBudget.mono : ∀ a0 a1 a2 a3 a4 a5 a6 k, LeO (laws_FnExactGateBudget.f k a0 a1 a2 a3 a4 a5 a6) (laws_FnExactGateBudget.f (k + 1) a0 a1 a2 a3 a4 a5 a6) := by
  intro a0 a1 a2 a3 a4 a5 a6 k
  have ih0 := laws_FnExactGateBudget.mono_l k
  unfold laws_FnExactGateBudget.f
  repeat' first
      | (with_reducible exact ih0 _ _ _ _ _ _ _)
      | (with_reducible exact impl_GateBudget.mono _ _ _ _ _ _ _ _)
      | (with_reducible exact laws_eqPlan.mono _ _ _ _ _ _ _)
      | (with_reducible exact laws_toPlan.mono _ _ _ _)
      | (with_reducible exact spec_GateBudget.mono _ _ _ _ _ _ _ _)
      | (with_reducible exact LeO.refl _)
      | (with_reducible exact LeO.none _)
      | (with_reducible refine LeO.ite ?_ ?_)
      | (with_reducible refine LeO.bind ?_ (fun _ => ?_))
      | exact ih0 _ _ _ _ _ _ _
      | exact impl_GateBudget.mono _ _ _ _ _ _ _ _
      | exact laws_eqPlan.mono _ _ _ _ _ _ _
      | exact laws_toPlan.mono _ _ _ _
      | exact spec_GateBudget.mono _ _ _ _ _ _ _ _
      | exact LeO.none _
      | refine LeO.ite ?_ ?_
      | refine LeO.bind ?_ (fun _ => ?_)
def laws_FnExactGateBudget.T5 : Bool × List (List Nat × List Nat) := (true, [([], []), ([0], [0]), ([], []), ([], []), ([3, 1], [3]), ([], []), ([1, 2, 4, 5, 4], [1, 2, 4, 5]), ([6], [6]), ([7], [7]), ([7], [7]), ([8, 6, 0, 1, 2, 3, 4, 5, 6, 7, 8], [8]), ([9, 10, 0, 1, 2, 3, 4, 5, 6, 7, 8, 9, 10], [9])])
def laws_FnExactGateBudget.B5 : List Nat := [0, 1, 0, 0, 11, 0, 63, 127, 255, 255, 511, 2047]
theorem laws_FnExactGateBudget.tab5 : rtab .any (opsOf Try.f4 5) = laws_FnExactGateBudget.T5 := by kernel_rfl
theorem laws_FnExactGateBudget.bits5 : waitsOk laws_FnExactGateBudget.T5.2 laws_FnExactGateBudget.B5 = true := by kernel_rfl
def laws_FnExactGateBudget.T7 : Bool × List (List Nat × List Nat) := (true, [([], []), ([], []), ([], []), ([2], [2]), ([], []), ([0, 1, 3, 4, 3], [0, 1, 3, 4]), ([5], [5]), ([6], [6]), ([6], [6]), ([7, 5, 0, 1, 2, 3, 4, 5, 6, 7], [7]), ([8, 9, 0, 1, 2, 3, 4, 5, 6, 7, 8, 9], [8])])
def laws_FnExactGateBudget.B7 : List Nat := [0, 0, 0, 4, 0, 31, 63, 127, 127, 255, 1023]
theorem laws_FnExactGateBudget.tab7 : rtab .any (opsOf Try.f4 7) = laws_FnExactGateBudget.T7 := by kernel_rfl
theorem laws_FnExactGateBudget.bits7 : waitsOk laws_FnExactGateBudget.T7.2 laws_FnExactGateBudget.B7 = true := by kernel_rfl
set_option maxHeartbeats 8000000 in
set_option maxRecDepth 100000 in
theorem laws_FnExactGateBudget.calls (k : Nat) (a0_0 : Int) (a0_1 : Int) (A0_2 : Option Addr) (c0_2 : Nat) (l0_2 : List (S104)) (a1 : Int) (a2_0 : Int) (a2_1 : Int) (a3 : Int) (r : Bool) (w : World) (hr0_2 : Kd.C k104 w A0_2 l0_2.length l0_2) (hc0_2 : l0_2.length ≤ c0_2) (hr_ : r = true) (h : laws_FnExactGateBudget.f k a0_0 a0_1 l0_2 a1 a2_0 a2_1 a3 = some r) :
    Calls Try.prog 4 #[.agg #[.int .i64 a0_0, .int .i64 a0_1, .slice A0_2 l0_2.length c0_2], .int .i64 a1, .agg #[.int .i64 a2_0, .int .i64 a2_1], .int .i64 a3] w fun e w' => e = .returned (.bool r) ∧ Below w.heap.size w w' := by
  have hu28 := Try.underlying28
  have hu25 := Try.underlying25
  have hu38 := Try.underlying38
  have HR0_2 := Aside0.mk hr0_2
  have HC0_2 := Aside0.mk hc0_2
  clear hr0_2 hc0_2
  have HB := Aside0.mk (Below.refl w.heap.size w)
  have H : ((laws_szPlan.f a0_0 a0_1 l0_2 1048576).bind fun t382 => (if t382 < 0 then (some true) else ((laws_toPlan.f k a0_0 a0_1 l0_2).bind fun bt383 => ((laws_toDrift.f a2_0 a2_1).bind fun bt388 => ((spec_GateBudget.f k bt383.1 bt383.2.1 bt383.2.2 a1 bt388.1 bt388.2 a3).bind fun bt390 => ((laws_toPlan.f k a0_0 a0_1 l0_2).bind fun bt392 => ((laws_toDrift.f a2_0 a2_1).bind fun bt398 => ((impl_GateBudget.f k bt392.1 bt392.2.1 bt392.2.2 a1 bt398.1 bt398.2 a3).bind fun bt400 => (if bt400.1 = bt390.1 then (laws_FnExactGateBudget.j0 k (bt400.2 != bt390.2) a0_0 a0_1 l0_2 bt392.1 bt392.2.1 bt392.2.2) else (laws_FnExactGateBudget.j0 k true a0_0 a0_1 l0_2 bt392.1 bt392.2.1 bt392.2.2)))))))))) = some r := h
  clear h
  replace H := Option.bind_eq_some_iff.mp H
  obtain ⟨t382, A50, H⟩ := H
  replace H : (if t382 < 0 then (some true) else ((laws_toPlan.f k a0_0 a0_1 l0_2).bind fun bt383 => ((laws_toDrift.f a2_0 a2_1).bind fun bt388 => ((spec_GateBudget.f k bt383.1 bt383.2.1 bt383.2.2 a1 bt388.1 bt388.2 a3).bind fun bt390 => ((laws_toPlan.f k a0_0 a0_1 l0_2).bind fun bt392 => ((laws_toDrift.f a2_0 a2_1).bind fun bt398 => ((impl_GateBudget.f k bt392.1 bt392.2.1 bt392.2.2 a1 bt398.1 bt398.2 a3).bind fun bt400 => (if bt400.1 = bt390.1 then (laws_FnExactGateBudget.j0 k (bt400.2 != bt390.2) a0_0 a0_1 l0_2 bt392.1 bt392.2.1 bt392.2.2) else (laws_FnExactGateBudget.j0 k true a0_0 a0_1 l0_2 bt392.1 bt392.2.1 bt392.2.2))))))))) = some r := H
  have A5 := Aside0.mk A50
  clear A50
  by_cases c6 : t382 < 0
  · rw [if_pos c6] at H
    have c6b0 : decide (t382 < 0) = true := decide_eq_true c6
    clear c6
    obtain rfl := Option.some.inj H
    go_enter Try.func4, Try.ntmps4
    go_wp2_with (first | ((with_reducible refine gate_dst (N := 4) rfl ?_); refine box_event ?hg (N := 4) ?hd (cs := #[.int .i64 a0_0, .int .i64 a0_1, .slice A0_2 l0_2.length c0_2]) (t := 28) ?hr ?_; (case hd => rfl); (case hg => rfl); (case hr => first | (go_simp; done) | (go_simp; rfl)); intro gb380 hg w7 hbox hb; have n0_ := Aside0.mk (below_step (hb_ HB.out) hb); have n1_ := Aside0.mk (hbox); have n2_ := Aside0.mk ((by rw [hg]; exact (below_size (hb_ HB.out)) : w.heap.size ≤ gb380)); have n3_ := Aside0.mk ((by rw [hg]; exact (below_size (hb_ HB.out)) : w.heap.size ≤ gb380)); clear HB; have HB := n0_; have BK380 := n1_; have GW380 := n2_; have GE380 := n3_; clear n0_ n1_ n2_ n3_; clear hb hbox hg) | ((with_reducible refine gate_dst (N := 6) rfl ?_); refine box_event ?hg (N := 6) ?hd (cs := #[.int .i64 a2_0, .int .i64 a2_1]) (t := 25) ?hr ?_; (case hd => rfl); (case hg => rfl); (case hr => first | (go_simp; done) | (go_simp; rfl)); intro gb381 hg w8 hbox hb; have n0_ := Aside0.mk (bb_ BK380.out hb); have n1_ := Aside0.mk (below_step (hb1_ HB.out GE380.out) hb); have n2_ := Aside0.mk (hbox); have n3_ := Aside0.mk ((by rw [hg]; exact (below_size (hb1_ HB.out GE380.out)) : w.heap.size ≤ gb381)); have n4_ := Aside0.mk ((by rw [hg]; exact (below_size (hb1_ HB.out GE380.out)) : w.heap.size ≤ gb381)); have n5_ := Aside0.mk ((bl_ hg BK380.out : gb380 ≠ gb381)); have n6_ := Aside0.mk ((bg_ hg BK380.out : gb381 ≠ gb380)); clear BK380; clear HB; have BK380 := n0_; have HB := n1_; have BK381 := n2_; have GW381 := n3_; have GE381 := n4_; have NB380_381 := n5_; have NB381_380 := n6_; clear n0_ n1_ n2_ n3_ n4_ n5_ n6_; clear hb hbox hg; have hnb9 := NB380_381.out; have hnc9 := NB381_380.out; have hcz10_0 := bc_ BK380.out 0 (.int .i64 a0_0) rfl; have hcz10_1 := bc_ BK380.out 1 (.int .i64 a0_1) rfl; have hcz10_2 := bc_ BK380.out 2 (.slice A0_2 l0_2.length c0_2) rfl; have hfz10_0 := blk_frozen BK380.out 0; have hfz10_1 := blk_frozen BK380.out 1; have hfz10_2 := blk_frozen BK380.out 2) | ((with_reducible refine gate_callee (f := 9) rfl ?_); refine goesL_ (some 17) rfl rfl Try.func9 (by kernel_rfl) rfl #[.agg #[.int .i64 a0_0, .int .i64 a0_1, .slice A0_2 l0_2.length c0_2], .int .i64 1048576] rfl arr_ ?_; (with_reducible refine (laws_szPlan.calls a0_0 a0_1 _ _ l0_2 1048576 t382 _ ?side1 ?side2 A5.out).mono ?_); (case side1 => exact kc_ (Kd.C_below HR0_2.out HB.out)); (case side2 => exact HC0_2.out); rintro e w11 ⟨rfl, hb⟩; refine ⟨_, rfl, ?_⟩; have n0_ := Aside0.mk (bb_ BK380.out hb); have n1_ := Aside0.mk (bb_ BK381.out hb); have n2_ := Aside0.mk (below_step (hb2_ HB.out GE380.out GE381.out) hb); clear BK380; clear BK381; clear HB; have BK380 := n0_; have BK381 := n1_; have HB := n2_; clear n0_ n1_ n2_; (try clear hb); (try clear hb2); (try clear hk); (try clear hi)))
    go_ret
    exact ⟨er_, hb2_ HB.out GE380.out GE381.out⟩
  · rw [if_neg c6] at H
    have c6b0 : decide (t382 < 0) = false := decide_eq_false c6
    clear c6
    replace H := Option.bind_eq_some_iff.mp H
    obtain ⟨⟨t383, t384, t385⟩, A120, H⟩ := H
    replace H : ((laws_toDrift.f a2_0 a2_1).bind fun bt388 => ((spec_GateBudget.f k t383 t384 t385 a1 bt388.1 bt388.2 a3).bind fun bt390 => ((laws_toPlan.f k a0_0 a0_1 l0_2).bind fun bt392 => ((laws_toDrift.f a2_0 a2_1).bind fun bt398 => ((impl_GateBudget.f k bt392.1 bt392.2.1 bt392.2.2 a1 bt398.1 bt398.2 a3).bind fun bt400 => (if bt400.1 = bt390.1 then (laws_FnExactGateBudget.j0 k (bt400.2 != bt390.2) a0_0 a0_1 l0_2 bt392.1 bt392.2.1 bt392.2.2) else (laws_FnExactGateBudget.j0 k true a0_0 a0_1 l0_2 bt392.1 bt392.2.1 bt392.2.2))))))) = some r := H
    have A12 := Aside0.mk A120
    clear A120
    replace H := Option.bind_eq_some_iff.mp H
    obtain ⟨⟨t388, t389⟩, A130, H⟩ := H
    replace H : ((spec_GateBudget.f k t383 t384 t385 a1 t388 t389 a3).bind fun bt390 => ((laws_toPlan.f k a0_0 a0_1 l0_2).bind fun bt392 => ((laws_toDrift.f a2_0 a2_1).bind fun bt398 => ((impl_GateBudget.f k bt392.1 bt392.2.1 bt392.2.2 a1 bt398.1 bt398.2 a3).bind fun bt400 => (if bt400.1 = bt390.1 then (laws_FnExactGateBudget.j0 k (bt400.2 != bt390.2) a0_0 a0_1 l0_2 bt392.1 bt392.2.1 bt392.2.2) else (laws_FnExactGateBudget.j0 k true a0_0 a0_1 l0_2 bt392.1 bt392.2.1 bt392.2.2)))))) = some r := H
    have A13 := Aside0.mk A130
    clear A130
    replace H := Option.bind_eq_some_iff.mp H
    obtain ⟨⟨t390, t391⟩, A140, H⟩ := H
    replace H : ((laws_toPlan.f k a0_0 a0_1 l0_2).bind fun bt392 => ((laws_toDrift.f a2_0 a2_1).bind fun bt398 => ((impl_GateBudget.f k bt392.1 bt392.2.1 bt392.2.2 a1 bt398.1 bt398.2 a3).bind fun bt400 => (if bt400.1 = t390 then (laws_FnExactGateBudget.j0 k (bt400.2 != t391) a0_0 a0_1 l0_2 bt392.1 bt392.2.1 bt392.2.2) else (laws_FnExactGateBudget.j0 k true a0_0 a0_1 l0_2 bt392.1 bt392.2.1 bt392.2.2))))) = some r := H
    have A14 := Aside0.mk A140
    clear A140
    replace H := Option.bind_eq_some_iff.mp H
    obtain ⟨⟨t392, t393, t394⟩, A150, H⟩ := H
    replace H : ((laws_toDrift.f a2_0 a2_1).bind fun bt398 => ((impl_GateBudget.f k t392 t393 t394 a1 bt398.1 bt398.2 a3).bind fun bt400 => (if bt400.1 = t390 then (laws_FnExactGateBudget.j0 k (bt400.2 != t391) a0_0 a0_1 l0_2 t392 t393 t394) else (laws_FnExactGateBudget.j0 k true a0_0 a0_1 l0_2 t392 t393 t394)))) = some r := H
    have A15 := Aside0.mk A150
    clear A150
    replace H := Option.bind_eq_some_iff.mp H
    obtain ⟨⟨t398, t399⟩, A160, H⟩ := H
    replace H : ((impl_GateBudget.f k t392 t393 t394 a1 t398 t399 a3).bind fun bt400 => (if bt400.1 = t390 then (laws_FnExactGateBudget.j0 k (bt400.2 != t391) a0_0 a0_1 l0_2 t392 t393 t394) else (laws_FnExactGateBudget.j0 k true a0_0 a0_1 l0_2 t392 t393 t394))) = some r := H
    have A16 := Aside0.mk A160
    clear A160
    replace H := Option.bind_eq_some_iff.mp H
    obtain ⟨⟨t400, t401⟩, A170, H⟩ := H
    replace H : (if t400 = t390 then (laws_FnExactGateBudget.j0 k (t401 != t391) a0_0 a0_1 l0_2 t392 t393 t394) else (laws_FnExactGateBudget.j0 k true a0_0 a0_1 l0_2 t392 t393 t394)) = some r := H
    have A17 := Aside0.mk A170
    clear A170
    have HC18 := Aside0.mk H
    clear H
    go_enter Try.func4, Try.ntmps4
    try go_wp2_with (first | ((with_reducible refine gate_dst (N := 4) rfl ?_); refine box_event ?hg (N := 4) ?hd (cs := #[.int .i64 a0_0, .int .i64 a0_1, .slice A0_2 l0_2.length c0_2]) (t := 28) ?hr ?_; (case hd => rfl); (case hg => rfl); (case hr => first | (go_simp; done) | (go_simp; rfl)); intro gb380 hg w19 hbox hb; have n0_ := Aside0.mk (below_step (hb_ HB.out) hb); have n1_ := Aside0.mk (hbox); have n2_ := Aside0.mk ((by rw [hg]; exact (below_size (hb_ HB.out)) : w.heap.size ≤ gb380)); have n3_ := Aside0.mk ((by rw [hg]; exact (below_size (hb_ HB.out)) : w.heap.size ≤ gb380)); clear HB; have HB := n0_; have BK380 := n1_; have GW380 := n2_; have GE380 := n3_; clear n0_ n1_ n2_ n3_; clear hb hbox hg) | ((with_reducible refine gate_dst (N := 6) rfl ?_); refine box_event ?hg (N := 6) ?hd (cs := #[.int .i64 a2_0, .int .i64 a2_1]) (t := 25) ?hr ?_; (case hd => rfl); (case hg => rfl); (case hr => first | (go_simp; done) | (go_simp; rfl)); intro gb381 hg w20 hbox hb; have n0_ := Aside0.mk (bb_ BK380.out hb); have n1_ := Aside0.mk (below_step (hb1_ HB.out GE380.out) hb); have n2_ := Aside0.mk (hbox); have n3_ := Aside0.mk ((by rw [hg]; exact (below_size (hb1_ HB.out GE380.out)) : w.heap.size ≤ gb381)); have n4_ := Aside0.mk ((by rw [hg]; exact (below_size (hb1_ HB.out GE380.out)) : w.heap.size ≤ gb381)); have n5_ := Aside0.mk ((bl_ hg BK380.out : gb380 ≠ gb381)); have n6_ := Aside0.mk ((bg_ hg BK380.out : gb381 ≠ gb380)); clear BK380; clear HB; have BK380 := n0_; have HB := n1_; have BK381 := n2_; have GW381 := n3_; have GE381 := n4_; have NB380_381 := n5_; have NB381_380 := n6_; clear n0_ n1_ n2_ n3_ n4_ n5_ n6_; clear hb hbox hg; have hnb21 := NB380_381.out; have hnc21 := NB381_380.out; have hcz22_0 := bc_ BK380.out 0 (.int .i64 a0_0) rfl; have hcz22_1 := bc_ BK380.out 1 (.int .i64 a0_1) rfl; have hcz22_2 := bc_ BK380.out 2 (.slice A0_2 l0_2.length c0_2) rfl; have hfz22_0 := blk_frozen BK380.out 0; have hfz22_1 := blk_frozen BK380.out 1; have hfz22_2 := blk_frozen BK380.out 2) | ((with_reducible refine gate_callee (f := 9) rfl ?_); refine goesL_ (some 17) rfl rfl Try.func9 (by kernel_rfl) rfl #[.agg #[.int .i64 a0_0, .int .i64 a0_1, .slice A0_2 l0_2.length c0_2], .int .i64 1048576] rfl arr_ ?_; (with_reducible refine (laws_szPlan.calls a0_0 a0_1 _ _ l0_2 1048576 t382 _ ?side1 ?side2 A5.out).mono ?_); (case side1 => exact kc_ (Kd.C_below HR0_2.out HB.out)); (case side2 => exact HC0_2.out); rintro e w23 ⟨rfl, hb⟩; refine ⟨_, rfl, ?_⟩; have n0_ := Aside0.mk (bb_ BK380.out hb); have n1_ := Aside0.mk (bb_ BK381.out hb); have n2_ := Aside0.mk (below_step (hb2_ HB.out GE380.out GE381.out) hb); clear BK380; clear BK381; clear HB; have BK380 := n0_; have BK381 := n1_; have HB := n2_; clear n0_ n1_ n2_; (try clear hb); (try clear hb2); (try clear hk); (try clear hi)))
    have n0_ := Aside0.mk (blk_drew BK380.out)
    have n1_ := Aside0.mk (blk_drew BK381.out)
    have n2_ := Aside0.mk (below_drew1 HB.out)
    clear BK380
    clear BK381
    clear HB
    have BK380 := n0_
    have BK381 := n1_
    have HB := n2_
    clear n0_ n1_ n2_
    refine start_ (n := 12) (S := fun w' => w'.cell? ⟨gb380, 0, none⟩ = some (.int .i64 a0_0) ∧ w'.cell? ⟨gb380, 1, none⟩ = some (.int .i64 a0_1) ∧ w'.cell? ⟨gb380, 2, none⟩ = some (.slice A0_2 l0_2.length c0_2) ∧ w'.cell? ⟨gb381, 0, none⟩ = some (.int .i64 a2_0) ∧ w'.cell? ⟨gb381, 1, none⟩ = some (.int .i64 a2_1)) (ds := []) #[false, false, false, false, false, false, false, false, false, false, false, false] (by kernel_rfl) rfl rfl ⟨(blk_cell BK380.out 0).trans rfl, (blk_cell BK380.out 1).trans rfl, (blk_cell BK380.out 2).trans rfl, (blk_cell BK381.out 0).trans rfl, (blk_cell BK381.out 1).trans rfl⟩ (fun hHeld => ?_); refine with_tabW laws_FnExactGateBudget.tab5 laws_FnExactGateBudget.bits5 (fun HT_ HW_ => ?_)
    generalize w23.drew = w24 at BK380 BK381 HB hHeld ⊢
    refine pure_ (i := 2) (N := some 23) (v := ?_) (a' := ?_) #[false, false, true, false, false, false, false, false, false, false, false, false] rfl rfl (any_of HT_.out (by kernel_rfl)) (fun _ _ _ h => h) (Or.inl ⟨by rfl, ?_⟩) ?_ ?_
    rotate_left
    · intro w'
      go_simp
      with_reducible rfl
    rotate_left
    · simp only [Act.put, List.setIfInBounds_toArray, List.set_cons_zero, List.set_cons_succ, i64_w, i32_w]
      rfl
    refine pure_ (i := 5) (N := some 26) (v := ?_) (a' := ?_) #[false, false, true, false, false, true, false, false, false, false, false, false] rfl rfl (any_of HT_.out (by kernel_rfl)) (fun _ _ _ h => h) (Or.inl ⟨by rfl, ?_⟩) ?_ ?_
    rotate_left
    · intro w'
      go_simp
      with_reducible rfl
    rotate_left
    · simp only [Act.put, List.setIfInBounds_toArray, List.set_cons_zero, List.set_cons_succ, i64_w, i32_w]
      rfl
    refine take_ (i := 0) (N := some 21) (v := ?_) (a' := ?_) #[true, false, true, false, false, true, false, false, false, false, false, false] rfl rfl (take_ofW HT_.out HW_.out (by kernel_rfl)) (fun _ _ _ h => h) (Or.inl ⟨by rfl, ?_⟩) hHeld ?_ ?_
    rotate_left
    · rintro w' ⟨s0, s1, s2, s3, s4⟩
      go_simp
      with_reducible rfl
    rotate_left
    · simp only [Act.put, List.setIfInBounds_toArray, List.set_cons_zero, List.set_cons_succ, i64_w, i32_w]
      rfl
    refine take_ (i := 3) (N := some 24) (v := ?_) (a' := ?_) #[true, false, true, true, false, true, false, false, false, false, false, false] rfl rfl (take_ofW HT_.out HW_.out (by kernel_rfl)) (fun _ _ _ h => h) (Or.inl ⟨by rfl, ?_⟩) hHeld ?_ ?_
    rotate_left
    · rintro w' ⟨s0, s1, s2, s3, s4⟩
      go_simp
      with_reducible rfl
    rotate_left
    · simp only [Act.put, List.setIfInBounds_toArray, List.set_cons_zero, List.set_cons_succ, i64_w, i32_w]
      rfl
    refine one_ (i := 1) (N := some 22) #[true, true, true, true, false, true, false, false, false, false, false, false] rfl rfl (one_of HT_.out (by kernel_rfl)) (by decide) (fun K hK => ?_)
    refine goes_ Try.func13 (by kernel_rfl) rfl #[.agg #[.int .i64 a0_0, .int .i64 a0_1, .slice A0_2 l0_2.length c0_2]] (by rfl) rfl rfl arr_ ?_
    with_reducible refine (laws_toPlan.calls k a0_0 a0_1 _ _ l0_2 t383 t384 t385 _ ?side1 ?side2 A12.out).mono ?_
    (case side1 => exact kc_ (Kd.C_below HR0_2.out HB.out))
    (case side2 => exact HC0_2.out)
    rintro e w25 ⟨v386, rfl, ho0, hb⟩
    refine ⟨_, rfl, ?_⟩
    have n0_ := Aside0.mk (Kd.R_lower ho0 (below_size (hb2_ HB.out GE380.out GE381.out)))
    have n1_ := Aside0.mk (bb_ BK380.out hb)
    have n2_ := Aside0.mk (bb_ BK381.out hb)
    have n3_ := Aside0.mk (below_step (hb2_ HB.out GE380.out GE381.out) hb)
    clear BK380
    clear BK381
    clear HB
    have HO387 := n0_
    have BK380 := n1_
    have BK381 := n2_
    have HB := n3_
    clear n0_ n1_ n2_ n3_
    (try clear hb)
    (try clear hb2)
    (try clear hk)
    (try clear hi)
    (try clear ho0)
    refine hK.out _ _ ⟨(blk_cell BK380.out 0).trans rfl, (blk_cell BK380.out 1).trans rfl, (blk_cell BK380.out 2).trans rfl, (blk_cell BK381.out 0).trans rfl, (blk_cell BK381.out 1).trans rfl⟩ (fun hHeld => ?_)
    clear hK K
    refine norm_ (a' := ?_) ?_ ?_
    rotate_left
    · show Act.put _ (some 22) _ = _
      simp only [Act.put, List.setIfInBounds_toArray, List.set_cons_zero, List.set_cons_succ, i64_w, i32_w]
      rfl
    refine one_ (i := 4) (N := some 25) #[true, true, true, true, true, true, false, false, false, false, false, false] rfl rfl (one_of HT_.out (by kernel_rfl)) (by decide) (fun K hK => ?_)
    refine goes_ Try.func12 (by kernel_rfl) rfl #[.agg #[.int .i64 a2_0, .int .i64 a2_1]] (by rfl) rfl rfl arr_ ?_
    with_reducible refine (laws_toDrift.calls a2_0 a2_1 t388 t389 _ A13.out).mono ?_
    rintro e w26 ⟨rfl, hb⟩
    refine ⟨_, rfl, ?_⟩
    have n0_ := Aside0.mk (Kd.R_below (by (with_reducible repeat (first | apply Kd.R_alloc | apply Kd.R_drewN | apply Kd.R_drew)); exact HO387.out) hb)
    have n1_ := Aside0.mk (bb_ BK380.out hb)
    have n2_ := Aside0.mk (bb_ BK381.out hb)
    have n3_ := Aside0.mk (below_step (hb2_ HB.out GE380.out GE381.out) hb)
    clear HO387
    clear BK380
    clear BK381
    clear HB
    have HO387 := n0_
    have BK380 := n1_
    have BK381 := n2_
    have HB := n3_
    clear n0_ n1_ n2_ n3_
    (try clear hb)
    (try clear hb2)
    (try clear hk)
    (try clear hi)
    obtain ⟨Ao27, co27, eo27⟩ := Kd.R_slice HO387.out
    (first | subst eo27 | (injection eo27 with f1_ f2_ f3_; have f4_ := f1_.symm; have f5_ := f3_.symm; clear f1_ f2_ f3_; subst f4_; subst f5_))
    refine hK.out _ _ ⟨(blk_cell BK380.out 0).trans rfl, (blk_cell BK380.out 1).trans rfl, (blk_cell BK380.out 2).trans rfl, (blk_cell BK381.out 0).trans rfl, (blk_cell BK381.out 1).trans rfl⟩ (fun hHeld => ?_)
    clear hK K
    refine norm_ (a' := ?_) ?_ ?_
    rotate_left
    · show Act.put _ (some 25) _ = _
      simp only [Act.put, List.setIfInBounds_toArray, List.set_cons_zero, List.set_cons_succ, i64_w, i32_w]
      rfl
    refine one_ (i := 6) (N := some 27) #[true, true, true, true, true, true, true, false, false, false, false, false] rfl rfl (one_of HT_.out (by kernel_rfl)) (by decide) (fun K hK => ?_)
    refine goes_ Try.func16 (by kernel_rfl) rfl #[.agg #[.int .i64 t383, .int .i64 t384, .slice Ao27 t385.length co27], .int .i64 a1, .agg #[.int .i64 t388, .int .i64 t389], .int .i64 a3] (by rfl) rfl rfl arr_ ?_
    with_reducible refine (spec_GateBudget.calls k t383 t384 _ _ t385 a1 t388 t389 a3 t390 t391 _ ?side1 ?side2 A14.out).mono ?_
    (case side1 => repeat (first | exact (Kd.R_reads' HO387.out).2.2 | (with_reducible refine Kd.C_alloc ?_ _) | (with_reducible refine Kd.C_drewN ?_ _) | (with_reducible refine Kd.C_drew ?_)))
    (case side2 => exact (Kd.R_reads' HO387.out).2.1)
    rintro e w28 ⟨rfl, hb⟩
    refine ⟨_, rfl, ?_⟩
    have n0_ := Aside0.mk (Kd.R_below (by (with_reducible repeat (first | apply Kd.R_alloc | apply Kd.R_drewN | apply Kd.R_drew)); exact HO387.out) hb)
    have n1_ := Aside0.mk (bb_ BK380.out hb)
    have n2_ := Aside0.mk (bb_ BK381.out hb)
    have n3_ := Aside0.mk (below_step (hb2_ HB.out GE380.out GE381.out) hb)
    clear HO387
    clear BK380
    clear BK381
    clear HB
    have HO387 := n0_
    have BK380 := n1_
    have BK381 := n2_
    have HB := n3_
    clear n0_ n1_ n2_ n3_
    (try clear hb)
    (try clear hb2)
    (try clear hk)
    (try clear hi)
    refine hK.out _ _ ⟨(blk_cell BK380.out 0).trans rfl, (blk_cell BK380.out 1).trans rfl, (blk_cell BK380.out 2).trans rfl, (blk_cell BK381.out 0).trans rfl, (blk_cell BK381.out 1).trans rfl⟩ (fun hHeld => ?_)
    clear hK K
    refine norm_ (a' := ?_) ?_ ?_
    rotate_left
    · show Act.put _ (some 27) _ = _
      simp only [Act.put, List.setIfInBounds_toArray, List.set_cons_zero, List.set_cons_succ, i64_w, i32_w]
      rfl
    refine pure_ (i := 7) (N := some 20) (v := ?_) (a' := ?_) #[true, true, true, true, true, true, true, true, false, false, false, false] rfl rfl (any_of HT_.out (by kernel_rfl)) (fun _ _ _ h => h) (Or.inl ⟨by rfl, ?_⟩) ?_ ?_
    rotate_left
    · intro w'
      go_simp
      with_reducible rfl
    rotate_left
    · simp only [Act.put, List.setIfInBounds_toArray, List.set_cons_zero, List.set_cons_succ, i64_w, i32_w]
      rfl
    refine pure_ (i := 8) (N := some 28) (v := ?_) (a' := ?_) #[true, true, true, true, true, true, true, true, true, false, false, false] rfl rfl (any_of HT_.out (by kernel_rfl)) (fun _ _ _ h => h) (Or.inl ⟨by rfl, ?_⟩) ?_ ?_
    rotate_left
    · intro w'
      go_simp
      with_reducible rfl
    rotate_left
    · simp only [Act.put, List.setIfInBounds_toArray, List.set_cons_zero, List.set_cons_succ, i64_w, i32_w]
      rfl
    refine pure_ (i := 9) (N := some 29) (v := ?_) (a' := ?_) #[true, true, true, true, true, true, true, true, true, true, false, false] rfl rfl (any_of HT_.out (by kernel_rfl)) (fun _ _ _ h => h) (Or.inl ⟨by rfl, ?_⟩) ?_ ?_
    rotate_left
    · intro w'
      go_simp
      with_reducible rfl
    rotate_left
    · simp only [Act.put, List.setIfInBounds_toArray, List.set_cons_zero, List.set_cons_succ, i64_w, i32_w]
      rfl
    refine pure_ (i := 10) (N := some 10) (v := ?_) (a' := ?_) #[true, true, true, true, true, true, true, true, true, true, true, false] rfl rfl (any_of HT_.out (by kernel_rfl)) (fun _ _ _ h => h) (Or.inl ⟨by rfl, ?_⟩) ?_ ?_
    rotate_left
    · intro w'
      go_simp
      with_reducible rfl
    rotate_left
    · simp only [Act.put, List.setIfInBounds_toArray, List.set_cons_zero, List.set_cons_succ, i64_w, i32_w]
      rfl
    refine pure_ (i := 11) (N := some 11) (v := ?_) (a' := ?_) #[true, true, true, true, true, true, true, true, true, true, true, true] rfl rfl (any_of HT_.out (by kernel_rfl)) (fun _ _ _ h => h) (Or.inl ⟨by rfl, ?_⟩) ?_ ?_
    rotate_left
    · intro w'
      go_simp
      with_reducible rfl
    rotate_left
    · simp only [Act.put, List.setIfInBounds_toArray, List.set_cons_zero, List.set_cons_succ, i64_w, i32_w]
      rfl
    refine done_ (done_of HT_.out (by kernel_rfl)) ?_
    have hcz29_0 := bc_ BK380.out 0 (.int .i64 a0_0) rfl
    have hcz29_1 := bc_ BK380.out 1 (.int .i64 a0_1) rfl
    have hcz29_2 := bc_ BK380.out 2 (.slice A0_2 l0_2.length c0_2) rfl
    have hfz29_0 := blk_frozen BK380.out 0
    have hfz29_1 := blk_frozen BK380.out 1
    have hfz29_2 := blk_frozen BK380.out 2
    try go_wp2_with (first | ((with_reducible refine gate_callee (f := 13) rfl ?_); refine goesL_ (some 31) rfl rfl Try.func13 (by kernel_rfl) rfl #[.agg #[.int .i64 a0_0, .int .i64 a0_1, .slice A0_2 l0_2.length c0_2]] rfl arr_ ?_; (with_reducible refine (laws_toPlan.calls k a0_0 a0_1 _ _ l0_2 t392 t393 t394 _ ?side1 ?side2 A15.out).mono ?_); (case side1 => exact kc_ (Kd.C_below HR0_2.out HB.out)); (case side2 => exact HC0_2.out); rintro e w30 ⟨v395, rfl, ho0, hb⟩; refine ⟨_, rfl, ?_⟩; have n0_ := Aside0.mk (Kd.R_elder' (by (with_reducible repeat (first | apply Kd.R_alloc | apply Kd.R_drewN | apply Kd.R_drew)); exact HO387.out) (Kd.R_base ho0) hb); have n1_ := Aside0.mk (Kd.R_lower (Kd.R_new' ho0 (Kd.R_lt (by (with_reducible repeat (first | apply Kd.R_alloc | apply Kd.R_drewN | apply Kd.R_drew)); exact HO387.out))) (below_size (hb2_ HB.out GE380.out GE381.out))); have n2_ := Aside0.mk (bb_ BK380.out hb); have n3_ := Aside0.mk (bb_ BK381.out hb); have n4_ := Aside0.mk (below_step (hb2_ HB.out GE380.out GE381.out) hb); clear HO387; clear BK380; clear BK381; clear HB; have HO387 := n0_; have HO396 := n1_; have BK380 := n2_; have BK381 := n3_; have HB := n4_; clear n0_ n1_ n2_ n3_ n4_; (try clear hb); (try clear hb2); (try clear hk); (try clear hi); (try clear ho0)) | ((with_reducible refine gate_dst (N := 12) rfl ?_); refine box_event ?hg (N := 12) ?hd (cs := #[.int .i64 0, .int .i64 0, .slice none 0 0]) (t := 38) ?hr ?_; (case hd => rfl); (case hg => rfl); (case hr => first | (go_simp; done) | (go_simp; rfl)); intro gb397 hg w31 hbox hb; have n0_ := Aside0.mk (Kd.R_below (by (with_reducible repeat (first | apply Kd.R_alloc | apply Kd.R_drewN | apply Kd.R_drew)); exact HO387.out) hb); have n1_ := Aside0.mk (Kd.R_below (by (with_reducible repeat (first | apply Kd.R_alloc | apply Kd.R_drewN | apply Kd.R_drew)); exact HO396.out) hb); have n2_ := Aside0.mk (bb_ BK380.out hb); have n3_ := Aside0.mk (bb_ BK381.out hb); have n4_ := Aside0.mk (below_step (hb2_ HB.out GE380.out GE381.out) hb); have n5_ := Aside0.mk (hbox); have n6_ := Aside0.mk ((by rw [hg]; exact (below_size (hb2_ HB.out GE380.out GE381.out)) : w.heap.size ≤ gb397)); have n7_ := Aside0.mk ((by rw [hg]; exact (below_size (hb2_ HB.out GE380.out GE381.out)) : w.heap.size ≤ gb397)); have n8_ := Aside0.mk ((bl_ hg BK380.out : gb380 ≠ gb397)); have n9_ := Aside0.mk ((bg_ hg BK380.out : gb397 ≠ gb380)); have n10_ := Aside0.mk ((bl_ hg BK381.out : gb381 ≠ gb397)); have n11_ := Aside0.mk ((bg_ hg BK381.out : gb397 ≠ gb381)); clear HO387; clear HO396; clear BK380; clear BK381; clear HB; have HO387 := n0_; have HO396 := n1_; have BK380 := n2_; have BK381 := n3_; have HB := n4_; have BK397 := n5_; have GW397 := n6_; have GE397 := n7_; have NB380_397 := n8_; have NB397_380 := n9_; have NB381_397 := n10_; have NB397_381 := n11_; clear n0_ n1_ n2_ n3_ n4_ n5_ n6_ n7_ n8_ n9_ n10_ n11_; clear hb hbox hg; have hnb32 := NB397_380.out; have hnc32 := NB380_397.out; have hnb33 := NB397_381.out; have hnc33 := NB381_397.out; have hcz34_0 := bc_ BK397.out 0 (.int .i64 0) rfl; have hcz34_1 := bc_ BK397.out 1 (.int .i64 0) rfl; have hcz34_2 := bc_ BK397.out 2 (.slice none 0 0) rfl; have hfz34_0 := blk_frozen BK397.out 0; have hfz34_1 := blk_frozen BK397.out 1; have hfz34_2 := blk_frozen BK397.out 2; obtain ⟨Ao35, co35, eo35⟩ := Kd.R_slice HO396.out; subst eo35))
    have n0_ : Aside0 (Kd.R k55 55 (((w31.setCell ⟨gb397, 0, none⟩ (.int .i64 t392)).setCell ⟨gb397, 1, none⟩ (.int .i64 t393)).setCell ⟨gb397, 2, none⟩ (.slice Ao35 t394.length co35)) w.heap.size (fun k_ => some k_ ≠ (.slice Ao35 t394.length co35 : Value).ownBlock) (.slice Ao27 t385.length co27) t385) := ⟨by (with_reducible repeat (first | apply Kd.R_alloc | apply Kd.R_drewN | apply Kd.R_drew)); exact Kd.R_mono (Kd.R_far (p := ⟨gb397, 2, none⟩) (Kd.R_far (p := ⟨gb397, 1, none⟩) (Kd.R_far (p := ⟨gb397, 0, none⟩) (Kd.R_types HO387.out BK397.out (by decide)) (fun _ hk => hk.2) (.int .i64 t392)) (fun _ hk => hk.2) (.int .i64 t393)) (fun _ hk => hk.2) (.slice Ao35 t394.length co35)) (fun _ hk => hk.1.2)⟩
    have n1_ : Aside0 (Kd.R k55 55 (((w31.setCell ⟨gb397, 0, none⟩ (.int .i64 t392)).setCell ⟨gb397, 1, none⟩ (.int .i64 t393)).setCell ⟨gb397, 2, none⟩ (.slice Ao35 t394.length co35)) w.heap.size (fun k_ => some k_ ≠ (.slice Ao27 t385.length co27 : Value).ownBlock) (.slice Ao35 t394.length co35) t394) := ⟨by (with_reducible repeat (first | apply Kd.R_alloc | apply Kd.R_drewN | apply Kd.R_drew)); exact Kd.R_mono (Kd.R_far (p := ⟨gb397, 2, none⟩) (Kd.R_far (p := ⟨gb397, 1, none⟩) (Kd.R_far (p := ⟨gb397, 0, none⟩) (Kd.R_types HO396.out BK397.out (by decide)) (fun _ hk => hk.2) (.int .i64 t392)) (fun _ hk => hk.2) (.int .i64 t393)) (fun _ hk => hk.2) (.slice Ao35 t394.length co35)) (fun _ hk => hk.1.2)⟩
    have n2_ : Aside0 ((((w31.setCell ⟨gb397, 0, none⟩ (.int .i64 t392)).setCell ⟨gb397, 1, none⟩ (.int .i64 t393)).setCell ⟨gb397, 2, none⟩ (.slice Ao35 t394.length co35)).heap[gb380]? = some (.cells #[.int .i64 a0_0, .int .i64 a0_1, .slice A0_2 l0_2.length c0_2] 28 (0, 0))) := ⟨by (with_reducible repeat (first | refine blk_drewN ?_ _ | refine blk_drew ?_ | refine blk_alloc ?_ _)); refine blk_far ?_ NB380_397.out _; (with_reducible repeat (first | refine blk_drewN ?_ _ | refine blk_drew ?_ | refine blk_alloc ?_ _)); refine blk_far ?_ NB380_397.out _; (with_reducible repeat (first | refine blk_drewN ?_ _ | refine blk_drew ?_ | refine blk_alloc ?_ _)); refine blk_far ?_ NB380_397.out _; (with_reducible repeat (first | refine blk_drewN ?_ _ | refine blk_drew ?_ | refine blk_alloc ?_ _)); exact BK380.out⟩
    have n3_ : Aside0 ((((w31.setCell ⟨gb397, 0, none⟩ (.int .i64 t392)).setCell ⟨gb397, 1, none⟩ (.int .i64 t393)).setCell ⟨gb397, 2, none⟩ (.slice Ao35 t394.length co35)).heap[gb381]? = some (.cells #[.int .i64 a2_0, .int .i64 a2_1] 25 (0, 0))) := ⟨by (with_reducible repeat (first | refine blk_drewN ?_ _ | refine blk_drew ?_ | refine blk_alloc ?_ _)); refine blk_far ?_ NB381_397.out _; (with_reducible repeat (first | refine blk_drewN ?_ _ | refine blk_drew ?_ | refine blk_alloc ?_ _)); refine blk_far ?_ NB381_397.out _; (with_reducible repeat (first | refine blk_drewN ?_ _ | refine blk_drew ?_ | refine blk_alloc ?_ _)); refine blk_far ?_ NB381_397.out _; (with_reducible repeat (first | refine blk_drewN ?_ _ | refine blk_drew ?_ | refine blk_alloc ?_ _)); exact BK381.out⟩
    have n4_ : Aside0 ((((w31.setCell ⟨gb397, 0, none⟩ (.int .i64 t392)).setCell ⟨gb397, 1, none⟩ (.int .i64 t393)).setCell ⟨gb397, 2, none⟩ (.slice Ao35 t394.length co35)).heap[gb397]? = some (.cells #[.int .i64 t392, .int .i64 t393, .slice Ao35 t394.length co35] 38 (0, 0))) := ⟨by (with_reducible repeat (first | refine blk_drewN ?_ _ | refine blk_drew ?_ | refine blk_alloc ?_ _)); refine blk_put (cs := #[.int .i64 t392, .int .i64 t393, .slice none 0 0]) ?_ 2 _ rfl; (with_reducible repeat (first | refine blk_drewN ?_ _ | refine blk_drew ?_ | refine blk_alloc ?_ _)); refine blk_put (cs := #[.int .i64 t392, .int .i64 0, .slice none 0 0]) ?_ 1 _ rfl; (with_reducible repeat (first | refine blk_drewN ?_ _ | refine blk_drew ?_ | refine blk_alloc ?_ _)); refine blk_put (cs := #[.int .i64 0, .int .i64 0, .slice none 0 0]) ?_ 0 _ rfl; (with_reducible repeat (first | refine blk_drewN ?_ _ | refine blk_drew ?_ | refine blk_alloc ?_ _)); exact BK397.out⟩
    have n5_ : Aside0 (Below w.heap.size w (((w31.setCell ⟨gb397, 0, none⟩ (.int .i64 t392)).setCell ⟨gb397, 1, none⟩ (.int .i64 t393)).setCell ⟨gb397, 2, none⟩ (.slice Ao35 t394.length co35))) := ⟨hb3_ HB.out GE380.out GE381.out GE397.out⟩
    (try clear HO387)
    (try clear HO396)
    (try clear BK380)
    (try clear BK381)
    (try clear BK397)
    (try clear HB)
    generalize (((w31.setCell ⟨gb397, 0, none⟩ (.int .i64 t392)).setCell ⟨gb397, 1, none⟩ (.int .i64 t393)).setCell ⟨gb397, 2, none⟩ (.slice Ao35 t394.length co35)) = w36 at n0_ n1_ n2_ n3_ n4_ n5_ ⊢
    have HO387 := n0_
    have HO396 := n1_
    have BK380 := n2_
    have BK381 := n3_
    have BK397 := n4_
    have HB := n5_
    clear n0_ n1_ n2_ n3_ n4_ n5_
    have n0_ := Aside0.mk (Kd.R_drew HO387.out)
    have n1_ := Aside0.mk (Kd.R_drew HO396.out)
    have n2_ := Aside0.mk (blk_drew BK380.out)
    have n3_ := Aside0.mk (blk_drew BK381.out)
    have n4_ := Aside0.mk (blk_drew BK397.out)
    have n5_ := Aside0.mk (below_drew1 HB.out)
    clear HO387
    clear HO396
    clear BK380
    clear BK381
    clear BK397
    clear HB
    have HO387 := n0_
    have HO396 := n1_
    have BK380 := n2_
    have BK381 := n3_
    have BK397 := n4_
    have HB := n5_
    clear n0_ n1_ n2_ n3_ n4_ n5_
    refine start_ (n := 11) (S := fun w' => w'.cell? ⟨gb397, 0, none⟩ = some (.int .i64 t392) ∧ w'.cell? ⟨gb397, 1, none⟩ = some (.int .i64 t393) ∧ w'.cell? ⟨gb397, 2, none⟩ = some (.slice Ao35 t394.length co35) ∧ w'.cell? ⟨gb381, 0, none⟩ = some (.int .i64 a2_0) ∧ w'.cell? ⟨gb381, 1, none⟩ = some (.int .i64 a2_1)) (ds := []) #[false, false, false, false, false, false, false, false, false, false, false] (by kernel_rfl) rfl rfl ⟨(blk_cell BK397.out 0).trans rfl, (blk_cell BK397.out 1).trans rfl, (blk_cell BK397.out 2).trans rfl, (blk_cell BK381.out 0).trans rfl, (blk_cell BK381.out 1).trans rfl⟩ (fun hHeld => ?_); refine with_tabW laws_FnExactGateBudget.tab7 laws_FnExactGateBudget.bits7 (fun HT_ HW_ => ?_)
    generalize w36.drew = w37 at HO387 HO396 BK380 BK381 BK397 HB hHeld ⊢
    refine pure_ (i := 1) (N := some 34) (v := ?_) (a' := ?_) #[false, true, false, false, false, false, false, false, false, false, false] rfl rfl (any_of HT_.out (by kernel_rfl)) (fun _ _ _ h => h) (Or.inl ⟨by rfl, ?_⟩) ?_ ?_
    rotate_left
    · intro w'
      go_simp
      with_reducible rfl
    rotate_left
    · simp only [Act.put, List.setIfInBounds_toArray, List.set_cons_zero, List.set_cons_succ, i64_w, i32_w]
      rfl
    refine pure_ (i := 4) (N := some 37) (v := ?_) (a' := ?_) #[false, true, false, false, true, false, false, false, false, false, false] rfl rfl (any_of HT_.out (by kernel_rfl)) (fun _ _ _ h => h) (Or.inl ⟨by rfl, ?_⟩) ?_ ?_
    rotate_left
    · intro w'
      go_simp
      with_reducible rfl
    rotate_left
    · simp only [Act.put, List.setIfInBounds_toArray, List.set_cons_zero, List.set_cons_succ, i64_w, i32_w]
      rfl
    refine take_ (i := 0) (N := some 33) (v := ?_) (a' := ?_) #[true, true, false, false, true, false, false, false, false, false, false] rfl rfl (take_ofW HT_.out HW_.out (by kernel_rfl)) (fun _ _ _ h => h) (Or.inl ⟨by rfl, ?_⟩) hHeld ?_ ?_
    rotate_left
    · rintro w' ⟨s0, s1, s2, s3, s4⟩
      go_simp
      with_reducible rfl
    rotate_left
    · simp only [Act.put, List.setIfInBounds_toArray, List.set_cons_zero, List.set_cons_succ, i64_w, i32_w]
      rfl
    refine take_ (i := 2) (N := some 35) (v := ?_) (a' := ?_) #[true, true, true, false, true, false, false, false, false, false, false] rfl rfl (take_ofW HT_.out HW_.out (by kernel_rfl)) (fun _ _ _ h => h) (Or.inl ⟨by rfl, ?_⟩) hHeld ?_ ?_
    rotate_left
    · rintro w' ⟨s0, s1, s2, s3, s4⟩
      go_simp
      with_reducible rfl
    rotate_left
    · simp only [Act.put, List.setIfInBounds_toArray, List.set_cons_zero, List.set_cons_succ, i64_w, i32_w]
      rfl
    refine one_ (i := 3) (N := some 36) #[true, true, true, true, true, false, false, false, false, false, false] rfl rfl (one_of HT_.out (by kernel_rfl)) (by decide) (fun K hK => ?_)
    refine goes_ Try.func12 (by kernel_rfl) rfl #[.agg #[.int .i64 a2_0, .int .i64 a2_1]] (by rfl) rfl rfl arr_ ?_
    with_reducible refine (laws_toDrift.calls a2_0 a2_1 t398 t399 _ A16.out).mono ?_
    rintro e w38 ⟨rfl, hb⟩
    refine ⟨_, rfl, ?_⟩
    have n0_ := Aside0.mk (Kd.R_below (by (with_reducible repeat (first | apply Kd.R_alloc | apply Kd.R_drewN | apply Kd.R_drew)); exact HO387.out) hb)
    have n1_ := Aside0.mk (Kd.R_below (by (with_reducible repeat (first | apply Kd.R_alloc | apply Kd.R_drewN | apply Kd.R_drew)); exact HO396.out) hb)
    have n2_ := Aside0.mk (bb_ BK380.out hb)
    have n3_ := Aside0.mk (bb_ BK381.out hb)
    have n4_ := Aside0.mk (bb_ BK397.out hb)
    have n5_ := Aside0.mk (below_step (hb3_ HB.out GE380.out GE381.out GE397.out) hb)
    clear HO387
    clear HO396
    clear BK380
    clear BK381
    clear BK397
    clear HB
    have HO387 := n0_
    have HO396 := n1_
    have BK380 := n2_
    have BK381 := n3_
    have BK397 := n4_
    have HB := n5_
    clear n0_ n1_ n2_ n3_ n4_ n5_
    (try clear hb)
    (try clear hb2)
    (try clear hk)
    (try clear hi)
    refine hK.out _ _ ⟨(blk_cell BK397.out 0).trans rfl, (blk_cell BK397.out 1).trans rfl, (blk_cell BK397.out 2).trans rfl, (blk_cell BK381.out 0).trans rfl, (blk_cell BK381.out 1).trans rfl⟩ (fun hHeld => ?_)
    clear hK K
    refine norm_ (a' := ?_) ?_ ?_
    rotate_left
    · show Act.put _ (some 36) _ = _
      simp only [Act.put, List.setIfInBounds_toArray, List.set_cons_zero, List.set_cons_succ, i64_w, i32_w]
      rfl
    refine one_ (i := 5) (N := some 38) #[true, true, true, true, true, true, false, false, false, false, false] rfl rfl (one_of HT_.out (by kernel_rfl)) (by decide) (fun K hK => ?_)
    refine goes_ Try.func17 (by kernel_rfl) rfl #[.agg #[.int .i64 t392, .int .i64 t393, .slice Ao35 t394.length co35], .int .i64 a1, .agg #[.int .i64 t398, .int .i64 t399], .int .i64 a3] (by rfl) rfl rfl arr_ ?_
    with_reducible refine (impl_GateBudget.calls k t392 t393 _ _ t394 a1 t398 t399 a3 t400 t401 _ ?side1 ?side2 A17.out).mono ?_
    (case side1 => repeat (first | exact (Kd.R_reads' HO396.out).2.2 | (with_reducible refine Kd.C_alloc ?_ _) | (with_reducible refine Kd.C_drewN ?_ _) | (with_reducible refine Kd.C_drew ?_)))
    (case side2 => exact (Kd.R_reads' HO396.out).2.1)
    rintro e w39 ⟨rfl, hb⟩
    refine ⟨_, rfl, ?_⟩
    have n0_ := Aside0.mk (Kd.R_below (by (with_reducible repeat (first | apply Kd.R_alloc | apply Kd.R_drewN | apply Kd.R_drew)); exact HO387.out) hb)
    have n1_ := Aside0.mk (Kd.R_below (by (with_reducible repeat (first | apply Kd.R_alloc | apply Kd.R_drewN | apply Kd.R_drew)); exact HO396.out) hb)
    have n2_ := Aside0.mk (bb_ BK380.out hb)
    have n3_ := Aside0.mk (bb_ BK381.out hb)
    have n4_ := Aside0.mk (bb_ BK397.out hb)
    have n5_ := Aside0.mk (below_step (hb3_ HB.out GE380.out GE381.out GE397.out) hb)
    clear HO387
    clear HO396
    clear BK380
    clear BK381
    clear BK397
    clear HB
    have HO387 := n0_
    have HO396 := n1_
    have BK380 := n2_
    have BK381 := n3_
    have BK397 := n4_
    have HB := n5_
    clear n0_ n1_ n2_ n3_ n4_ n5_
    (try clear hb)
    (try clear hb2)
    (try clear hk)
    (try clear hi)
    refine hK.out _ _ ⟨(blk_cell BK397.out 0).trans rfl, (blk_cell BK397.out 1).trans rfl, (blk_cell BK397.out 2).trans rfl, (blk_cell BK381.out 0).trans rfl, (blk_cell BK381.out 1).trans rfl⟩ (fun hHeld => ?_)
    clear hK K
    refine norm_ (a' := ?_) ?_ ?_
    rotate_left
    · show Act.put _ (some 38) _ = _
      simp only [Act.put, List.setIfInBounds_toArray, List.set_cons_zero, List.set_cons_succ, i64_w, i32_w]
      rfl
    refine pure_ (i := 6) (N := some 32) (v := ?_) (a' := ?_) #[true, true, true, true, true, true, true, false, false, false, false] rfl rfl (any_of HT_.out (by kernel_rfl)) (fun _ _ _ h => h) (Or.inl ⟨by rfl, ?_⟩) ?_ ?_
    rotate_left
    · intro w'
      go_simp
      with_reducible rfl
    rotate_left
    · simp only [Act.put, List.setIfInBounds_toArray, List.set_cons_zero, List.set_cons_succ, i64_w, i32_w]
      rfl
    refine pure_ (i := 7) (N := some 39) (v := ?_) (a' := ?_) #[true, true, true, true, true, true, true, true, false, false, false] rfl rfl (any_of HT_.out (by kernel_rfl)) (fun _ _ _ h => h) (Or.inl ⟨by rfl, ?_⟩) ?_ ?_
    rotate_left
    · intro w'
      go_simp
      with_reducible rfl
    rotate_left
    · simp only [Act.put, List.setIfInBounds_toArray, List.set_cons_zero, List.set_cons_succ, i64_w, i32_w]
      rfl
    refine pure_ (i := 8) (N := some 40) (v := ?_) (a' := ?_) #[true, true, true, true, true, true, true, true, true, false, false] rfl rfl (any_of HT_.out (by kernel_rfl)) (fun _ _ _ h => h) (Or.inl ⟨by rfl, ?_⟩) ?_ ?_
    rotate_left
    · intro w'
      go_simp
      with_reducible rfl
    rotate_left
    · simp only [Act.put, List.setIfInBounds_toArray, List.set_cons_zero, List.set_cons_succ, i64_w, i32_w]
      rfl
    refine pure_ (i := 9) (N := some 13) (v := ?_) (a' := ?_) #[true, true, true, true, true, true, true, true, true, true, false] rfl rfl (any_of HT_.out (by kernel_rfl)) (fun _ _ _ h => h) (Or.inl ⟨by rfl, ?_⟩) ?_ ?_
    rotate_left
    · intro w'
      go_simp
      with_reducible rfl
    rotate_left
    · simp only [Act.put, List.setIfInBounds_toArray, List.set_cons_zero, List.set_cons_succ, i64_w, i32_w]
      rfl
    refine pure_ (i := 10) (N := some 14) (v := ?_) (a' := ?_) #[true, true, true, true, true, true, true, true, true, true, true] rfl rfl (any_of HT_.out (by kernel_rfl)) (fun _ _ _ h => h) (Or.inl ⟨by rfl, ?_⟩) ?_ ?_
    rotate_left
    · intro w'
      go_simp
      with_reducible rfl
    rotate_left
    · simp only [Act.put, List.setIfInBounds_toArray, List.set_cons_zero, List.set_cons_succ, i64_w, i32_w]
      rfl
    refine done_ (done_of HT_.out (by kernel_rfl)) ?_
    go_upto_region 8 with (fail)
    go_cut [48] (fun v48 wc => ∃ (kq : Nat) (x48_17 : Bool), v48 = .bool x48_17 ∧ Aside0 (laws_FnExactGateBudget.j0 kq x48_17 a0_0 a0_1 l0_2 t392 t393 t394 = some r) ∧ Aside0 (kq ≤ k) ∧ Aside0 (Kd.R k55 55 wc w.heap.size (fun _ => True) (.slice Ao35 t394.length co35) t394) ∧ Aside0 (wc.heap[gb380]? = some (.cells #[.int .i64 a0_0, .int .i64 a0_1, (.slice A0_2 l0_2.length c0_2)] 28 (0, 0))) ∧ Aside0 (wc.heap[gb381]? = some (.cells #[.int .i64 a2_0, .int .i64 a2_1] 25 (0, 0))) ∧ Aside0 (wc.heap[gb397]? = some (.cells #[.int .i64 t392, .int .i64 t393, (.slice Ao35 t394.length co35)] 38 (0, 0))) ∧ Aside0 (Below w.heap.size w wc))
    case first =>
      have H := HC18.out
      clear HC18
      by_cases c40 : t400 = t390
      · rw [if_pos c40] at H
        have c40b0 : (t400 == t390) = true := beq_iff_eq.mpr c40
        have c40b1 : (t400 != t390) = false := bne_eq_false_iff_eq.mpr c40
        clear c40
        (first | rw [c40b0] | (simp only [i64_w, i32_w]; rw [c40b0]) | skip)
        have H' := Aside0.mk H
        clear H
        go_wp2
        go_meet
        case rel => exact ⟨_, ((t401 != t391)), (by first | rfl | (simp; done) | (simp [*]; done)), H', ⟨by first | omega | exact Nat.le_refl _⟩, ⟨by (with_reducible repeat (first | apply Kd.R_alloc | apply Kd.R_drewN | apply Kd.R_drew)); exact Kd.R_mono HO396.out (fun _ hk => trivial)⟩, ⟨bk_ BK380.out⟩, ⟨bk_ BK381.out⟩, ⟨bk_ BK397.out⟩, ⟨hb3_ HB.out GE380.out GE381.out GE397.out⟩⟩
      · rw [if_neg c40] at H
        have c40b0 : (t400 == t390) = false := beq_eq_false_iff_ne.mpr c40
        have c40b1 : (t400 != t390) = true := bne_iff_ne.mpr c40
        (first | rw [c40b0] | (simp only [i64_w, i32_w]; rw [c40b0]) | skip)
        have H' := Aside0.mk H
        clear H
        go_wp2
        go_meet
        case rel => exact ⟨_, (true), (by first | rfl | (simp; done) | (simp [*]; done)), H', ⟨by first | omega | exact Nat.le_refl _⟩, ⟨by (with_reducible repeat (first | apply Kd.R_alloc | apply Kd.R_drewN | apply Kd.R_drew)); exact Kd.R_mono HO396.out (fun _ hk => trivial)⟩, ⟨bk_ BK380.out⟩, ⟨bk_ BK381.out⟩, ⟨bk_ BK397.out⟩, ⟨hb3_ HB.out GE380.out GE381.out GE397.out⟩⟩
    case rest =>
      clear HC18
      try clear c1
      try clear c2
      try clear p2
      try clear c3
      try clear c4
      try clear c6
      try clear c6b0
      try clear c9
      try clear c12
      try clear c13
      try clear c16
      try clear c17
      try clear c21
      try clear c32
      try clear c33
      try clear c40
      try clear c40b0
      try clear c40b1
      try clear hcz10_0
      try clear hcz10_1
      try clear hcz10_2
      try clear hcz22_0
      try clear hcz22_1
      try clear hcz22_2
      try clear hcz29_0
      try clear hcz29_1
      try clear hcz29_2
      try clear hcz34_0
      try clear hcz34_1
      try clear hcz34_2
      try clear hfz10_0
      try clear hfz10_1
      try clear hfz10_2
      try clear hfz22_0
      try clear hfz22_1
      try clear hfz22_2
      try clear hfz29_0
      try clear hfz29_1
      try clear hfz29_2
      try clear hfz34_0
      try clear hfz34_1
      try clear hfz34_2
      obtain ⟨kq, x48_17, rfl, HA, HJ17, HO_398002, BK380, BK381, BK397, HB⟩ := hcut
      cases kq with
      | zero => exact absurd HA.out (by simp [laws_FnExactGateBudget.j0])
      | succ kj17 =>
        have H := HA.out
        clear HA
        simp only [laws_FnExactGateBudget.j0] at H
        by_cases c41 : x48_17 = true
        · subst c41
          have H1 : (some false) = some r := by rw [if_pos rfl] at H; exact H
          clear H
          have H := H1
          clear H1
          obtain rfl := Option.some.inj H
          exact absurd hr_ (by decide)
        · replace c41 := Bool.eq_false_iff.mpr c41
          subst c41
          have H1 : ((laws_toPlan.f kj17 a0_0 a0_1 l0_2).bind fun bt402 => ((laws_eqPlan.f kj17 t392 t393 t394 bt402.1 bt402.2.1 bt402.2.2).bind fun t407 => (if t407 = true then (some true) else (some false)))) = some r := by rw [if_neg (show ¬ (false = true) by decide)] at H; exact H
          clear H
          have H := H1
          clear H1
          replace H := Option.bind_eq_some_iff.mp H
          obtain ⟨⟨t402, t403, t404⟩, A420, H⟩ := H
          replace H : ((laws_eqPlan.f kj17 t392 t393 t394 t402 t403 t404).bind fun t407 => (if t407 = true then (some true) else (some false))) = some r := H
          have A42 := Aside0.mk A420
          clear A420
          replace H := Option.bind_eq_some_iff.mp H
          obtain ⟨t407, A430, H⟩ := H
          replace H : (if t407 = true then (some true) else (some false)) = some r := H
          have A43 := Aside0.mk A430
          clear A430
          by_cases c44 : t407 = true
          · subst c44
            have H1 : (some true) = some r := by rw [if_pos rfl] at H; exact H
            clear H
            have H := H1
            clear H1
            obtain rfl := Option.some.inj H
            try go_wp2
            have n0_ := Aside0.mk (Kd.R_drew HO_398002.out)
            have n1_ := Aside0.mk (blk_drew BK380.out)
            have n2_ := Aside0.mk (blk_drew BK381.out)
            have n3_ := Aside0.mk (blk_drew BK397.out)
            have n4_ := Aside0.mk (below_drew1 HB.out)
            clear HO_398002
            clear BK380
            clear BK381
            clear BK397
            clear HB
            have HO_398002 := n0_
            have BK380 := n1_
            have BK381 := n2_
            have BK397 := n3_
            have HB := n4_
            clear n0_ n1_ n2_ n3_ n4_
            refine start_ (n := 5) (S := fun w' => w'.cell? ⟨gb397, 0, none⟩ = some (.int .i64 t392) ∧ w'.cell? ⟨gb397, 1, none⟩ = some (.int .i64 t393) ∧ w'.cell? ⟨gb397, 2, none⟩ = some (.slice Ao35 t394.length co35) ∧ w'.cell? ⟨gb380, 0, none⟩ = some (.int .i64 a0_0) ∧ w'.cell? ⟨gb380, 1, none⟩ = some (.int .i64 a0_1) ∧ w'.cell? ⟨gb380, 2, none⟩ = some (.slice A0_2 l0_2.length c0_2)) (ds := []) #[false, false, false, false, false] (by kernel_rfl) rfl rfl ⟨(blk_cell BK397.out 0).trans rfl, (blk_cell BK397.out 1).trans rfl, (blk_cell BK397.out 2).trans rfl, (blk_cell BK380.out 0).trans rfl, (blk_cell BK380.out 1).trans rfl, (blk_cell BK380.out 2).trans rfl⟩ (fun hHeld => ?_)
            generalize wc.drew = w45 at HO_398002 BK380 BK381 BK397 HB hHeld ⊢
            refine take_ (i := 0) (N := some 49) (v := ?_) (a' := ?_) #[true, false, false, false, false] rfl rfl (by kernel_rfl) (fun _ _ _ h => h) (Or.inl ⟨by rfl, ?_⟩) hHeld ?_ ?_
            rotate_left
            · rintro w' ⟨s0, s1, s2, s3, s4, s5⟩
              go_simp
              with_reducible rfl
            rotate_left
            · simp only [Act.put, List.setIfInBounds_toArray, List.set_cons_zero, List.set_cons_succ, i64_w, i32_w]
              rfl
            refine take_ (i := 1) (N := some 50) (v := ?_) (a' := ?_) #[true, true, false, false, false] rfl rfl (by kernel_rfl) (fun _ _ _ h => h) (Or.inl ⟨by rfl, ?_⟩) hHeld ?_ ?_
            rotate_left
            · rintro w' ⟨s0, s1, s2, s3, s4, s5⟩
              go_simp
              with_reducible rfl
            rotate_left
            · simp only [Act.put, List.setIfInBounds_toArray, List.set_cons_zero, List.set_cons_succ, i64_w, i32_w]
              rfl
            refine one_ (i := 2) (N := some 51) #[true, true, true, false, false] rfl rfl (by kernel_rfl) (by decide) (fun K hK => ?_)
            refine goes_ Try.func13 (by kernel_rfl) rfl #[.agg #[.int .i64 a0_0, .int .i64 a0_1, .slice A0_2 l0_2.length c0_2]] (by rfl) rfl rfl arr_ ?_
            with_reducible refine (laws_toPlan.calls kj17 a0_0 a0_1 _ _ l0_2 t402 t403 t404 _ ?side1 ?side2 A42.out).mono ?_
            (case side1 => exact kc_ (Kd.C_below HR0_2.out HB.out))
            (case side2 => exact HC0_2.out)
            rintro e w46 ⟨v405, rfl, ho0, hb⟩
            refine ⟨_, rfl, ?_⟩
            have n0_ := Aside0.mk (Kd.R_elder' (by (with_reducible repeat (first | apply Kd.R_alloc | apply Kd.R_drewN | apply Kd.R_drew)); exact HO_398002.out) (Kd.R_base ho0) hb)
            have n1_ := Aside0.mk (Kd.R_lower (Kd.R_new' ho0 (Kd.R_lt (by (with_reducible repeat (first | apply Kd.R_alloc | apply Kd.R_drewN | apply Kd.R_drew)); exact HO_398002.out))) (below_size (hb3_ HB.out GE380.out GE381.out GE397.out)))
            have n2_ := Aside0.mk (bb_ BK380.out hb)
            have n3_ := Aside0.mk (bb_ BK381.out hb)
            have n4_ := Aside0.mk (bb_ BK397.out hb)
            have n5_ := Aside0.mk (below_step (hb3_ HB.out GE380.out GE381.out GE397.out) hb)
            clear HO_398002
            clear BK380
            clear BK381
            clear BK397
            clear HB
            have HO_398002 := n0_
            have HO406 := n1_
            have BK380 := n2_
            have BK381 := n3_
            have BK397 := n4_
            have HB := n5_
            clear n0_ n1_ n2_ n3_ n4_ n5_
            (try clear hb)
            (try clear hb2)
            (try clear hk)
            (try clear hi)
            (try clear ho0)
            obtain ⟨Ao47, co47, eo47⟩ := Kd.R_slice HO406.out
            (first | subst eo47 | (injection eo47 with f1_ f2_ f3_; have f4_ := f1_.symm; have f5_ := f3_.symm; clear f1_ f2_ f3_; subst f4_; subst f5_))
            refine hK.out _ _ ⟨(blk_cell BK397.out 0).trans rfl, (blk_cell BK397.out 1).trans rfl, (blk_cell BK397.out 2).trans rfl, (blk_cell BK380.out 0).trans rfl, (blk_cell BK380.out 1).trans rfl, (blk_cell BK380.out 2).trans rfl⟩ (fun hHeld => ?_)
            clear hK K
            refine norm_ (a' := ?_) ?_ ?_
            rotate_left
            · show Act.put _ (some 51) _ = _
              simp only [Act.put, List.setIfInBounds_toArray, List.set_cons_zero, List.set_cons_succ, i64_w, i32_w]
              rfl
            refine one_ (i := 3) (N := some 52) #[true, true, true, true, false] rfl rfl (by kernel_rfl) (by decide) (fun K hK => ?_)
            refine goes_ Try.func15 (by kernel_rfl) rfl #[.agg #[.int .i64 t392, .int .i64 t393, .slice Ao35 t394.length co35], .agg #[.int .i64 t402, .int .i64 t403, .slice Ao47 t404.length co47]] (by rfl) rfl rfl arr_ ?_
            with_reducible refine (laws_eqPlan.calls kj17 t392 t393 _ _ t394 t402 t403 _ _ t404 true _ ?side1 ?side2 ?side3 ?side4 A43.out).mono ?_
            (case side1 => repeat (first | exact (Kd.R_reads' HO_398002.out).2.2 | (with_reducible refine Kd.C_alloc ?_ _) | (with_reducible refine Kd.C_drewN ?_ _) | (with_reducible refine Kd.C_drew ?_)))
            (case side2 => exact (Kd.R_reads' HO_398002.out).2.1)
            (case side3 => repeat (first | exact (Kd.R_reads' HO406.out).2.2 | (with_reducible refine Kd.C_alloc ?_ _) | (with_reducible refine Kd.C_drewN ?_ _) | (with_reducible refine Kd.C_drew ?_)))
            (case side4 => exact (Kd.R_reads' HO406.out).2.1)
            rintro e w48 ⟨rfl, hb⟩
            refine ⟨_, rfl, ?_⟩
            have n0_ := Aside0.mk (Kd.R_below (by (with_reducible repeat (first | apply Kd.R_alloc | apply Kd.R_drewN | apply Kd.R_drew)); exact HO_398002.out) hb)
            have n1_ := Aside0.mk (Kd.R_below (by (with_reducible repeat (first | apply Kd.R_alloc | apply Kd.R_drewN | apply Kd.R_drew)); exact HO406.out) hb)
            have n2_ := Aside0.mk (bb_ BK380.out hb)
            have n3_ := Aside0.mk (bb_ BK381.out hb)
            have n4_ := Aside0.mk (bb_ BK397.out hb)
            have n5_ := Aside0.mk (below_step (hb3_ HB.out GE380.out GE381.out GE397.out) hb)
            clear HO_398002
            clear HO406
            clear BK380
            clear BK381
            clear BK397
            clear HB
            have HO_398002 := n0_
            have HO406 := n1_
            have BK380 := n2_
            have BK381 := n3_
            have BK397 := n4_
            have HB := n5_
            clear n0_ n1_ n2_ n3_ n4_ n5_
            (try clear hb)
            (try clear hb2)
            (try clear hk)
            (try clear hi)
            refine hK.out _ _ ⟨(blk_cell BK397.out 0).trans rfl, (blk_cell BK397.out 1).trans rfl, (blk_cell BK397.out 2).trans rfl, (blk_cell BK380.out 0).trans rfl, (blk_cell BK380.out 1).trans rfl, (blk_cell BK380.out 2).trans rfl⟩ (fun hHeld => ?_)
            clear hK K
            refine norm_ (a' := ?_) ?_ ?_
            rotate_left
            · show Act.put _ (some 52) _ = _
              simp only [Act.put, List.setIfInBounds_toArray, List.set_cons_zero, List.set_cons_succ, i64_w, i32_w]
              rfl
            refine pure_ (i := 4) (N := some 53) (v := ?_) (a' := ?_) #[true, true, true, true, true] rfl rfl (by kernel_rfl) (fun _ _ _ h => h) (Or.inl ⟨by rfl, ?_⟩) ?_ ?_
            rotate_left
            · intro w'
              go_simp
              with_reducible rfl
            rotate_left
            · simp only [Act.put, List.setIfInBounds_toArray, List.set_cons_zero, List.set_cons_succ, i64_w, i32_w]
              rfl
            refine done_ (by kernel_rfl) ?_
            try go_wp2
            go_ret
            exact ⟨er_, hb3_ HB.out GE380.out GE381.out GE397.out⟩
          · replace c44 := Bool.eq_false_iff.mpr c44
            subst c44
            have H1 : (some false) = some r := by rw [if_neg (show ¬ (false = true) by decide)] at H; exact H
            clear H
            have H := H1
            clear H1
            obtain rfl := Option.some.inj H
            exact absurd hr_ (by decide)
end Go.Proofs.Ytejohmompmjhnaa.P
namespace Go.Proofs.Ytejohmompmjhnaa.V
open Go.RowKit Go.Proofs.Ytejohmompmjhnaa.P Go.Proofs.Ytejohmompmjhnaa.C Go.Proofs.Ytejohmompmjhnaa.G
theorem FnExactGateBudget : ∀ (a0_0 : Int) (a0_1 : Int) (l0_2 : List (S104)) (a1 : Int) (a2_0 : Int) (a2_1 : Int) (a3 : Int), (Lit.int .i64 a0_0).wf = true → (Lit.int .i64 a0_1).wf = true → (l0_2.length ≤ 9223372036854775807 ∧ ∀ y ∈ l0_2, ((Lit.int .i64 y.f0).wf = true ∧ (Lit.int .i64 y.f1).wf = true)) → (Lit.int .i64 a1).wf = true → (Lit.int .i64 a2_0).wf = true → (Lit.int .i64 a2_1).wf = true → (Lit.int .i64 a3).wf = true → ∃ k, laws_FnExactGateBudget.f k a0_0 a0_1 l0_2 a1 a2_0 a2_1 a3 = some true := by
  intro st gap l own n d x _ _ hl0 _ _ _ _
  obtain ⟨hl, _⟩ := hl0
  refine ⟨2000000, ?_⟩
  unfold laws_FnExactGateBudget.f
  rcases szPlan st gap l hl 1048576 (by omega) with h | ⟨h, hs⟩
  · rw [h]; simp
  rw [h]
  simp only [Option.bind_some]
  rw [if_neg (by omega)]
  have hm : (l.map toSl).length = l.length := by simp
  have hj : ∀ k, 1999000 ≤ k → laws_FnExactGateBudget.j0 k false st gap l st gap (l.map toSl) = some true := by
    intro k hk
    obtain ⟨k, rfl⟩ : ∃ j, k = j + 1 := ⟨k - 1, by omega⟩
    simp only [laws_FnExactGateBudget.j0]
    rw [if_neg (by decide), toPlan st gap l (by omega) _ (by omega)]
    simp only [Option.bind_some]
    rw [eqPlan _ _ _ (by omega) _ (by omega)]
    rfl
  simp only [laws_toDrift.f, Option.bind_some]
  rw [toPlan st gap l (by omega) _ (by omega)]
  simp only [Option.bind_some]
  rw [sGateBudget _ _ _ (by omega) _ _ _ _ _ (by omega), iGateBudget _ _ _ (by omega) _ _ _ _ _ (by omega)]
  simp only [Option.bind_some, if_true, bne_self_eq_false]
  exact hj _ (by omega)
end Go.Proofs.Ytejohmompmjhnaa.V
