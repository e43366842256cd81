/- Texts of the seat's proofs, part 12: functions of the program told as plain functions, with their contracts, and what is shown of them. No condition. -/
import Derived.Test.YtakcaiigkdglhaaU
import Derived.Test.YtakcaiigkdglhaaM1
import Derived.Test.YtakcaiigkdglhaaM8
import Derived.Test.YtakcaiigkdglhaaM4
set_option linter.unusedVariables false
set_option linter.unusedSimpArgs false
namespace Go.Proofs.Ytakcaiigkdglhaa.P
open Go.RowKit Go.Proofs.YtakcaiigkdglhaaW.PrintWords Go.Proofs.YtakcaiigkdglhaaW.PrintLast Go.Proofs.YtakcaiigkdglhaaW.PrintMore
attribute [local go_sem] max2_int min2_int max_two min_two max_three min_three max_four min_four
set_option linter.unusedVariables false
set_option linter.unusedSimpArgs false
def laws_eqFrac.f (a0_0 : Int) (a0_1 : Int) (a1_0 : Int) (a1_1 : Int) : Option (Bool) := if a0_0 = a1_0 then (if a0_1 = a1_1 then (some true) else (some false)) else (some false)
set_option maxHeartbeats 8000000 in
set_option maxRecDepth 100000 in
theorem laws_eqFrac.calls (a0_0 : Int) (a0_1 : Int) (a1_0 : Int) (a1_1 : Int) (r : Bool) (w : World) (h : laws_eqFrac.f a0_0 a0_1 a1_0 a1_1 = some r) :
    Calls Try.prog 35 #[.agg #[.int .i64 a0_0, .int .i64 a0_1], .agg #[.int .i64 a1_0, .int .i64 a1_1]] w fun e w' => e = .returned (.bool r) ∧ Below w.heap.size w w' := by
  have hu51 := Try.underlying51
  have HB := Aside0.mk (Below.refl w.heap.size w)
  have H : (if a0_0 = a1_0 then (if a0_1 = a1_1 then (some true) else (some false)) else (some false)) = some r := h
  clear h
  by_cases c3 : a0_0 = a1_0
  · rw [if_pos c3] at H
    have c3b0 : (a0_0 == a1_0) = true := beq_iff_eq.mpr c3
    have c3b1 : (a0_0 != a1_0) = false := bne_eq_false_iff_eq.mpr c3
    clear c3
    by_cases c4 : a0_1 = a1_1
    · rw [if_pos c4] at H
      have c4b0 : (a0_1 == a1_1) = true := beq_iff_eq.mpr c4
      have c4b1 : (a0_1 != a1_1) = false := bne_eq_false_iff_eq.mpr c4
      clear c4
      obtain rfl := Option.some.inj H
      go_enter Try.func35, Try.ntmps35
      go_wp2_with (first | ((with_reducible refine gate_dst (N := 2) rfl ?_); refine box_event ?hg (N := 2) ?hd (cs := #[.int .i64 a0_0, .int .i64 a0_1]) (t := 51) ?hr ?_; (case hd => rfl); (case hg => rfl); (case hr => first | (go_simp; done) | (go_simp; rfl)); intro gb546 hg w5 hbox hb; have n0_ := Aside0.mk (below_step (hb_ HB.out) hb); have n1_ := Aside0.mk (hbox); have n2_ := Aside0.mk ((by rw [hg]; exact (below_size (hb_ HB.out)) : w.heap.size ≤ gb546)); have n3_ := Aside0.mk ((by rw [hg]; exact (below_size (hb_ HB.out)) : w.heap.size ≤ gb546)); clear HB; have HB := n0_; have BK546 := n1_; have GW546 := n2_; have GE546 := n3_; clear n0_ n1_ n2_ n3_; clear hb hbox hg) | ((with_reducible refine gate_dst (N := 3) rfl ?_); refine box_event ?hg (N := 3) ?hd (cs := #[.int .i64 a1_0, .int .i64 a1_1]) (t := 51) ?hr ?_; (case hd => rfl); (case hg => rfl); (case hr => first | (go_simp; done) | (go_simp; rfl)); intro gb547 hg w6 hbox hb; have n0_ := Aside0.mk (bb_ BK546.out hb); have n1_ := Aside0.mk (below_step (hb1_ HB.out GE546.out) hb); have n2_ := Aside0.mk (hbox); have n3_ := Aside0.mk ((by rw [hg]; exact (below_size (hb1_ HB.out GE546.out)) : w.heap.size ≤ gb547)); have n4_ := Aside0.mk ((by rw [hg]; exact (below_size (hb1_ HB.out GE546.out)) : w.heap.size ≤ gb547)); have n5_ := Aside0.mk ((bl_ hg BK546.out : gb546 ≠ gb547)); have n6_ := Aside0.mk ((bg_ hg BK546.out : gb547 ≠ gb546)); clear BK546; clear HB; have BK546 := n0_; have HB := n1_; have BK547 := n2_; have GW547 := n3_; have GE547 := n4_; have NB546_547 := n5_; have NB547_546 := n6_; clear n0_ n1_ n2_ n3_ n4_ n5_ n6_; clear hb hbox hg; have hnb7 := NB546_547.out; have hnc7 := NB547_546.out; have hcz8_0 := bc_ BK546.out 0 (.int .i64 a0_0) rfl; have hcz8_1 := bc_ BK546.out 1 (.int .i64 a0_1) rfl; have hfz8_0 := blk_frozen BK546.out 0; have hfz8_1 := blk_frozen BK546.out 1; have hcz9_0 := bc_ BK547.out 0 (.int .i64 a1_0) rfl; have hcz9_1 := bc_ BK547.out 1 (.int .i64 a1_1) rfl; have hfz9_0 := blk_frozen BK547.out 0; have hfz9_1 := blk_frozen BK547.out 1))
      go_ret
      exact ⟨er_, hb2_ HB.out GE546.out GE547.out⟩
    · rw [if_neg c4] at H
      have c4b0 : (a0_1 == a1_1) = false := beq_eq_false_iff_ne.mpr c4
      have c4b1 : (a0_1 != a1_1) = true := bne_iff_ne.mpr c4
      obtain rfl := Option.some.inj H
      go_enter Try.func35, Try.ntmps35
      go_wp2_with (first | ((with_reducible refine gate_dst (N := 2) rfl ?_); refine box_event ?hg (N := 2) ?hd (cs := #[.int .i64 a0_0, .int .i64 a0_1]) (t := 51) ?hr ?_; (case hd => rfl); (case hg => rfl); (case hr => first | (go_simp; done) | (go_simp; rfl)); intro gb546 hg w10 hbox hb; have n0_ := Aside0.mk (below_step (hb_ HB.out) hb); have n1_ := Aside0.mk (hbox); have n2_ := Aside0.mk ((by rw [hg]; exact (below_size (hb_ HB.out)) : w.heap.size ≤ gb546)); have n3_ := Aside0.mk ((by rw [hg]; exact (below_size (hb_ HB.out)) : w.heap.size ≤ gb546)); clear HB; have HB := n0_; have BK546 := n1_; have GW546 := n2_; have GE546 := n3_; clear n0_ n1_ n2_ n3_; clear hb hbox hg) | ((with_reducible refine gate_dst (N := 3) rfl ?_); refine box_event ?hg (N := 3) ?hd (cs := #[.int .i64 a1_0, .int .i64 a1_1]) (t := 51) ?hr ?_; (case hd => rfl); (case hg => rfl); (case hr => first | (go_simp; done) | (go_simp; rfl)); intro gb547 hg w11 hbox hb; have n0_ := Aside0.mk (bb_ BK546.out hb); have n1_ := Aside0.mk (below_step (hb1_ HB.out GE546.out) hb); have n2_ := Aside0.mk (hbox); have n3_ := Aside0.mk ((by rw [hg]; exact (below_size (hb1_ HB.out GE546.out)) : w.heap.size ≤ gb547)); have n4_ := Aside0.mk ((by rw [hg]; exact (below_size (hb1_ HB.out GE546.out)) : w.heap.size ≤ gb547)); have n5_ := Aside0.mk ((bl_ hg BK546.out : gb546 ≠ gb547)); have n6_ := Aside0.mk ((bg_ hg BK546.out : gb547 ≠ gb546)); clear BK546; clear HB; have BK546 := n0_; have HB := n1_; have BK547 := n2_; have GW547 := n3_; have GE547 := n4_; have NB546_547 := n5_; have NB547_546 := n6_; clear n0_ n1_ n2_ n3_ n4_ n5_ n6_; clear hb hbox hg; have hnb12 := NB546_547.out; have hnc12 := NB547_546.out; have hcz13_0 := bc_ BK546.out 0 (.int .i64 a0_0) rfl; have hcz13_1 := bc_ BK546.out 1 (.int .i64 a0_1) rfl; have hfz13_0 := blk_frozen BK546.out 0; have hfz13_1 := blk_frozen BK546.out 1; have hcz14_0 := bc_ BK547.out 0 (.int .i64 a1_0) rfl; have hcz14_1 := bc_ BK547.out 1 (.int .i64 a1_1) rfl; have hfz14_0 := blk_frozen BK547.out 0; have hfz14_1 := blk_frozen BK547.out 1))
      go_ret
      exact ⟨er_, hb2_ HB.out GE546.out GE547.out⟩
  · rw [if_neg c3] at H
    have c3b0 : (a0_0 == a1_0) = false := beq_eq_false_iff_ne.mpr c3
    have c3b1 : (a0_0 != a1_0) = true := bne_iff_ne.mpr c3
    obtain rfl := Option.some.inj H
    go_enter Try.func35, Try.ntmps35
    go_wp2_with (first | ((with_reducible refine gate_dst (N := 2) rfl ?_); refine box_event ?hg (N := 2) ?hd (cs := #[.int .i64 a0_0, .int .i64 a0_1]) (t := 51) ?hr ?_; (case hd => rfl); (case hg => rfl); (case hr => first | (go_simp; done) | (go_simp; rfl)); intro gb546 hg w15 hbox hb; have n0_ := Aside0.mk (below_step (hb_ HB.out) hb); have n1_ := Aside0.mk (hbox); have n2_ := Aside0.mk ((by rw [hg]; exact (below_size (hb_ HB.out)) : w.heap.size ≤ gb546)); have n3_ := Aside0.mk ((by rw [hg]; exact (below_size (hb_ HB.out)) : w.heap.size ≤ gb546)); clear HB; have HB := n0_; have BK546 := n1_; have GW546 := n2_; have GE546 := n3_; clear n0_ n1_ n2_ n3_; clear hb hbox hg) | ((with_reducible refine gate_dst (N := 3) rfl ?_); refine box_event ?hg (N := 3) ?hd (cs := #[.int .i64 a1_0, .int .i64 a1_1]) (t := 51) ?hr ?_; (case hd => rfl); (case hg => rfl); (case hr => first | (go_simp; done) | (go_simp; rfl)); intro gb547 hg w16 hbox hb; have n0_ := Aside0.mk (bb_ BK546.out hb); have n1_ := Aside0.mk (below_step (hb1_ HB.out GE546.out) hb); have n2_ := Aside0.mk (hbox); have n3_ := Aside0.mk ((by rw [hg]; exact (below_size (hb1_ HB.out GE546.out)) : w.heap.size ≤ gb547)); have n4_ := Aside0.mk ((by rw [hg]; exact (below_size (hb1_ HB.out GE546.out)) : w.heap.size ≤ gb547)); have n5_ := Aside0.mk ((bl_ hg BK546.out : gb546 ≠ gb547)); have n6_ := Aside0.mk ((bg_ hg BK546.out : gb547 ≠ gb546)); clear BK546; clear HB; have BK546 := n0_; have HB := n1_; have BK547 := n2_; have GW547 := n3_; have GE547 := n4_; have NB546_547 := n5_; have NB547_546 := n6_; clear n0_ n1_ n2_ n3_ n4_ n5_ n6_; clear hb hbox hg; have hnb17 := NB546_547.out; have hnc17 := NB547_546.out; have hcz18_0 := bc_ BK546.out 0 (.int .i64 a0_0) rfl; have hcz18_1 := bc_ BK546.out 1 (.int .i64 a0_1) rfl; have hfz18_0 := blk_frozen BK546.out 0; have hfz18_1 := blk_frozen BK546.out 1; have hcz19_0 := bc_ BK547.out 0 (.int .i64 a1_0) rfl; have hcz19_1 := bc_ BK547.out 1 (.int .i64 a1_1) rfl; have hfz19_0 := blk_frozen BK547.out 0; have hfz19_1 := blk_frozen BK547.out 1))
    go_ret
    exact ⟨er_, hb2_ HB.out GE546.out GE547.out⟩
def laws_FnExactShareOf.j0 : Nat → Bool → Int → Int → List (S88) → Int → Int → List (S60) → Option (Bool)
  | 0, _, _, _, _, _, _, _ => none
  | k + 1, x39, x549000, x549001, x549002, x565000, x565001, x565002 => if x39 = true then (some false) else ((laws_toPlan.f k x549000 x549001 x549002).bind fun bt570 => ((laws_eqPlan.f k x565000 x565001 x565002 bt570.1 bt570.2.1 bt570.2.2).bind fun t575 => (if t575 = true then (some true) else (some false))))
def laws_FnExactShareOf.f (k : Nat) (a0_0 : Int) (a0_1 : Int) (l0_2 : List (S88)) (a1 : Int) : Option (Bool) := (laws_szPlan.f a0_0 a0_1 l0_2 1048576).bind fun t549 => (if t549 < 0 then (some true) else ((laws_toPlan.f k a0_0 a0_1 l0_2).bind fun bt550 => ((spec_ShareOf.f k bt550.1 bt550.2.1 bt550.2.2 a1).bind fun bt555 => ((laws_toPlan.f k a0_0 a0_1 l0_2).bind fun bt559 => ((impl_ShareOf.f k bt559.1 bt559.2.1 bt559.2.2 a1).bind fun bt565 => ((laws_eqFrac.f bt565.1 bt565.2.1 bt555.1 bt555.2.1).bind fun t569 => (if t569 = true then (laws_FnExactShareOf.j0 k (bt565.2.2 != bt555.2.2) a0_0 a0_1 l0_2 bt559.1 bt559.2.1 bt559.2.2) else (laws_FnExactShareOf.j0 k true a0_0 a0_1 l0_2 bt559.1 bt559.2.1 bt559.2.2))))))))
theorem laws_FnExactShareOf.mono_l : ∀ k, (∀ y0 y1 y2 y3 y4 y5 y6, LeO (laws_FnExactShareOf.j0 k y0 y1 y2 y3 y4 y5 y6) (laws_FnExactShareOf.j0 (k + 1) y0 y1 y2 y3 y4 y5 y6))
  | 0 => fun _ _ _ _ _ _ _ r h => by simp [laws_FnExactShareOf.j0] at h
  | k + 1 => by
    have ih0 := laws_FnExactShareOf.mono_l k
    · intro y0 y1 y2 y3 y4 y5 y6
      unfold laws_FnExactShareOf.j0
      repeat' first
      | (with_reducible exact ih0 _ _ _ _ _ _ _)
      | (with_reducible exact impl_ShareOf.mono _ _ _ _ _)
      | (with_reducible exact laws_eqPlan.mono _ _ _ _ _ _ _)
      | (with_reducible exact laws_toPlan.mono _ _ _ _)
      | (with_reducible exact spec_ShareOf.mono _ _ _ _ _)
      | (with_reducible exact LeO.refl _)
      | (with_reducible exact LeO.none _)
      | (with_reducible refine LeO.ite ?_ ?_)
      | (with_reducible refine LeO.bind ?_ (fun _ => ?_))
      | exact ih0 _ _ _ _ _ _ _
      | exact impl_ShareOf.mono _ _ _ _ _
      | exact laws_eqPlan.mono _ _ _ _ _ _ _
      | exact laws_toPlan.mono _ _ _ _
      | exact spec_ShareOf.mono _ _ _ _ _
      | exact LeO.none _
      | refine LeO.ite ?_ ?_
      | refine LeO.bind ?_ (fun _ => ?_)
theorem laws_FnExactShareOf.mono : ∀ a0 a1 a2 a3 k, LeO (laws_FnExactShareOf.f k a0 a1 a2 a3) (laws_FnExactShareOf.f (k + 1) a0 a1 a2 a3) := by
  intro a0 a1 a2 a3 k
  have ih0 := laws_FnExactShareOf.mono_l k
  unfold laws_FnExactShareOf.f
  repeat' first
      | (with_reducible exact ih0 _ _ _ _ _ _ _)
      | (with_reducible exact impl_ShareOf.mono _ _ _ _ _)
      | (with_reducible exact laws_eqPlan.mono _ _ _ _ _ _ _)
      | (with_reducible exact laws_toPlan.mono _ _ _ _)
      | (with_reducible exact spec_ShareOf.mono _ _ _ _ _)
      | (with_reducible exact LeO.refl _)
      | (with_reducible exact LeO.none _)
      | (with_reducible refine LeO.ite ?_ ?_)
      | (with_reducible refine LeO.bind ?_ (fun _ => ?_))
      | exact ih0 _ _ _ _ _ _ _
      | exact impl_ShareOf.mono _ _ _ _ _
      | exact laws_eqPlan.mono _ _ _ _ _ _ _
      | exact laws_toPlan.mono _ _ _ _
      | exact spec_ShareOf.mono _ _ _ _ _
      | exact LeO.none _
      | refine LeO.ite ?_ ?_
      | refine LeO.bind ?_ (fun _ => ?_)
set_option maxHeartbeats 8000000 in
set_option maxRecDepth 100000 in
theorem laws_FnExactShareOf.calls (k : Nat) (a0_0 : Int) (a0_1 : Int) (A0_2 : Option Addr) (c0_2 : Nat) (l0_2 : List (S88)) (a1 : Int) (r : Bool) (w : World) (hr0_2 : Kd.C k88 w A0_2 l0_2.length l0_2) (hc0_2 : l0_2.length ≤ c0_2) (hr_ : r = true) (h : laws_FnExactShareOf.f k a0_0 a0_1 l0_2 a1 = some r) :
    Calls Try.prog 10 #[.agg #[.int .i64 a0_0, .int .i64 a0_1, .slice A0_2 l0_2.length c0_2], .int .i64 a1] w fun e w' => e = .returned (.bool r) ∧ Below w.heap.size w w' := by
  have hu24 := Try.underlying24
  have hu51 := Try.underlying51
  have hu29 := Try.underlying29
  have HR0_2 := Aside0.mk hr0_2
  have HC0_2 := Aside0.mk hc0_2
  clear hr0_2 hc0_2
  have HB := Aside0.mk (Below.refl w.heap.size w)
  have H : ((laws_szPlan.f a0_0 a0_1 l0_2 1048576).bind fun t549 => (if t549 < 0 then (some true) else ((laws_toPlan.f k a0_0 a0_1 l0_2).bind fun bt550 => ((spec_ShareOf.f k bt550.1 bt550.2.1 bt550.2.2 a1).bind fun bt555 => ((laws_toPlan.f k a0_0 a0_1 l0_2).bind fun bt559 => ((impl_ShareOf.f k bt559.1 bt559.2.1 bt559.2.2 a1).bind fun bt565 => ((laws_eqFrac.f bt565.1 bt565.2.1 bt555.1 bt555.2.1).bind fun t569 => (if t569 = true then (laws_FnExactShareOf.j0 k (bt565.2.2 != bt555.2.2) a0_0 a0_1 l0_2 bt559.1 bt559.2.1 bt559.2.2) else (laws_FnExactShareOf.j0 k true a0_0 a0_1 l0_2 bt559.1 bt559.2.1 bt559.2.2))))))))) = some r := h
  clear h
  replace H := Option.bind_eq_some_iff.mp H
  obtain ⟨t549, A30, H⟩ := H
  replace H : (if t549 < 0 then (some true) else ((laws_toPlan.f k a0_0 a0_1 l0_2).bind fun bt550 => ((spec_ShareOf.f k bt550.1 bt550.2.1 bt550.2.2 a1).bind fun bt555 => ((laws_toPlan.f k a0_0 a0_1 l0_2).bind fun bt559 => ((impl_ShareOf.f k bt559.1 bt559.2.1 bt559.2.2 a1).bind fun bt565 => ((laws_eqFrac.f bt565.1 bt565.2.1 bt555.1 bt555.2.1).bind fun t569 => (if t569 = true then (laws_FnExactShareOf.j0 k (bt565.2.2 != bt555.2.2) a0_0 a0_1 l0_2 bt559.1 bt559.2.1 bt559.2.2) else (laws_FnExactShareOf.j0 k true a0_0 a0_1 l0_2 bt559.1 bt559.2.1 bt559.2.2)))))))) = some r := H
  have A3 := Aside0.mk A30
  clear A30
  by_cases c4 : t549 < 0
  · rw [if_pos c4] at H
    have c4b0 : decide (t549 < 0) = true := decide_eq_true c4
    clear c4
    obtain rfl := Option.some.inj H
    go_enter Try.func10, Try.ntmps10
    go_wp2_with (first | ((with_reducible refine gate_dst (N := 2) rfl ?_); refine box_event ?hg (N := 2) ?hd (cs := #[.int .i64 a0_0, .int .i64 a0_1, .slice A0_2 l0_2.length c0_2]) (t := 24) ?hr ?_; (case hd => rfl); (case hg => rfl); (case hr => first | (go_simp; done) | (go_simp; rfl)); intro gb548 hg w5 hbox hb; have n0_ := Aside0.mk (below_step (hb_ HB.out) hb); have n1_ := Aside0.mk (hbox); have n2_ := Aside0.mk ((by rw [hg]; exact (below_size (hb_ HB.out)) : w.heap.size ≤ gb548)); have n3_ := Aside0.mk ((by rw [hg]; exact (below_size (hb_ HB.out)) : w.heap.size ≤ gb548)); clear HB; have HB := n0_; have BK548 := n1_; have GW548 := n2_; have GE548 := n3_; clear n0_ n1_ n2_ n3_; clear hb hbox hg; have hcz6_0 := bc_ BK548.out 0 (.int .i64 a0_0) rfl; have hcz6_1 := bc_ BK548.out 1 (.int .i64 a0_1) rfl; have hcz6_2 := bc_ BK548.out 2 (.slice A0_2 l0_2.length c0_2) rfl; have hfz6_0 := blk_frozen BK548.out 0; have hfz6_1 := blk_frozen BK548.out 1; have hfz6_2 := blk_frozen BK548.out 2) | ((with_reducible refine gate_callee (f := 13) rfl ?_); refine goesL_ (some 13) rfl rfl Try.func13 (by kernel_rfl) rfl #[.agg #[.int .i64 a0_0, .int .i64 a0_1, .slice A0_2 l0_2.length c0_2], .int .i64 1048576] rfl arr_ ?_; (with_reducible refine (laws_szPlan.calls a0_0 a0_1 _ _ l0_2 1048576 t549 _ ?side1 ?side2 A3.out).mono ?_); (case side1 => exact kc_ (Kd.C_below HR0_2.out HB.out)); (case side2 => exact HC0_2.out); rintro e w7 ⟨rfl, hb⟩; refine ⟨_, rfl, ?_⟩; have n0_ := Aside0.mk (bb_ BK548.out hb); have n1_ := Aside0.mk (below_step (hb1_ HB.out GE548.out) hb); clear BK548; clear HB; have BK548 := n0_; have HB := n1_; clear n0_ n1_; (try clear hb); (try clear hb2); (try clear hk); (try clear hi)))
    go_ret
    exact ⟨er_, hb1_ HB.out GE548.out⟩
  · rw [if_neg c4] at H
    have c4b0 : decide (t549 < 0) = false := decide_eq_false c4
    clear c4
    replace H := Option.bind_eq_some_iff.mp H
    obtain ⟨⟨t550, t551, t552⟩, A80, H⟩ := H
    replace H : ((spec_ShareOf.f k t550 t551 t552 a1).bind fun bt555 => ((laws_toPlan.f k a0_0 a0_1 l0_2).bind fun bt559 => ((impl_ShareOf.f k bt559.1 bt559.2.1 bt559.2.2 a1).bind fun bt565 => ((laws_eqFrac.f bt565.1 bt565.2.1 bt555.1 bt555.2.1).bind fun t569 => (if t569 = true then (laws_FnExactShareOf.j0 k (bt565.2.2 != bt555.2.2) a0_0 a0_1 l0_2 bt559.1 bt559.2.1 bt559.2.2) else (laws_FnExactShareOf.j0 k true a0_0 a0_1 l0_2 bt559.1 bt559.2.1 bt559.2.2)))))) = some r := H
    have A8 := Aside0.mk A80
    clear A80
    replace H := Option.bind_eq_some_iff.mp H
    obtain ⟨⟨t555, t556, t557⟩, A90, H⟩ := H
    replace H : ((laws_toPlan.f k a0_0 a0_1 l0_2).bind fun bt559 => ((impl_ShareOf.f k bt559.1 bt559.2.1 bt559.2.2 a1).bind fun bt565 => ((laws_eqFrac.f bt565.1 bt565.2.1 t555 t556).bind fun t569 => (if t569 = true then (laws_FnExactShareOf.j0 k (bt565.2.2 != t557) a0_0 a0_1 l0_2 bt559.1 bt559.2.1 bt559.2.2) else (laws_FnExactShareOf.j0 k true a0_0 a0_1 l0_2 bt559.1 bt559.2.1 bt559.2.2))))) = some r := H
    have A9 := Aside0.mk A90
    clear A90
    replace H := Option.bind_eq_some_iff.mp H
    obtain ⟨⟨t559, t560, t561⟩, A100, H⟩ := H
    replace H : ((impl_ShareOf.f k t559 t560 t561 a1).bind fun bt565 => ((laws_eqFrac.f bt565.1 bt565.2.1 t555 t556).bind fun t569 => (if t569 = true then (laws_FnExactShareOf.j0 k (bt565.2.2 != t557) a0_0 a0_1 l0_2 t559 t560 t561) else (laws_FnExactShareOf.j0 k true a0_0 a0_1 l0_2 t559 t560 t561)))) = some r := H
    have A10 := Aside0.mk A100
    clear A100
    replace H := Option.bind_eq_some_iff.mp H
    obtain ⟨⟨t565, t566, t567⟩, A110, H⟩ := H
    replace H : ((laws_eqFrac.f t565 t566 t555 t556).bind fun t569 => (if t569 = true then (laws_FnExactShareOf.j0 k (t567 != t557) a0_0 a0_1 l0_2 t559 t560 t561) else (laws_FnExactShareOf.j0 k true a0_0 a0_1 l0_2 t559 t560 t561))) = some r := H
    have A11 := Aside0.mk A110
    clear A110
    have HC12 := Aside0.mk H
    clear H
    go_enter Try.func10, Try.ntmps10
    go_upto_region 8 with (first | ((with_reducible refine gate_dst (N := 2) rfl ?_); refine box_event ?hg (N := 2) ?hd (cs := #[.int .i64 a0_0, .int .i64 a0_1, .slice A0_2 l0_2.length c0_2]) (t := 24) ?hr ?_; (case hd => rfl); (case hg => rfl); (case hr => first | (go_simp; done) | (go_simp; rfl)); intro gb548 hg w13 hbox hb; have n0_ := Aside0.mk (below_step (hb_ HB.out) hb); have n1_ := Aside0.mk (hbox); have n2_ := Aside0.mk ((by rw [hg]; exact (below_size (hb_ HB.out)) : w.heap.size ≤ gb548)); have n3_ := Aside0.mk ((by rw [hg]; exact (below_size (hb_ HB.out)) : w.heap.size ≤ gb548)); clear HB; have HB := n0_; have BK548 := n1_; have GW548 := n2_; have GE548 := n3_; clear n0_ n1_ n2_ n3_; clear hb hbox hg; have hcz14_0 := bc_ BK548.out 0 (.int .i64 a0_0) rfl; have hcz14_1 := bc_ BK548.out 1 (.int .i64 a0_1) rfl; have hcz14_2 := bc_ BK548.out 2 (.slice A0_2 l0_2.length c0_2) rfl; have hfz14_0 := blk_frozen BK548.out 0; have hfz14_1 := blk_frozen BK548.out 1; have hfz14_2 := blk_frozen BK548.out 2) | ((with_reducible refine gate_callee (f := 13) rfl ?_); refine goesL_ (some 13) rfl rfl Try.func13 (by kernel_rfl) rfl #[.agg #[.int .i64 a0_0, .int .i64 a0_1, .slice A0_2 l0_2.length c0_2], .int .i64 1048576] rfl arr_ ?_; (with_reducible refine (laws_szPlan.calls a0_0 a0_1 _ _ l0_2 1048576 t549 _ ?side1 ?side2 A3.out).mono ?_); (case side1 => exact kc_ (Kd.C_below HR0_2.out HB.out)); (case side2 => exact HC0_2.out); rintro e w15 ⟨rfl, hb⟩; refine ⟨_, rfl, ?_⟩; have n0_ := Aside0.mk (bb_ BK548.out hb); have n1_ := Aside0.mk (below_step (hb1_ HB.out GE548.out) hb); clear BK548; clear HB; have BK548 := n0_; have HB := n1_; clear n0_ n1_; (try clear hb); (try clear hb2); (try clear hk); (try clear hi); have hcz16_0 := bc_ BK548.out 0 (.int .i64 a0_0) rfl; have hcz16_1 := bc_ BK548.out 1 (.int .i64 a0_1) rfl; have hcz16_2 := bc_ BK548.out 2 (.slice A0_2 l0_2.length c0_2) rfl; have hfz16_0 := blk_frozen BK548.out 0; have hfz16_1 := blk_frozen BK548.out 1; have hfz16_2 := blk_frozen BK548.out 2) | ((with_reducible refine gate_callee (f := 15) rfl ?_); refine goesL_ (some 18) rfl rfl Try.func15 (by kernel_rfl) rfl #[.agg #[.int .i64 a0_0, .int .i64 a0_1, .slice A0_2 l0_2.length c0_2]] rfl arr_ ?_; (with_reducible refine (laws_toPlan.calls k a0_0 a0_1 _ _ l0_2 t550 t551 t552 _ ?side1 ?side2 A8.out).mono ?_); (case side1 => exact kc_ (Kd.C_below HR0_2.out HB.out)); (case side2 => exact HC0_2.out); rintro e w17 ⟨v553, rfl, ho0, hb⟩; refine ⟨_, rfl, ?_⟩; have n0_ := Aside0.mk (Kd.R_lower ho0 (below_size (hb1_ HB.out GE548.out))); have n1_ := Aside0.mk (bb_ BK548.out hb); have n2_ := Aside0.mk (below_step (hb1_ HB.out GE548.out) hb); clear BK548; clear HB; have HO554 := n0_; have BK548 := n1_; have HB := n2_; clear n0_ n1_ n2_; (try clear hb); (try clear hb2); (try clear hk); (try clear hi); (try clear ho0); obtain ⟨Ao18, co18, eo18⟩ := Kd.R_slice HO554.out; subst eo18) | ((with_reducible refine gate_callee (f := 33) rfl ?_); refine goesL_ (some 20) rfl rfl Try.func33 (by kernel_rfl) rfl #[.agg #[.int .i64 t550, .int .i64 t551, .slice Ao18 t552.length co18], .int .i64 a1] rfl arr_ ?_; (with_reducible refine (spec_ShareOf.calls k t550 t551 _ _ t552 a1 t555 t556 t557 _ ?side1 ?side2 A9.out).mono ?_); (case side1 => repeat (first | exact (Kd.R_reads' HO554.out).2.2 | (with_reducible refine Kd.C_alloc ?_ _) | (with_reducible refine Kd.C_drewN ?_ _) | (with_reducible refine Kd.C_drew ?_))); (case side2 => exact (Kd.R_reads' HO554.out).2.1); rintro e w19 ⟨rfl, hb⟩; refine ⟨_, rfl, ?_⟩; have n0_ := Aside0.mk (Kd.R_below (by (with_reducible repeat (first | apply Kd.R_alloc | apply Kd.R_drewN | apply Kd.R_drew)); exact HO554.out) hb); have n1_ := Aside0.mk (bb_ BK548.out hb); have n2_ := Aside0.mk (below_step (hb1_ HB.out GE548.out) hb); clear HO554; clear BK548; clear HB; have HO554 := n0_; have BK548 := n1_; have HB := n2_; clear n0_ n1_ n2_; (try clear hb); (try clear hb2); (try clear hk); (try clear hi)) | ((with_reducible refine gate_dst (N := 6) rfl ?_); refine box_event ?hg (N := 6) ?hd (cs := #[.int .i64 0, .int .i64 0]) (t := 51) ?hr ?_; (case hd => rfl); (case hg => rfl); (case hr => first | (go_simp; done) | (go_simp; rfl)); intro gb558 hg w20 hbox hb; have n0_ := Aside0.mk (Kd.R_below (by (with_reducible repeat (first | apply Kd.R_alloc | apply Kd.R_drewN | apply Kd.R_drew)); exact HO554.out) hb); have n1_ := Aside0.mk (bb_ BK548.out hb); have n2_ := Aside0.mk (below_step (hb1_ HB.out GE548.out) hb); have n3_ := Aside0.mk (hbox); have n4_ := Aside0.mk ((by rw [hg]; exact (below_size (hb1_ HB.out GE548.out)) : w.heap.size ≤ gb558)); have n5_ := Aside0.mk ((by rw [hg]; exact (below_size (hb1_ HB.out GE548.out)) : w.heap.size ≤ gb558)); have n6_ := Aside0.mk ((bl_ hg BK548.out : gb548 ≠ gb558)); have n7_ := Aside0.mk ((bg_ hg BK548.out : gb558 ≠ gb548)); clear HO554; clear BK548; clear HB; have HO554 := n0_; have BK548 := n1_; have HB := n2_; have BK558 := n3_; have GW558 := n4_; have GE558 := n5_; have NB548_558 := n6_; have NB558_548 := n7_; clear n0_ n1_ n2_ n3_ n4_ n5_ n6_ n7_; clear hb hbox hg; have hnb21 := NB558_548.out; have hnc21 := NB548_558.out; have hcz22_0 := bc_ BK558.out 0 (.int .i64 0) rfl; have hcz22_1 := bc_ BK558.out 1 (.int .i64 0) rfl; have hfz22_0 := blk_frozen BK558.out 0; have hfz22_1 := blk_frozen BK558.out 1; have hcz23_0 := bc_ BK548.out 0 (.int .i64 a0_0) rfl; have hcz23_1 := bc_ BK548.out 1 (.int .i64 a0_1) rfl; have hcz23_2 := bc_ BK548.out 2 (.slice A0_2 l0_2.length c0_2) rfl; have hfz23_0 := blk_frozen BK548.out 0; have hfz23_1 := blk_frozen BK548.out 1; have hfz23_2 := blk_frozen BK548.out 2) | ((with_reducible refine gate_callee (f := 15) rfl ?_); refine goesL_ (some 24) rfl rfl Try.func15 (by kernel_rfl) rfl #[.agg #[.int .i64 a0_0, .int .i64 a0_1, .slice A0_2 l0_2.length c0_2]] rfl arr_ ?_; (with_reducible refine (laws_toPlan.calls k a0_0 a0_1 _ _ l0_2 t559 t560 t561 _ ?side1 ?side2 A10.out).mono ?_); (case side1 => exact Kd.C_below HR0_2.out (hb2_ HB.out GE548.out GE558.out)); (case side2 => exact HC0_2.out); rintro e w24 ⟨v562, rfl, ho0, hb⟩; refine ⟨_, rfl, ?_⟩; have n0_ := Aside0.mk (Kd.R_elder' (by (with_reducible repeat (first | apply Kd.R_alloc | apply Kd.R_drewN | apply Kd.R_drew)); exact (Kd.R_mono (Kd.R_far (p := ⟨gb558, 1, none⟩) (Kd.R_far (p := ⟨gb558, 0, none⟩) (Kd.R_types HO554.out BK558.out (by decide)) (fun _ hk => hk.2) (.int .i64 t555)) (fun _ hk => hk.2) (.int .i64 t556)) (fun _ h_ => h_.1))) (Kd.R_base ho0) hb); have n1_ := Aside0.mk (Kd.R_lower (Kd.R_new' ho0 (Kd.R_lt (by (with_reducible repeat (first | apply Kd.R_alloc | apply Kd.R_drewN | apply Kd.R_drew)); exact (Kd.R_mono (Kd.R_far (p := ⟨gb558, 1, none⟩) (Kd.R_far (p := ⟨gb558, 0, none⟩) (Kd.R_types HO554.out BK558.out (by decide)) (fun _ hk => hk.2) (.int .i64 t555)) (fun _ hk => hk.2) (.int .i64 t556)) (fun _ h_ => h_.1))))) (below_size (hb2_ HB.out GE548.out GE558.out))); have n2_ := Aside0.mk (blk_below (g := gb548) (o := .cells #[.int .i64 a0_0, .int .i64 a0_1, .slice A0_2 l0_2.length c0_2] 24 (0, 0)) (by (with_reducible repeat (first | refine blk_drewN ?_ _ | refine blk_drew ?_ | refine blk_alloc ?_ _)); refine blk_far ?_ NB548_558.out _; (with_reducible repeat (first | refine blk_drewN ?_ _ | refine blk_drew ?_ | refine blk_alloc ?_ _)); refine blk_far ?_ NB548_558.out _; (with_reducible repeat (first | refine blk_drewN ?_ _ | refine blk_drew ?_ | refine blk_alloc ?_ _)); exact BK548.out) hb); have n3_ := Aside0.mk (blk_below (g := gb558) (o := .cells #[.int .i64 t555, .int .i64 t556] 51 (0, 0)) (by (with_reducible repeat (first | refine blk_drewN ?_ _ | refine blk_drew ?_ | refine blk_alloc ?_ _)); refine blk_put (cs := #[.int .i64 t555, .int .i64 0]) ?_ 1 _ rfl; (with_reducible repeat (first | refine blk_drewN ?_ _ | refine blk_drew ?_ | refine blk_alloc ?_ _)); refine blk_put (cs := #[.int .i64 0, .int .i64 0]) ?_ 0 _ rfl; (with_reducible repeat (first | refine blk_drewN ?_ _ | refine blk_drew ?_ | refine blk_alloc ?_ _)); exact BK558.out) hb); have n4_ := Aside0.mk (below_step (hb2_ HB.out GE548.out GE558.out) hb); clear HO554; clear BK548; clear BK558; clear HB; have HO554 := n0_; have HO563 := n1_; have BK548 := n2_; have BK558 := n3_; have HB := n4_; clear n0_ n1_ n2_ n3_ n4_; (try clear hb); (try clear hb2); (try clear hk); (try clear hi); (try clear ho0)) | ((with_reducible refine gate_dst (N := 8) rfl ?_); refine box_event ?hg (N := 8) ?hd (cs := #[.int .i64 0, .int .i64 0, .slice none 0 0]) (t := 29) ?hr ?_; (case hd => rfl); (case hg => rfl); (case hr => first | (go_simp; done) | (go_simp; rfl)); intro gb564 hg w25 hbox hb; have n0_ := Aside0.mk (Kd.R_below (by (with_reducible repeat (first | apply Kd.R_alloc | apply Kd.R_drewN | apply Kd.R_drew)); exact HO554.out) hb); have n1_ := Aside0.mk (Kd.R_below (by (with_reducible repeat (first | apply Kd.R_alloc | apply Kd.R_drewN | apply Kd.R_drew)); exact HO563.out) hb); have n2_ := Aside0.mk (bb_ BK548.out hb); have n3_ := Aside0.mk (bb_ BK558.out hb); have n4_ := Aside0.mk (below_step (hb2_ HB.out GE548.out GE558.out) hb); have n5_ := Aside0.mk (hbox); have n6_ := Aside0.mk ((by rw [hg]; exact (below_size (hb2_ HB.out GE548.out GE558.out)) : w.heap.size ≤ gb564)); have n7_ := Aside0.mk ((by rw [hg]; exact (below_size (hb2_ HB.out GE548.out GE558.out)) : w.heap.size ≤ gb564)); have n8_ := Aside0.mk ((bl_ hg BK548.out : gb548 ≠ gb564)); have n9_ := Aside0.mk ((bg_ hg BK548.out : gb564 ≠ gb548)); have n10_ := Aside0.mk ((bl_ hg BK558.out : gb558 ≠ gb564)); have n11_ := Aside0.mk ((bg_ hg BK558.out : gb564 ≠ gb558)); clear HO554; clear HO563; clear BK548; clear BK558; clear HB; have HO554 := n0_; have HO563 := n1_; have BK548 := n2_; have BK558 := n3_; have HB := n4_; have BK564 := n5_; have GW564 := n6_; have GE564 := n7_; have NB548_564 := n8_; have NB564_548 := n9_; have NB558_564 := n10_; have NB564_558 := n11_; clear n0_ n1_ n2_ n3_ n4_ n5_ n6_ n7_ n8_ n9_ n10_ n11_; clear hb hbox hg; have hnb26 := NB564_548.out; have hnc26 := NB548_564.out; have hnb27 := NB564_558.out; have hnc27 := NB558_564.out; have hcz28_0 := bc_ BK564.out 0 (.int .i64 0) rfl; have hcz28_1 := bc_ BK564.out 1 (.int .i64 0) rfl; have hcz28_2 := bc_ BK564.out 2 (.slice none 0 0) rfl; have hfz28_0 := blk_frozen BK564.out 0; have hfz28_1 := blk_frozen BK564.out 1; have hfz28_2 := blk_frozen BK564.out 2; obtain ⟨Ao29, co29, eo29⟩ := Kd.R_slice HO563.out; subst eo29) | ((with_reducible refine gate_callee (f := 34) rfl ?_); refine goesL_ (some 28) rfl rfl Try.func34 (by kernel_rfl) rfl #[.agg #[.int .i64 t559, .int .i64 t560, .slice Ao29 t561.length co29], .int .i64 a1] rfl arr_ ?_; (with_reducible refine (impl_ShareOf.calls k t559 t560 _ _ t561 a1 t565 t566 t567 _ ?side1 ?side2 A11.out).mono ?_); (case side1 => refine (Kd.R_reads' (e := 60) (base := w.heap.size) (ok := fun k_ => (True ∧ some k_ ≠ (.slice Ao18 t552.length co18 : Value).ownBlock)) (n := t561.length) (c := co29) ?_).2.2; exact (by (with_reducible repeat (first | apply Kd.R_alloc | apply Kd.R_drewN | apply Kd.R_drew)); exact (Kd.R_mono (Kd.R_far (p := ⟨gb564, 2, none⟩) (Kd.R_far (p := ⟨gb564, 1, none⟩) (Kd.R_far (p := ⟨gb564, 0, none⟩) (Kd.R_types HO563.out BK564.out (by decide)) (fun _ hk => hk.2) (.int .i64 t559)) (fun _ hk => hk.2) (.int .i64 t560)) (fun _ hk => hk.2) (.slice Ao29 t561.length co29)) (fun _ h_ => h_.1)))); (case side2 => exact (Kd.R_reads' HO563.out).2.1); rintro e w30 ⟨rfl, hb⟩; refine ⟨_, rfl, ?_⟩; have n0_ := Aside0.mk (Kd.R_below (by (with_reducible repeat (first | apply Kd.R_alloc | apply Kd.R_drewN | apply Kd.R_drew)); exact (Kd.R_mono (Kd.R_far (p := ⟨gb564, 2, none⟩) (Kd.R_far (p := ⟨gb564, 1, none⟩) (Kd.R_far (p := ⟨gb564, 0, none⟩) (Kd.R_types HO554.out BK564.out (by decide)) (fun _ hk => hk.2) (.int .i64 t559)) (fun _ hk => hk.2) (.int .i64 t560)) (fun _ hk => hk.2) (.slice Ao29 t561.length co29)) (fun _ h_ => h_.1))) hb); have n1_ := Aside0.mk (Kd.R_below (by (with_reducible repeat (first | apply Kd.R_alloc | apply Kd.R_drewN | apply Kd.R_drew)); exact (Kd.R_mono (Kd.R_far (p := ⟨gb564, 2, none⟩) (Kd.R_far (p := ⟨gb564, 1, none⟩) (Kd.R_far (p := ⟨gb564, 0, none⟩) (Kd.R_types HO563.out BK564.out (by decide)) (fun _ hk => hk.2) (.int .i64 t559)) (fun _ hk => hk.2) (.int .i64 t560)) (fun _ hk => hk.2) (.slice Ao29 t561.length co29)) (fun _ h_ => h_.1))) hb); have n2_ := Aside0.mk (blk_below (g := gb548) (o := .cells #[.int .i64 a0_0, .int .i64 a0_1, .slice A0_2 l0_2.length c0_2] 24 (0, 0)) (by (with_reducible repeat (first | refine blk_drewN ?_ _ | refine blk_drew ?_ | refine blk_alloc ?_ _)); refine blk_far ?_ NB548_564.out _; (with_reducible repeat (first | refine blk_drewN ?_ _ | refine blk_drew ?_ | refine blk_alloc ?_ _)); refine blk_far ?_ NB548_564.out _; (with_reducible repeat (first | refine blk_drewN ?_ _ | refine blk_drew ?_ | refine blk_alloc ?_ _)); refine blk_far ?_ NB548_564.out _; (with_reducible repeat (first | refine blk_drewN ?_ _ | refine blk_drew ?_ | refine blk_alloc ?_ _)); exact BK548.out) hb); have n3_ := Aside0.mk (blk_below (g := gb558) (o := .cells #[.int .i64 t555, .int .i64 t556] 51 (0, 0)) (by (with_reducible repeat (first | refine blk_drewN ?_ _ | refine blk_drew ?_ | refine blk_alloc ?_ _)); refine blk_far ?_ NB558_564.out _; (with_reducible repeat (first | refine blk_drewN ?_ _ | refine blk_drew ?_ | refine blk_alloc ?_ _)); refine blk_far ?_ NB558_564.out _; (with_reducible repeat (first | refine blk_drewN ?_ _ | refine blk_drew ?_ | refine blk_alloc ?_ _)); refine blk_far ?_ NB558_564.out _; (with_reducible repeat (first | refine blk_drewN ?_ _ | refine blk_drew ?_ | refine blk_alloc ?_ _)); exact BK558.out) hb); have n4_ := Aside0.mk (blk_below (g := gb564) (o := .cells #[.int .i64 t559, .int .i64 t560, .slice Ao29 t561.length co29] 29 (0, 0)) (by (with_reducible repeat (first | refine blk_drewN ?_ _ | refine blk_drew ?_ | refine blk_alloc ?_ _)); refine blk_put (cs := #[.int .i64 t559, .int .i64 t560, .slice none 0 0]) ?_ 2 _ rfl; (with_reducible repeat (first | refine blk_drewN ?_ _ | refine blk_drew ?_ | refine blk_alloc ?_ _)); refine blk_put (cs := #[.int .i64 t559, .int .i64 0, .slice none 0 0]) ?_ 1 _ rfl; (with_reducible repeat (first | refine blk_drewN ?_ _ | refine blk_drew ?_ | refine blk_alloc ?_ _)); refine blk_put (cs := #[.int .i64 0, .int .i64 0, .slice none 0 0]) ?_ 0 _ rfl; (with_reducible repeat (first | refine blk_drewN ?_ _ | refine blk_drew ?_ | refine blk_alloc ?_ _)); exact BK564.out) hb); have n5_ := Aside0.mk (below_step (hb3_ HB.out GE548.out GE558.out GE564.out) hb); clear HO554; clear HO563; clear BK548; clear BK558; clear BK564; clear HB; have HO554 := n0_; have HO563 := n1_; have BK548 := n2_; have BK558 := n3_; have BK564 := n4_; have HB := n5_; clear n0_ n1_ n2_ n3_ n4_ n5_; (try clear hb); (try clear hb2); (try clear hk); (try clear hi)) | ((with_reducible refine gate_dst (N := 9) rfl ?_); refine box_event ?hg (N := 9) ?hd (cs := #[.int .i64 0, .int .i64 0]) (t := 51) ?hr ?_; (case hd => rfl); (case hg => rfl); (case hr => first | (go_simp; done) | (go_simp; rfl)); intro gb568 hg w31 hbox hb; have n0_ := Aside0.mk (Kd.R_below (by (with_reducible repeat (first | apply Kd.R_alloc | apply Kd.R_drewN | apply Kd.R_drew)); exact HO554.out) hb); have n1_ := Aside0.mk (Kd.R_below (by (with_reducible repeat (first | apply Kd.R_alloc | apply Kd.R_drewN | apply Kd.R_drew)); exact HO563.out) hb); have n2_ := Aside0.mk (bb_ BK548.out hb); have n3_ := Aside0.mk (bb_ BK558.out hb); have n4_ := Aside0.mk (bb_ BK564.out hb); have n5_ := Aside0.mk (below_step (hb3_ HB.out GE548.out GE558.out GE564.out) hb); have n6_ := Aside0.mk (hbox); have n7_ := Aside0.mk ((by rw [hg]; exact (below_size (hb3_ HB.out GE548.out GE558.out GE564.out)) : w.heap.size ≤ gb568)); have n8_ := Aside0.mk ((by rw [hg]; exact (below_size (hb3_ HB.out GE548.out GE558.out GE564.out)) : w.heap.size ≤ gb568)); have n9_ := Aside0.mk ((bl_ hg BK548.out : gb548 ≠ gb568)); have n10_ := Aside0.mk ((bg_ hg BK548.out : gb568 ≠ gb548)); have n11_ := Aside0.mk ((bl_ hg BK558.out : gb558 ≠ gb568)); have n12_ := Aside0.mk ((bg_ hg BK558.out : gb568 ≠ gb558)); have n13_ := Aside0.mk ((bl_ hg BK564.out : gb564 ≠ gb568)); have n14_ := Aside0.mk ((bg_ hg BK564.out : gb568 ≠ gb564)); clear HO554; clear HO563; clear BK548; clear BK558; clear BK564; clear HB; have HO554 := n0_; have HO563 := n1_; have BK548 := n2_; have BK558 := n3_; have BK564 := n4_; have HB := n5_; have BK568 := n6_; have GW568 := n7_; have GE568 := n8_; have NB548_568 := n9_; have NB568_548 := n10_; have NB558_568 := n11_; have NB568_558 := n12_; have NB564_568 := n13_; have NB568_564 := n14_; clear n0_ n1_ n2_ n3_ n4_ n5_ n6_ n7_ n8_ n9_ n10_ n11_ n12_ n13_ n14_; clear hb hbox hg; have hnb32 := NB568_548.out; have hnc32 := NB548_568.out; have hnb33 := NB568_558.out; have hnc33 := NB558_568.out; have hnb34 := NB568_564.out; have hnc34 := NB564_568.out; have hcz35_0 := bc_ BK568.out 0 (.int .i64 0) rfl; have hcz35_1 := bc_ BK568.out 1 (.int .i64 0) rfl; have hfz35_0 := blk_frozen BK568.out 0; have hfz35_1 := blk_frozen BK568.out 1))
    (try simp only [Act.put, List.setIfInBounds_toArray, List.set_cons_zero, List.set_cons_succ])
    go_cut [39] (fun v39 wc => ∃ (kq : Nat) (x39_11 : Bool), v39 = .bool x39_11 ∧ Aside0 (laws_FnExactShareOf.j0 kq x39_11 a0_0 a0_1 l0_2 t559 t560 t561 = some r) ∧ Aside0 (kq ≤ k) ∧ Aside0 (Kd.R k60 60 wc w.heap.size (fun _ => True) (.slice Ao29 t561.length co29) t561) ∧ Aside0 (wc.heap[gb548]? = some (.cells #[.int .i64 a0_0, .int .i64 a0_1, (.slice A0_2 l0_2.length c0_2)] 24 (0, 0))) ∧ Aside0 (wc.heap[gb558]? = some (.cells #[.int .i64 t555, .int .i64 t556] 51 (0, 0))) ∧ Aside0 (wc.heap[gb564]? = some (.cells #[.int .i64 t559, .int .i64 t560, (.slice Ao29 t561.length co29)] 29 (0, 0))) ∧ Aside0 (wc.heap[gb568]? = some (.cells #[.int .i64 t565, .int .i64 t566] 51 (0, 0))) ∧ Aside0 (Below w.heap.size w wc))
    case first =>
      have H := HC12.out
      clear HC12
      replace H := Option.bind_eq_some_iff.mp H
      obtain ⟨t569, A360, H⟩ := H
      replace H : (if t569 = true then (laws_FnExactShareOf.j0 k (t567 != t557) a0_0 a0_1 l0_2 t559 t560 t561) else (laws_FnExactShareOf.j0 k true a0_0 a0_1 l0_2 t559 t560 t561)) = some r := H
      have A36 := Aside0.mk A360
      clear A360
      by_cases c37 : t569 = true
      · subst c37
        have H1 : (laws_FnExactShareOf.j0 k (t567 != t557) a0_0 a0_1 l0_2 t559 t560 t561) = some r := by rw [if_pos rfl] at H; exact H
        clear H
        have H := H1
        clear H1
        have H' := Aside0.mk H
        clear H
        have hnb38 := NB568_548.out
        have hnc38 := NB548_568.out
        have hnb39 := NB568_558.out
        have hnc39 := NB558_568.out
        have hnb40 := NB568_564.out
        have hnc40 := NB564_568.out
        have hcz41_0 := bc_ BK568.out 0 (.int .i64 0) rfl
        have hcz41_1 := bc_ BK568.out 1 (.int .i64 0) rfl
        have hfz41_0 := blk_frozen BK568.out 0
        have hfz41_1 := blk_frozen BK568.out 1
        have hnb42 := NB558_548.out
        have hnc42 := NB548_558.out
        have hnb43 := NB558_564.out
        have hnc43 := NB564_558.out
        have hcz44_0 := bc_ BK558.out 0 (.int .i64 t555) rfl
        have hcz44_1 := bc_ BK558.out 1 (.int .i64 t556) rfl
        have hfz44_0 := blk_frozen BK558.out 0
        have hfz44_1 := blk_frozen BK558.out 1
        go_wp2_with (first | ((with_reducible refine gate_callee (f := 35) rfl ?_); refine goesL_ (some 33) rfl rfl Try.func35 (by kernel_rfl) rfl #[.agg #[.int .i64 t565, .int .i64 t566], .agg #[.int .i64 t555, .int .i64 t556]] rfl arr_ ?_; (with_reducible refine (laws_eqFrac.calls t565 t566 t555 t556 true _ A36.out).mono ?_); rintro e w45 ⟨rfl, hb⟩; refine ⟨_, rfl, ?_⟩; have n0_ := Aside0.mk (Kd.R_below (by (with_reducible repeat (first | apply Kd.R_alloc | apply Kd.R_drewN | apply Kd.R_drew)); exact (Kd.R_mono (Kd.R_far (p := ⟨gb568, 1, none⟩) (Kd.R_far (p := ⟨gb568, 0, none⟩) (Kd.R_types HO554.out BK568.out (by decide)) (fun _ hk => hk.2) (.int .i64 t565)) (fun _ hk => hk.2) (.int .i64 t566)) (fun _ h_ => h_.1))) hb); have n1_ := Aside0.mk (Kd.R_below (by (with_reducible repeat (first | apply Kd.R_alloc | apply Kd.R_drewN | apply Kd.R_drew)); exact (Kd.R_mono (Kd.R_far (p := ⟨gb568, 1, none⟩) (Kd.R_far (p := ⟨gb568, 0, none⟩) (Kd.R_types HO563.out BK568.out (by decide)) (fun _ hk => hk.2) (.int .i64 t565)) (fun _ hk => hk.2) (.int .i64 t566)) (fun _ h_ => h_.1))) hb); have n2_ := Aside0.mk (blk_below (g := gb548) (o := .cells #[.int .i64 a0_0, .int .i64 a0_1, .slice A0_2 l0_2.length c0_2] 24 (0, 0)) (by (with_reducible repeat (first | refine blk_drewN ?_ _ | refine blk_drew ?_ | refine blk_alloc ?_ _)); refine blk_far ?_ NB548_568.out _; (with_reducible repeat (first | refine blk_drewN ?_ _ | refine blk_drew ?_ | refine blk_alloc ?_ _)); refine blk_far ?_ NB548_568.out _; (with_reducible repeat (first | refine blk_drewN ?_ _ | refine blk_drew ?_ | refine blk_alloc ?_ _)); exact BK548.out) hb); have n3_ := Aside0.mk (blk_below (g := gb558) (o := .cells #[.int .i64 t555, .int .i64 t556] 51 (0, 0)) (by (with_reducible repeat (first | refine blk_drewN ?_ _ | refine blk_drew ?_ | refine blk_alloc ?_ _)); refine blk_far ?_ NB558_568.out _; (with_reducible repeat (first | refine blk_drewN ?_ _ | refine blk_drew ?_ | refine blk_alloc ?_ _)); refine blk_far ?_ NB558_568.out _; (with_reducible repeat (first | refine blk_drewN ?_ _ | refine blk_drew ?_ | refine blk_alloc ?_ _)); exact BK558.out) hb); have n4_ := Aside0.mk (blk_below (g := gb564) (o := .cells #[.int .i64 t559, .int .i64 t560, .slice Ao29 t561.length co29] 29 (0, 0)) (by (with_reducible repeat (first | refine blk_drewN ?_ _ | refine blk_drew ?_ | refine blk_alloc ?_ _)); refine blk_far ?_ NB564_568.out _; (with_reducible repeat (first | refine blk_drewN ?_ _ | refine blk_drew ?_ | refine blk_alloc ?_ _)); refine blk_far ?_ NB564_568.out _; (with_reducible repeat (first | refine blk_drewN ?_ _ | refine blk_drew ?_ | refine blk_alloc ?_ _)); exact BK564.out) hb); have n5_ := Aside0.mk (blk_below (g := gb568) (o := .cells #[.int .i64 t565, .int .i64 t566] 51 (0, 0)) (by (with_reducible repeat (first | refine blk_drewN ?_ _ | refine blk_drew ?_ | refine blk_alloc ?_ _)); refine blk_put (cs := #[.int .i64 t565, .int .i64 0]) ?_ 1 _ rfl; (with_reducible repeat (first | refine blk_drewN ?_ _ | refine blk_drew ?_ | refine blk_alloc ?_ _)); refine blk_put (cs := #[.int .i64 0, .int .i64 0]) ?_ 0 _ rfl; (with_reducible repeat (first | refine blk_drewN ?_ _ | refine blk_drew ?_ | refine blk_alloc ?_ _)); exact BK568.out) hb); have n6_ := Aside0.mk (below_step (hb4_ HB.out GE548.out GE558.out GE564.out GE568.out) hb); clear HO554; clear HO563; clear BK548; clear BK558; clear BK564; clear BK568; clear HB; have HO554 := n0_; have HO563 := n1_; have BK548 := n2_; have BK558 := n3_; have BK564 := n4_; have BK568 := n5_; have HB := n6_; clear n0_ n1_ n2_ n3_ n4_ n5_ n6_; (try clear hb); (try clear hb2); (try clear hk); (try clear hi)))
        go_meet
        case rel => exact ⟨_, ((t567 != t557)), (by first | rfl | (simp; done) | (simp [*]; done)), H', ⟨by first | omega | exact Nat.le_refl _⟩, ⟨by (with_reducible repeat (first | apply Kd.R_alloc | apply Kd.R_drewN | apply Kd.R_drew)); exact Kd.R_mono HO563.out (fun _ hk => trivial)⟩, ⟨bk_ BK548.out⟩, ⟨bk_ BK558.out⟩, ⟨bk_ BK564.out⟩, ⟨bk_ BK568.out⟩, ⟨hb4_ HB.out GE548.out GE558.out GE564.out GE568.out⟩⟩
      · replace c37 := Bool.eq_false_iff.mpr c37
        subst c37
        have H1 : (laws_FnExactShareOf.j0 k true a0_0 a0_1 l0_2 t559 t560 t561) = some r := by rw [if_neg (show ¬ (false = true) by decide)] at H; exact H
        clear H
        have H := H1
        clear H1
        have H' := Aside0.mk H
        clear H
        have hnb46 := NB568_548.out
        have hnc46 := NB548_568.out
        have hnb47 := NB568_558.out
        have hnc47 := NB558_568.out
        have hnb48 := NB568_564.out
        have hnc48 := NB564_568.out
        have hcz49_0 := bc_ BK568.out 0 (.int .i64 0) rfl
        have hcz49_1 := bc_ BK568.out 1 (.int .i64 0) rfl
        have hfz49_0 := blk_frozen BK568.out 0
        have hfz49_1 := blk_frozen BK568.out 1
        have hnb50 := NB558_548.out
        have hnc50 := NB548_558.out
        have hnb51 := NB558_564.out
        have hnc51 := NB564_558.out
        have hcz52_0 := bc_ BK558.out 0 (.int .i64 t555) rfl
        have hcz52_1 := bc_ BK558.out 1 (.int .i64 t556) rfl
        have hfz52_0 := blk_frozen BK558.out 0
        have hfz52_1 := blk_frozen BK558.out 1
        go_wp2_with (first | ((with_reducible refine gate_callee (f := 35) rfl ?_); refine goesL_ (some 33) rfl rfl Try.func35 (by kernel_rfl) rfl #[.agg #[.int .i64 t565, .int .i64 t566], .agg #[.int .i64 t555, .int .i64 t556]] rfl arr_ ?_; (with_reducible refine (laws_eqFrac.calls t565 t566 t555 t556 false _ A36.out).mono ?_); rintro e w53 ⟨rfl, hb⟩; refine ⟨_, rfl, ?_⟩; have n0_ := Aside0.mk (Kd.R_below (by (with_reducible repeat (first | apply Kd.R_alloc | apply Kd.R_drewN | apply Kd.R_drew)); exact (Kd.R_mono (Kd.R_far (p := ⟨gb568, 1, none⟩) (Kd.R_far (p := ⟨gb568, 0, none⟩) (Kd.R_types HO554.out BK568.out (by decide)) (fun _ hk => hk.2) (.int .i64 t565)) (fun _ hk => hk.2) (.int .i64 t566)) (fun _ h_ => h_.1))) hb); have n1_ := Aside0.mk (Kd.R_below (by (with_reducible repeat (first | apply Kd.R_alloc | apply Kd.R_drewN | apply Kd.R_drew)); exact (Kd.R_mono (Kd.R_far (p := ⟨gb568, 1, none⟩) (Kd.R_far (p := ⟨gb568, 0, none⟩) (Kd.R_types HO563.out BK568.out (by decide)) (fun _ hk => hk.2) (.int .i64 t565)) (fun _ hk => hk.2) (.int .i64 t566)) (fun _ h_ => h_.1))) hb); have n2_ := Aside0.mk (blk_below (g := gb548) (o := .cells #[.int .i64 a0_0, .int .i64 a0_1, .slice A0_2 l0_2.length c0_2] 24 (0, 0)) (by (with_reducible repeat (first | refine blk_drewN ?_ _ | refine blk_drew ?_ | refine blk_alloc ?_ _)); refine blk_far ?_ NB548_568.out _; (with_reducible repeat (first | refine blk_drewN ?_ _ | refine blk_drew ?_ | refine blk_alloc ?_ _)); refine blk_far ?_ NB548_568.out _; (with_reducible repeat (first | refine blk_drewN ?_ _ | refine blk_drew ?_ | refine blk_alloc ?_ _)); exact BK548.out) hb); have n3_ := Aside0.mk (blk_below (g := gb558) (o := .cells #[.int .i64 t555, .int .i64 t556] 51 (0, 0)) (by (with_reducible repeat (first | refine blk_drewN ?_ _ | refine blk_drew ?_ | refine blk_alloc ?_ _)); refine blk_far ?_ NB558_568.out _; (with_reducible repeat (first | refine blk_drewN ?_ _ | refine blk_drew ?_ | refine blk_alloc ?_ _)); refine blk_far ?_ NB558_568.out _; (with_reducible repeat (first | refine blk_drewN ?_ _ | refine blk_drew ?_ | refine blk_alloc ?_ _)); exact BK558.out) hb); have n4_ := Aside0.mk (blk_below (g := gb564) (o := .cells #[.int .i64 t559, .int .i64 t560, .slice Ao29 t561.length co29] 29 (0, 0)) (by (with_reducible repeat (first | refine blk_drewN ?_ _ | refine blk_drew ?_ | refine blk_alloc ?_ _)); refine blk_far ?_ NB564_568.out _; (with_reducible repeat (first | refine blk_drewN ?_ _ | refine blk_drew ?_ | refine blk_alloc ?_ _)); refine blk_far ?_ NB564_568.out _; (with_reducible repeat (first | refine blk_drewN ?_ _ | refine blk_drew ?_ | refine blk_alloc ?_ _)); exact BK564.out) hb); have n5_ := Aside0.mk (blk_below (g := gb568) (o := .cells #[.int .i64 t565, .int .i64 t566] 51 (0, 0)) (by (with_reducible repeat (first | refine blk_drewN ?_ _ | refine blk_drew ?_ | refine blk_alloc ?_ _)); refine blk_put (cs := #[.int .i64 t565, .int .i64 0]) ?_ 1 _ rfl; (with_reducible repeat (first | refine blk_drewN ?_ _ | refine blk_drew ?_ | refine blk_alloc ?_ _)); refine blk_put (cs := #[.int .i64 0, .int .i64 0]) ?_ 0 _ rfl; (with_reducible repeat (first | refine blk_drewN ?_ _ | refine blk_drew ?_ | refine blk_alloc ?_ _)); exact BK568.out) hb); have n6_ := Aside0.mk (below_step (hb4_ HB.out GE548.out GE558.out GE564.out GE568.out) hb); clear HO554; clear HO563; clear BK548; clear BK558; clear BK564; clear BK568; clear HB; have HO554 := n0_; have HO563 := n1_; have BK548 := n2_; have BK558 := n3_; have BK564 := n4_; have BK568 := n5_; have HB := n6_; clear n0_ n1_ n2_ n3_ n4_ n5_ n6_; (try clear hb); (try clear hb2); (try clear hk); (try clear hi)))
        go_meet
        case rel => exact ⟨_, (true), (by first | rfl | (simp; done) | (simp [*]; done)), H', ⟨by first | omega | exact Nat.le_refl _⟩, ⟨by (with_reducible repeat (first | apply Kd.R_alloc | apply Kd.R_drewN | apply Kd.R_drew)); exact Kd.R_mono HO563.out (fun _ hk => trivial)⟩, ⟨bk_ BK548.out⟩, ⟨bk_ BK558.out⟩, ⟨bk_ BK564.out⟩, ⟨bk_ BK568.out⟩, ⟨hb4_ HB.out GE548.out GE558.out GE564.out GE568.out⟩⟩
    case rest =>
      clear HC12
      try clear c1
      try clear c2
      try clear p2
      try clear c3
      try clear c4
      try clear c4b0
      try clear c5
      try clear c10
      try clear c13
      try clear c15
      try clear c21
      try clear c26
      try clear c27
      try clear c32
      try clear c33
      try clear c34
      try clear c35
      try clear c37
      try clear c38
      try clear c39
      try clear c40
      try clear c42
      try clear c43
      try clear c46
      try clear c47
      try clear c48
      try clear c50
      try clear c51
      try clear hcz14_0
      try clear hcz14_1
      try clear hcz14_2
      try clear hcz16_0
      try clear hcz16_1
      try clear hcz16_2
      try clear hcz22_0
      try clear hcz22_1
      try clear hcz23_0
      try clear hcz23_1
      try clear hcz23_2
      try clear hcz28_0
      try clear hcz28_1
      try clear hcz28_2
      try clear hcz35_0
      try clear hcz35_1
      try clear hcz41_0
      try clear hcz41_1
      try clear hcz44_0
      try clear hcz44_1
      try clear hcz49_0
      try clear hcz49_1
      try clear hcz52_0
      try clear hcz52_1
      try clear hcz6_0
      try clear hcz6_1
      try clear hcz6_2
      try clear hfz14_0
      try clear hfz14_1
      try clear hfz14_2
      try clear hfz16_0
      try clear hfz16_1
      try clear hfz16_2
      try clear hfz22_0
      try clear hfz22_1
      try clear hfz23_0
      try clear hfz23_1
      try clear hfz23_2
      try clear hfz28_0
      try clear hfz28_1
      try clear hfz28_2
      try clear hfz35_0
      try clear hfz35_1
      try clear hfz41_0
      try clear hfz41_1
      try clear hfz44_0
      try clear hfz44_1
      try clear hfz49_0
      try clear hfz49_1
      try clear hfz52_0
      try clear hfz52_1
      try clear hfz6_0
      try clear hfz6_1
      try clear hfz6_2
      obtain ⟨kq, x39_11, rfl, HA, HJ11, HO_565002, BK548, BK558, BK564, BK568, HB⟩ := hcut
      cases kq with
      | zero => exact absurd HA.out (by simp [laws_FnExactShareOf.j0])
      | succ kj11 =>
        have H := HA.out
        clear HA
        simp only [laws_FnExactShareOf.j0] at H
        by_cases c54 : x39_11 = true
        · subst c54
          have H1 : (some false) = some r := by rw [if_pos rfl] at H; exact H
          clear H
          have H := H1
          clear H1
          obtain rfl := Option.some.inj H
          exact absurd hr_ (by decide)
        · replace c54 := Bool.eq_false_iff.mpr c54
          subst c54
          have H1 : ((laws_toPlan.f kj11 a0_0 a0_1 l0_2).bind fun bt570 => ((laws_eqPlan.f kj11 t559 t560 t561 bt570.1 bt570.2.1 bt570.2.2).bind fun t575 => (if t575 = true then (some true) else (some false)))) = some r := by rw [if_neg (show ¬ (false = true) by decide)] at H; exact H
          clear H
          have H := H1
          clear H1
          replace H := Option.bind_eq_some_iff.mp H
          obtain ⟨⟨t570, t571, t572⟩, A550, H⟩ := H
          replace H : ((laws_eqPlan.f kj11 t559 t560 t561 t570 t571 t572).bind fun t575 => (if t575 = true then (some true) else (some false))) = some r := H
          have A55 := Aside0.mk A550
          clear A550
          replace H := Option.bind_eq_some_iff.mp H
          obtain ⟨t575, A560, H⟩ := H
          replace H : (if t575 = true then (some true) else (some false)) = some r := H
          have A56 := Aside0.mk A560
          clear A560
          by_cases c57 : t575 = true
          · subst c57
            have H1 : (some true) = some r := by rw [if_pos rfl] at H; exact H
            clear H
            have H := H1
            clear H1
            obtain rfl := Option.some.inj H
            try go_wp2
            have n0_ := Aside0.mk (Kd.R_drew HO_565002.out)
            have n1_ := Aside0.mk (blk_drew BK548.out)
            have n2_ := Aside0.mk (blk_drew BK558.out)
            have n3_ := Aside0.mk (blk_drew BK564.out)
            have n4_ := Aside0.mk (blk_drew BK568.out)
            have n5_ := Aside0.mk (below_drew1 HB.out)
            clear HO_565002
            clear BK548
            clear BK558
            clear BK564
            clear BK568
            clear HB
            have HO_565002 := n0_
            have BK548 := n1_
            have BK558 := n2_
            have BK564 := n3_
            have BK568 := n4_
            have HB := n5_
            clear n0_ n1_ n2_ n3_ n4_ n5_
            refine start_ (n := 5) (S := fun w' => w'.cell? ⟨gb564, 0, none⟩ = some (.int .i64 t559) ∧ w'.cell? ⟨gb564, 1, none⟩ = some (.int .i64 t560) ∧ w'.cell? ⟨gb564, 2, none⟩ = some (.slice Ao29 t561.length co29) ∧ w'.cell? ⟨gb548, 0, none⟩ = some (.int .i64 a0_0) ∧ w'.cell? ⟨gb548, 1, none⟩ = some (.int .i64 a0_1) ∧ w'.cell? ⟨gb548, 2, none⟩ = some (.slice A0_2 l0_2.length c0_2)) (ds := []) #[false, false, false, false, false] (by kernel_rfl) rfl rfl ⟨(blk_cell BK564.out 0).trans rfl, (blk_cell BK564.out 1).trans rfl, (blk_cell BK564.out 2).trans rfl, (blk_cell BK548.out 0).trans rfl, (blk_cell BK548.out 1).trans rfl, (blk_cell BK548.out 2).trans rfl⟩ (fun hHeld => ?_)
            generalize wc.drew = w58 at HO_565002 BK548 BK558 BK564 BK568 HB hHeld ⊢
            refine take_ (i := 0) (N := some 40) (v := ?_) (a' := ?_) #[true, false, false, false, false] rfl rfl (by kernel_rfl) (fun _ _ _ h => h) (Or.inl ⟨by rfl, ?_⟩) hHeld ?_ ?_
            rotate_left
            · rintro w' ⟨s0, s1, s2, s3, s4, s5⟩
              go_simp
              with_reducible rfl
            rotate_left
            · simp only [Act.put, List.setIfInBounds_toArray, List.set_cons_zero, List.set_cons_succ, i64_w, i32_w]
              rfl
            refine take_ (i := 1) (N := some 41) (v := ?_) (a' := ?_) #[true, true, false, false, false] rfl rfl (by kernel_rfl) (fun _ _ _ h => h) (Or.inl ⟨by rfl, ?_⟩) hHeld ?_ ?_
            rotate_left
            · rintro w' ⟨s0, s1, s2, s3, s4, s5⟩
              go_simp
              with_reducible rfl
            rotate_left
            · simp only [Act.put, List.setIfInBounds_toArray, List.set_cons_zero, List.set_cons_succ, i64_w, i32_w]
              rfl
            refine one_ (i := 2) (N := some 42) #[true, true, true, false, false] rfl rfl (by kernel_rfl) (by decide) (fun K hK => ?_)
            refine goes_ Try.func15 (by kernel_rfl) rfl #[.agg #[.int .i64 a0_0, .int .i64 a0_1, .slice A0_2 l0_2.length c0_2]] (by rfl) rfl rfl arr_ ?_
            with_reducible refine (laws_toPlan.calls kj11 a0_0 a0_1 _ _ l0_2 t570 t571 t572 _ ?side1 ?side2 A55.out).mono ?_
            (case side1 => exact kc_ (Kd.C_below HR0_2.out HB.out))
            (case side2 => exact HC0_2.out)
            rintro e w59 ⟨v573, rfl, ho0, hb⟩
            refine ⟨_, rfl, ?_⟩
            have n0_ := Aside0.mk (Kd.R_elder' (by (with_reducible repeat (first | apply Kd.R_alloc | apply Kd.R_drewN | apply Kd.R_drew)); exact HO_565002.out) (Kd.R_base ho0) hb)
            have n1_ := Aside0.mk (Kd.R_lower (Kd.R_new' ho0 (Kd.R_lt (by (with_reducible repeat (first | apply Kd.R_alloc | apply Kd.R_drewN | apply Kd.R_drew)); exact HO_565002.out))) (below_size (hb4_ HB.out GE548.out GE558.out GE564.out GE568.out)))
            have n2_ := Aside0.mk (bb_ BK548.out hb)
            have n3_ := Aside0.mk (bb_ BK558.out hb)
            have n4_ := Aside0.mk (bb_ BK564.out hb)
            have n5_ := Aside0.mk (bb_ BK568.out hb)
            have n6_ := Aside0.mk (below_step (hb4_ HB.out GE548.out GE558.out GE564.out GE568.out) hb)
            clear HO_565002
            clear BK548
            clear BK558
            clear BK564
            clear BK568
            clear HB
            have HO_565002 := n0_
            have HO574 := n1_
            have BK548 := n2_
            have BK558 := n3_
            have BK564 := n4_
            have BK568 := n5_
            have HB := n6_
            clear n0_ n1_ n2_ n3_ n4_ n5_ n6_
            (try clear hb)
            (try clear hb2)
            (try clear hk)
            (try clear hi)
            (try clear ho0)
            obtain ⟨Ao60, co60, eo60⟩ := Kd.R_slice HO574.out
            (first | subst eo60 | (injection eo60 with f1_ f2_ f3_; have f4_ := f1_.symm; have f5_ := f3_.symm; clear f1_ f2_ f3_; subst f4_; subst f5_))
            refine hK.out _ _ ⟨(blk_cell BK564.out 0).trans rfl, (blk_cell BK564.out 1).trans rfl, (blk_cell BK564.out 2).trans rfl, (blk_cell BK548.out 0).trans rfl, (blk_cell BK548.out 1).trans rfl, (blk_cell BK548.out 2).trans rfl⟩ (fun hHeld => ?_)
            clear hK K
            refine norm_ (a' := ?_) ?_ ?_
            rotate_left
            · show Act.put _ (some 42) _ = _
              simp only [Act.put, List.setIfInBounds_toArray, List.set_cons_zero, List.set_cons_succ, i64_w, i32_w]
              rfl
            refine one_ (i := 3) (N := some 43) #[true, true, true, true, false] rfl rfl (by kernel_rfl) (by decide) (fun K hK => ?_)
            refine goes_ Try.func17 (by kernel_rfl) rfl #[.agg #[.int .i64 t559, .int .i64 t560, .slice Ao29 t561.length co29], .agg #[.int .i64 t570, .int .i64 t571, .slice Ao60 t572.length co60]] (by rfl) rfl rfl arr_ ?_
            with_reducible refine (laws_eqPlan.calls kj11 t559 t560 _ _ t561 t570 t571 _ _ t572 true _ ?side1 ?side2 ?side3 ?side4 A56.out).mono ?_
            (case side1 => repeat (first | exact (Kd.R_reads' HO_565002.out).2.2 | (with_reducible refine Kd.C_alloc ?_ _) | (with_reducible refine Kd.C_drewN ?_ _) | (with_reducible refine Kd.C_drew ?_)))
            (case side2 => exact (Kd.R_reads' HO_565002.out).2.1)
            (case side3 => repeat (first | exact (Kd.R_reads' HO574.out).2.2 | (with_reducible refine Kd.C_alloc ?_ _) | (with_reducible refine Kd.C_drewN ?_ _) | (with_reducible refine Kd.C_drew ?_)))
            (case side4 => exact (Kd.R_reads' HO574.out).2.1)
            rintro e w61 ⟨rfl, hb⟩
            refine ⟨_, rfl, ?_⟩
            have n0_ := Aside0.mk (Kd.R_below (by (with_reducible repeat (first | apply Kd.R_alloc | apply Kd.R_drewN | apply Kd.R_drew)); exact HO_565002.out) hb)
            have n1_ := Aside0.mk (Kd.R_below (by (with_reducible repeat (first | apply Kd.R_alloc | apply Kd.R_drewN | apply Kd.R_drew)); exact HO574.out) hb)
            have n2_ := Aside0.mk (bb_ BK548.out hb)
            have n3_ := Aside0.mk (bb_ BK558.out hb)
            have n4_ := Aside0.mk (bb_ BK564.out hb)
            have n5_ := Aside0.mk (bb_ BK568.out hb)
            have n6_ := Aside0.mk (below_step (hb4_ HB.out GE548.out GE558.out GE564.out GE568.out) hb)
            clear HO_565002
            clear HO574
            clear BK548
            clear BK558
            clear BK564
            clear BK568
            clear HB
            have HO_565002 := n0_
            have HO574 := n1_
            have BK548 := n2_
            have BK558 := n3_
            have BK564 := n4_
            have BK568 := n5_
            have HB := n6_
            clear n0_ n1_ n2_ n3_ n4_ n5_ n6_
            (try clear hb)
            (try clear hb2)
            (try clear hk)
            (try clear hi)
            refine hK.out _ _ ⟨(blk_cell BK564.out 0).trans rfl, (blk_cell BK564.out 1).trans rfl, (blk_cell BK564.out 2).trans rfl, (blk_cell BK548.out 0).trans rfl, (blk_cell BK548.out 1).trans rfl, (blk_cell BK548.out 2).trans rfl⟩ (fun hHeld => ?_)
            clear hK K
            refine norm_ (a' := ?_) ?_ ?_
            rotate_left
            · show Act.put _ (some 43) _ = _
              simp only [Act.put, List.setIfInBounds_toArray, List.set_cons_zero, List.set_cons_succ, i64_w, i32_w]
              rfl
            refine pure_ (i := 4) (N := some 44) (v := ?_) (a' := ?_) #[true, true, true, true, true] rfl rfl (by kernel_rfl) (fun _ _ _ h => h) (Or.inl ⟨by rfl, ?_⟩) ?_ ?_
            rotate_left
            · intro w'
              go_simp
              with_reducible rfl
            rotate_left
            · simp only [Act.put, List.setIfInBounds_toArray, List.set_cons_zero, List.set_cons_succ, i64_w, i32_w]
              rfl
            refine done_ (by kernel_rfl) ?_
            try go_wp2
            go_ret
            exact ⟨er_, hb4_ HB.out GE548.out GE558.out GE564.out GE568.out⟩
          · replace c57 := Bool.eq_false_iff.mpr c57
            subst c57
            have H1 : (some false) = some r := by rw [if_neg (show ¬ (false = true) by decide)] at H; exact H
            clear H
            have H := H1
            clear H1
            obtain rfl := Option.some.inj H
            exact absurd hr_ (by decide)
end Go.Proofs.Ytakcaiigkdglhaa.P
namespace Go.Proofs.Ytakcaiigkdglhaa.C
open Go.RowKit Go.Proofs.Ytakcaiigkdglhaa.P Go.Proofs.Ytakcaiigkdglhaa.G Go.Proofs.YtakcaiigkdglhaaW.PrintWords
theorem gcdL {L : Nat → Int → Int → Option Int} (h0 : ∀ k (a : Nat), L (k + 1) (a : Int) 0 = some (a : Int)) (h1 : ∀ k (a b : Nat), b ≠ 0 → L (k + 1) (a : Int) (b : Int) = L k (b : Int) ((a % b : Nat) : Int)) :
    ∀ k (b a : Nat), b < k → L k (a : Int) (b : Int) = some ((Nat.gcd a b : Nat) : Int) := by
  intro k
  induction k with
  | zero => intro b a h; omega
  | succ k ih =>
    intro b a h
    by_cases hb : b = 0
    · subst hb; rw [Nat.gcd_zero_right]; exact h0 k a
    · rw [h1 k a b hb, ih (a % b) b (by have := Nat.mod_lt a (Nat.pos_of_ne_zero hb); omega), Nat.gcd_comm b, ← Nat.gcd_rec, Nat.gcd_comm]
theorem sGcd (k a b : Nat) (hb : b < k) : spec_l11Gcd.f k (a : Int) (b : Int) = some ((Nat.gcd a b : Nat) : Int) := by
  unfold spec_l11Gcd.f
  refine gcdL (fun k a => ?_) (fun k a b hb => ?_) k b a hb
  · simp only [spec_l11Gcd.l0]; rw [if_pos (by trivial), if_neg (by omega)]
  · simp only [spec_l11Gcd.l0]; rw [if_neg (by omega), Int.tmod_eq_emod_of_nonneg (by omega)]; rfl
theorem iGcd (k a b : Nat) (hb : b < k) : impl_gcd.f k (a : Int) (b : Int) = some ((Nat.gcd a b : Nat) : Int) := by
  unfold impl_gcd.f
  refine gcdL (fun k a => ?_) (fun k a b hb => ?_) k b a hb
  · simp only [impl_gcd.l0]; rw [if_pos (by trivial)]
  · simp only [impl_gcd.l0]; rw [if_neg (by omega), Int.tmod_eq_emod_of_nonneg (by omega)]; rfl
def frac (a b : Nat) : Int × Int × Bool := (((a / Nat.gcd a b : Nat) : Int), ((b / Nat.gcd a b : Nat) : Int), true)
theorem tdiv_nat (a b : Nat) (h : a ≤ 4000000000000) : wrap64 (Int.tdiv (a : Int) (b : Int)) = ((a / b : Nat) : Int) := by
  rw [Int.tdiv_eq_ediv_of_nonneg (by omega), ← Int.natCast_ediv]
  have := Nat.div_le_self a b
  generalize a / b = q at this ⊢
  exact wrap_id (by omega) (by omega)
theorem sFracOf (a b : Nat) (ha : a ≤ 4000000000000) (hb : 1 ≤ b ∧ b ≤ 4000000000000) (k : Nat) (hk : b + 1 < k) : spec_FracOf.f k (a : Int) (b : Int) = some (frac a b) := by
  obtain ⟨k, rfl⟩ : ∃ j, k = j + 1 := ⟨k - 1, by omega⟩
  have hg : Nat.gcd a b ≠ 0 := by have := Nat.gcd_pos_of_pos_right a hb.1; omega
  unfold spec_FracOf.f
  rw [if_neg (by omega)]
  simp only [spec_l11Size.f, l1In, Option.bind_some]
  rw [decide_eq_true (by omega), if_pos (by trivial), decide_eq_true (by omega)]
  simp only [spec_FracOf.j0]
  rw [Bool.not_true, if_neg (by decide), sGcd k a b (by omega)]
  simp only [Option.bind_some]
  rw [if_neg (by omega), if_neg (by omega), tdiv_nat _ _ ha, tdiv_nat _ _ hb.2]; rfl
theorem iFracOf (a b : Nat) (ha : a ≤ 4000000000000) (hb : 1 ≤ b ∧ b ≤ 4000000000000) (k : Nat) (hk : b + 1 < k) : impl_FracOf.f k (a : Int) (b : Int) = some (frac a b) := by
  obtain ⟨k, rfl⟩ : ∃ j, k = j + 1 := ⟨k - 1, by omega⟩
  have hg : Nat.gcd a b ≠ 0 := by have := Nat.gcd_pos_of_pos_right a hb.1; omega
  unfold impl_FracOf.f
  rw [if_neg (by omega)]
  simp only [in_, Option.bind_some]
  rw [decide_eq_true (by omega), if_pos (by trivial), decide_eq_true (by omega)]
  simp only [impl_FracOf.j0]
  rw [Bool.not_true, if_neg (by decide), if_neg (by omega)]
  have hs : impl_size.f (a : Int) = some (a : Int) := by
    unfold impl_size.f mx; rw [wrap_id (by omega) (by omega)]; congr 1; split <;> omega
  rw [hs]
  simp only [Option.bind_some]
  rw [iGcd k a b (by omega)]
  simp only [Option.bind_some]
  rw [if_neg (by omega), tdiv_nat _ _ ha, tdiv_nat _ _ hb.2]; rfl
def ownSum (own : Int) (l : List Sl) : Nat → Int
  | 0 => 0
  | i + 1 => match l[i]? with
    | some x => if x.f0 = own then ownSum own l i + x.f1 else ownSum own l i
    | none => ownSum own l i
theorem ownSum_succ (own : Int) (l : List Sl) (i : Nat) (h : i < l.length) : ownSum own l (i + 1) = if l[i].f0 = own then ownSum own l i + l[i].f1 else ownSum own l i := by
  rw [ownSum, List.getElem?_eq_getElem h]
theorem ownSum_bd {own : Int} {l : List Sl} (h : slotsOk l = true) : ∀ n, n ≤ l.length → 0 ≤ ownSum own l n ∧ ownSum own l n ≤ 1000000 * n := by
  intro n
  induction n with
  | zero => intro _; unfold ownSum; omega
  | succ n ih =>
    intro hn
    have h1 := ih (by omega)
    have h2 := slotsOk_get h n (by omega)
    rw [ownSum_succ own l n (by omega)]
    split <;> omega
def shareOf (st gap : Int) (l : List Sl) (own : Int) : Int × Int × Bool := if planOk st gap l = true then frac (ownSum own l l.length).toNat (round gap l).toNat else (0, 0, false)
theorem sShareOf (st gap : Int) (l : List Sl) (hl : l.length ≤ 1048576) (own : Int) (k : Nat) (hk : 13300000 ≤ k) : spec_ShareOf.f k st gap l own = some (shareOf st gap l own) := by
  unfold spec_ShareOf.f shareOf
  rw [sPlanOk st gap l hl k (by omega)]
  simp only [Option.bind_some]
  cases h : planOk st gap l with
  | false => rfl
  | true =>
    have h' := h
    rw [planOk_iff] at h'
    rw [if_pos (by trivial), if_pos (by trivial)]
    refine track_loop0 (n := l.length) (c := 13200010) (L := fun k s i => spec_ShareOf.l0 k own s i st gap l) (F := fun i => ownSum own l i) (fun k i hi _ => ?_) (fun k hk => ?_) k (by omega)
    · simp only [spec_ShareOf.l0]
      have hb := ownSum_bd (own := own) h'.2.2.2 i (by omega)
      have h2 := slotsOk_get h'.2.2.2 i hi
      rw [if_pos (by omega), if_pos (by omega), wrap_succ hi (by omega), rdSl l i hi, ownSum_succ own l i hi]
      split
      · rw [wrap_id (by omega) (by omega)]
      · rfl
    · simp only [spec_ShareOf.l0]
      have hb := ownSum_bd (own := own) h'.2.2.2 l.length (Nat.le_refl _)
      have hr := round_bd h
      rw [if_neg (by omega), sRoundOf' h _ (by omega)]
      simp only [Option.bind_some]
      have e1 : ownSum own l l.length = ((ownSum own l l.length).toNat : Int) := by omega
      have e2 : round gap l = ((round gap l).toNat : Int) := by omega
      rw [e1, e2, sFracOf _ _ (by omega) (by omega) _ (by omega)]
      simp only [Int.toNat_natCast, Option.bind_some]
theorem iShareOf (st gap : Int) (l : List Sl) (hl : l.length ≤ 1048576) (own : Int) (k : Nat) (hk : 13300000 ≤ k) : impl_ShareOf.f k st gap l own = some (shareOf st gap l own) := by
  unfold impl_ShareOf.f shareOf
  rw [iPlanOk st gap l hl k (by omega)]
  simp only [Option.bind_some]
  cases h : planOk st gap l with
  | false => rfl
  | true =>
    have h' := h
    rw [planOk_iff] at h'
    rw [if_pos (by trivial), if_pos (by trivial)]
    refine track_loop0 (n := l.length) (c := 13200010) (L := fun k s i => impl_ShareOf.l0 k own s l (l.length : Int) i st gap l) (F := fun i => ownSum own l i) (fun k i hi _ => ?_) (fun k hk => ?_) k (by omega)
    · simp only [impl_ShareOf.l0]
      have hb := ownSum_bd (own := own) h'.2.2.2 i (by omega)
      have h2 := slotsOk_get h'.2.2.2 i hi
      rw [if_pos (by omega), if_pos (by omega), if_pos (by omega), wrap_succ hi (by omega), rdSl l i hi, ownSum_succ own l i hi]
      split
      · rw [wrap_id (by omega) (by omega)]
      · rfl
    · simp only [impl_ShareOf.l0]
      have hb := ownSum_bd (own := own) h'.2.2.2 l.length (Nat.le_refl _)
      have hr := round_bd h
      rw [if_neg (by omega), iRound h _ (by omega)]
      simp only [Option.bind_some]
      have e1 : ownSum own l l.length = ((ownSum own l l.length).toNat : Int) := by omega
      have e2 : round gap l = ((round gap l).toNat : Int) := by omega
      rw [e1, e2, iFracOf _ _ (by omega) (by omega) _ (by omega)]
      simp only [Int.toNat_natCast, Option.bind_some]
end Go.Proofs.Ytakcaiigkdglhaa.C
namespace Go.Proofs.Ytakcaiigkdglhaa.V
open Go.RowKit Go.Proofs.Ytakcaiigkdglhaa.P Go.Proofs.Ytakcaiigkdglhaa.C Go.Proofs.Ytakcaiigkdglhaa.G
theorem FnExactShareOf : ∀ (a0_0 : Int) (a0_1 : Int) (l0_2 : List (SlL)) (a1 : Int), (Lit.int .i64 a0_0).wf = true → (Lit.int .i64 a0_1).wf = true → (l0_2.length ≤ 9223372036854775807 ∧ ∀ y ∈ l0_2, ((Lit.int .i64 y.f0).wf = true ∧ (Lit.int .i64 y.f1).wf = true)) → (Lit.int .i64 a1).wf = true → ∃ k, laws_FnExactShareOf.f k a0_0 a0_1 l0_2 a1 = some true := by
  intro a b l a1 wa wb hl0 w1
  obtain ⟨hl, _⟩ := hl0
  refine ⟨14000000, ?_⟩
  unfold laws_FnExactShareOf.f
  rcases szPlan a b l hl 1048576 (by omega) with h | ⟨h, hs⟩
  · rw [h]; simp
  rw [h]
  simp only [Option.bind_some]
  rw [if_neg (by omega)]
  have hm : (l.map toSl).length = l.length := by simp
  rw [toPlan a b l (by omega) _ (by omega)]
  simp only [Option.bind_some]
  unfold laws_eqFrac.f
  have hj : ∀ k, 1999000 ≤ k → laws_FnExactShareOf.j0 k false a b l a b (l.map toSl) = some true := by
    intro k hk
    obtain ⟨k, rfl⟩ : ∃ j, k = j + 1 := ⟨k - 1, by omega⟩
    simp only [laws_FnExactShareOf.j0]
    rw [if_neg (by decide), toPlan a b l (by omega) _ (by omega)]
    simp only [Option.bind_some]
    rw [eqPlan _ _ _ (by omega) _ (by omega)]
    rfl
  rw [sShareOf _ _ _ (by omega) _ _ (by omega), iShareOf _ _ _ (by omega) _ _ (by omega)]
  simp only [Option.bind_some, if_true, bne_self_eq_false]
  exact hj _ (by omega)
end Go.Proofs.Ytakcaiigkdglhaa.V
