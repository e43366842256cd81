/- Texts of the seat's proofs, part 2: functions of the program told as plain functions, with their contracts, and what is shown of them. No condition. -/
import Derived.Test.YtejohmompmjhnaaUKFEGW
import Derived.Test.YtejohmompmjhnaaKFEGW1
set_option linter.unusedVariables false
set_option linter.unusedSimpArgs false
namespace Go.Proofs.Ytejohmompmjhnaa.P
open Go.RowKit Go.Proofs.YtejohmompmjhnaaW.PrintWords Go.Proofs.YtejohmompmjhnaaW.PrintLast Go.Proofs.YtejohmompmjhnaaW.PrintMore
attribute [local go_sem] max2_int min2_int max_two min_two max_three min_three max_four min_four
set_option linter.unusedVariables false
set_option linter.unusedSimpArgs false
def spec_GateSpan.f (k : Nat) (a0_0 : Int) (a0_1 : Int) (a1_0 : Int) (a1_1 : Int) (a2 : Int) : Option (Int × Int × Bool) := (spec_MostTime.f k a1_0 a1_1 a2).bind fun bt130 => (if bt130.2 = true then (if a2 < 1 then (some (0, 0, false)) else ((spec_Spread.f a0_0 a0_1 0 bt130.1).bind fun bt132 => (some (bt132.1, bt132.2.1, bt132.2.2)))) else (some (0, 0, false)))
theorem spec_GateSpan.mono : ∀ a0 a1 a2 a3 a4 k, LeO (spec_GateSpan.f k a0 a1 a2 a3 a4) (spec_GateSpan.f (k + 1) a0 a1 a2 a3 a4) := by
  intro a0 a1 a2 a3 a4 k
  unfold spec_GateSpan.f
  repeat' first
      | (with_reducible exact spec_MostTime.mono _ _ _ _)
      | (with_reducible exact LeO.refl _)
      | (with_reducible exact LeO.none _)
      | (with_reducible refine LeO.ite ?_ ?_)
      | (with_reducible refine LeO.bind ?_ (fun _ => ?_))
      | exact spec_MostTime.mono _ _ _ _
      | exact LeO.none _
      | refine LeO.ite ?_ ?_
      | refine LeO.bind ?_ (fun _ => ?_)
set_option maxHeartbeats 8000000 in
set_option maxRecDepth 100000 in
theorem spec_GateSpan.calls (k : Nat) (a0_0 : Int) (a0_1 : Int) (a1_0 : Int) (a1_1 : Int) (a2 : Int) (r1 : Int) (r2 : Int) (r3 : Bool) (w : World) (h : spec_GateSpan.f k a0_0 a0_1 a1_0 a1_1 a2 = some (r1, r2, r3)) :
    Calls Try.prog 25 #[.agg #[.int .i64 a0_0, .int .i64 a0_1], .agg #[.int .i64 a1_0, .int .i64 a1_1], .int .i64 a2] w fun e w' => e = .returned (.tuple #[.agg #[.int .i64 r1, .int .i64 r2], .bool r3]) ∧ Below w.heap.size w w' := by
  have hu32 := Try.underlying32
  have hu34 := Try.underlying34
  have HB := am_ (Below.refl w.heap.size w)
  have H : ((spec_MostTime.f k a1_0 a1_1 a2).bind fun bt130 => (if bt130.2 = true then (if a2 < 1 then (some (0, 0, false)) else ((spec_Spread.f a0_0 a0_1 0 bt130.1).bind fun bt132 => (some (bt132.1, bt132.2.1, bt132.2.2)))) else (some (0, 0, false)))) = some (r1, r2, r3) := h
  clear h
  replace H := Option.bind_eq_some_iff.mp H
  obtain ⟨⟨t130, t131⟩, A40, H⟩ := H
  replace H : (if t131 = true then (if a2 < 1 then (some (0, 0, false)) else ((spec_Spread.f a0_0 a0_1 0 t130).bind fun bt132 => (some (bt132.1, bt132.2.1, bt132.2.2)))) else (some (0, 0, false))) = some (r1, r2, r3) := H
  have A4 := Aside0.mk A40
  clear A40
  by_cases c5 : t131 = true
  · subst c5
    have H1 : (if a2 < 1 then (some (0, 0, false)) else ((spec_Spread.f a0_0 a0_1 0 t130).bind fun bt132 => (some (bt132.1, bt132.2.1, bt132.2.2)))) = some (r1, r2, r3) := by rw [if_pos rfl] at H; exact H
    clear H
    have H := H1
    clear H1
    by_cases c6 : a2 < 1
    · rw [if_pos c6] at H
      have c6b0 : decide (a2 < 1) = true := decide_eq_true c6
      clear c6
      simp only [Option.some.injEq, Prod.mk.injEq] at H
      obtain ⟨rfl, rfl, rfl⟩ := H
      go_enter Try.func25, Try.ntmps25
      go_wp2_with (first | ((with_reducible refine gate_dst (N := 3) rfl ?_); refine box_event ?hg (N := 3) ?hd (cs := #[.int .i64 a0_0, .int .i64 a0_1]) (t := 32) ?hr ?_; (case hd => rfl); (case hg => rfl); (case hr => first|(go_simp;done)|(go_simp;rfl)); intro gb127 hg w7 hbox hb; have n0_ := am_ (below_step (hb_ HB.out) hb); have n1_ := am_ (hbox); have n2_ := am_ (hy_ hg (hb_ HB.out) : w.heap.size ≤ gb127); have n3_ := am_ (hy_ hg (hb_ HB.out) : w.heap.size ≤ gb127); clear HB; have HB := n0_; have BK127 := n1_; have GW127 := n2_; have GE127 := n3_; clear n0_ n1_ n2_ n3_; clear hb hbox hg) | ((with_reducible refine gate_dst (N := 4) rfl ?_); refine box_event ?hg (N := 4) ?hd (cs := #[.int .i64 a1_0, .int .i64 a1_1]) (t := 34) ?hr ?_; (case hd => rfl); (case hg => rfl); (case hr => first|(go_simp;done)|(go_simp;rfl)); intro gb128 hg w8 hbox hb; have n0_ := am_ (bb_ BK127.out hb); have n1_ := am_ (below_step (hb1_ HB.out GE127.out) hb); have n2_ := am_ (hbox); have n3_ := am_ (hy_ hg (hb1_ HB.out GE127.out) : w.heap.size ≤ gb128); have n4_ := am_ (hy_ hg (hb1_ HB.out GE127.out) : w.heap.size ≤ gb128); have n5_ := am_ ((bl_ hg BK127.out : gb127 ≠ gb128)); have n6_ := am_ ((bg_ hg BK127.out : gb128 ≠ gb127)); clear BK127; clear HB; have BK127 := n0_; have HB := n1_; have BK128 := n2_; have GW128 := n3_; have GE128 := n4_; have NB127_128 := n5_; have NB128_127 := n6_; clear n0_ n1_ n2_ n3_ n4_ n5_ n6_; clear hb hbox hg) | ((with_reducible refine gate_dst (N := 6) rfl ?_); refine box_event ?hg (N := 6) ?hd (cs := #[.int .i64 0, .int .i64 0]) (t := 32) ?hr ?_; (case hd => rfl); (case hg => rfl); (case hr => first|(go_simp;done)|(go_simp;rfl)); intro gb129 hg w9 hbox hb; have n0_ := am_ (bb_ BK127.out hb); have n1_ := am_ (bb_ BK128.out hb); have n2_ := am_ (below_step (hb2_ HB.out GE127.out GE128.out) hb); have n3_ := am_ (hbox); have n4_ := am_ (hy_ hg (hb2_ HB.out GE127.out GE128.out) : w.heap.size ≤ gb129); have n5_ := am_ (hy_ hg (hb2_ HB.out GE127.out GE128.out) : w.heap.size ≤ gb129); have n6_ := am_ ((bl_ hg BK127.out : gb127 ≠ gb129)); have n7_ := am_ ((bg_ hg BK127.out : gb129 ≠ gb127)); have n8_ := am_ ((bl_ hg BK128.out : gb128 ≠ gb129)); have n9_ := am_ ((bg_ hg BK128.out : gb129 ≠ gb128)); clear BK127; clear BK128; clear HB; have BK127 := n0_; have BK128 := n1_; have HB := n2_; have BK129 := n3_; have GW129 := n4_; have GE129 := n5_; have NB127_129 := n6_; have NB129_127 := n7_; have NB128_129 := n8_; have NB129_128 := n9_; clear n0_ n1_ n2_ n3_ n4_ n5_ n6_ n7_ n8_ n9_; clear hb hbox hg; have hnb10 := NB128_127.out; have hnc10 := NB127_128.out; have hnb11 := NB128_129.out; have hnc11 := NB129_128.out; have hcz12_0 := bc_ BK128.out 0 (.int .i64 a1_0) rfl; have hcz12_1 := bc_ BK128.out 1 (.int .i64 a1_1) rfl; have hfz12_0 := blk_frozen BK128.out 0; have hfz12_1 := blk_frozen BK128.out 1) | ((with_reducible refine gate_callee (f := 21) rfl ?_); refine goesL_ (some 13) rfl rfl Try.func21 (by kernel_rfl) rfl #[.agg #[.int .i64 a1_0, .int .i64 a1_1], .int .i64 a2] rfl arr_ ?_; (with_reducible refine (spec_MostTime.calls k a1_0 a1_1 a2 t130 true _ A4.out).mono ?_); rintro e w13 ⟨rfl, hb⟩; refine ⟨_, rfl, ?_⟩; have n0_ := am_ (bb_ BK127.out hb); have n1_ := am_ (bb_ BK128.out hb); have n2_ := am_ (bb_ BK129.out hb); have n3_ := am_ (below_step (hb3_ HB.out GE127.out GE128.out GE129.out) hb); clear BK127; clear BK128; clear BK129; clear HB; have BK127 := n0_; have BK128 := n1_; have BK129 := n2_; have HB := n3_; clear n0_ n1_ n2_ n3_; (try clear hb); (try clear hb2); (try clear hk); (try clear hi); have hnb14 := NB129_127.out; have hnc14 := NB127_129.out; have hcz15_0 := bc_ BK129.out 0 (.int .i64 0) rfl; have hcz15_1 := bc_ BK129.out 1 (.int .i64 0) rfl; have hfz15_0 := blk_frozen BK129.out 0; have hfz15_1 := blk_frozen BK129.out 1))
      refine bodyPost_ret (results_ct rfl _ _ gb129 32 #[.int .i64 0, .int .i64 0] (0, 0) _ rfl (by (with_reducible repeat (first | refine blk_drewN ?_ _ | refine blk_drew ?_ | refine blk_alloc ?_ _)); refine blk_put (cs := #[.int .i64 0, .int .i64 0]) ?_ 1 _ rfl; (with_reducible repeat (first | refine blk_drewN ?_ _ | refine blk_drew ?_ | refine blk_alloc ?_ _)); refine blk_put (cs := #[.int .i64 0, .int .i64 0]) ?_ 0 _ rfl; (with_reducible repeat (first | refine blk_drewN ?_ _ | refine blk_drew ?_ | refine blk_alloc ?_ _)); exact BK129.out) Try.underlying32 rfl (by kernel_rfl)) rfl ?_
      exact ⟨er_, hb3_ HB.out GE127.out GE128.out GE129.out⟩
    · rw [if_neg c6] at H
      have c6b0 : decide (a2 < 1) = false := decide_eq_false c6
      clear c6
      replace H := Option.bind_eq_some_iff.mp H
      obtain ⟨⟨t132, t133, t134⟩, A160, H⟩ := H
      replace H : (some (t132, t133, t134)) = some (r1, r2, r3) := H
      have A16 := Aside0.mk A160
      clear A160
      simp only [Option.some.injEq, Prod.mk.injEq] at H
      obtain ⟨rfl, rfl, rfl⟩ := H
      go_enter Try.func25, Try.ntmps25
      go_wp2_with (first | ((with_reducible refine gate_dst (N := 3) rfl ?_); refine box_event ?hg (N := 3) ?hd (cs := #[.int .i64 a0_0, .int .i64 a0_1]) (t := 32) ?hr ?_; (case hd => rfl); (case hg => rfl); (case hr => first|(go_simp;done)|(go_simp;rfl)); intro gb127 hg w17 hbox hb; have n0_ := am_ (below_step (hb_ HB.out) hb); have n1_ := am_ (hbox); have n2_ := am_ (hy_ hg (hb_ HB.out) : w.heap.size ≤ gb127); have n3_ := am_ (hy_ hg (hb_ HB.out) : w.heap.size ≤ gb127); clear HB; have HB := n0_; have BK127 := n1_; have GW127 := n2_; have GE127 := n3_; clear n0_ n1_ n2_ n3_; clear hb hbox hg) | ((with_reducible refine gate_dst (N := 4) rfl ?_); refine box_event ?hg (N := 4) ?hd (cs := #[.int .i64 a1_0, .int .i64 a1_1]) (t := 34) ?hr ?_; (case hd => rfl); (case hg => rfl); (case hr => first|(go_simp;done)|(go_simp;rfl)); intro gb128 hg w18 hbox hb; have n0_ := am_ (bb_ BK127.out hb); have n1_ := am_ (below_step (hb1_ HB.out GE127.out) hb); have n2_ := am_ (hbox); have n3_ := am_ (hy_ hg (hb1_ HB.out GE127.out) : w.heap.size ≤ gb128); have n4_ := am_ (hy_ hg (hb1_ HB.out GE127.out) : w.heap.size ≤ gb128); have n5_ := am_ ((bl_ hg BK127.out : gb127 ≠ gb128)); have n6_ := am_ ((bg_ hg BK127.out : gb128 ≠ gb127)); clear BK127; clear HB; have BK127 := n0_; have HB := n1_; have BK128 := n2_; have GW128 := n3_; have GE128 := n4_; have NB127_128 := n5_; have NB128_127 := n6_; clear n0_ n1_ n2_ n3_ n4_ n5_ n6_; clear hb hbox hg) | ((with_reducible refine gate_dst (N := 6) rfl ?_); refine box_event ?hg (N := 6) ?hd (cs := #[.int .i64 0, .int .i64 0]) (t := 32) ?hr ?_; (case hd => rfl); (case hg => rfl); (case hr => first|(go_simp;done)|(go_simp;rfl)); intro gb129 hg w19 hbox hb; have n0_ := am_ (bb_ BK127.out hb); have n1_ := am_ (bb_ BK128.out hb); have n2_ := am_ (below_step (hb2_ HB.out GE127.out GE128.out) hb); have n3_ := am_ (hbox); have n4_ := am_ (hy_ hg (hb2_ HB.out GE127.out GE128.out) : w.heap.size ≤ gb129); have n5_ := am_ (hy_ hg (hb2_ HB.out GE127.out GE128.out) : w.heap.size ≤ gb129); have n6_ := am_ ((bl_ hg BK127.out : gb127 ≠ gb129)); have n7_ := am_ ((bg_ hg BK127.out : gb129 ≠ gb127)); have n8_ := am_ ((bl_ hg BK128.out : gb128 ≠ gb129)); have n9_ := am_ ((bg_ hg BK128.out : gb129 ≠ gb128)); clear BK127; clear BK128; clear HB; have BK127 := n0_; have BK128 := n1_; have HB := n2_; have BK129 := n3_; have GW129 := n4_; have GE129 := n5_; have NB127_129 := n6_; have NB129_127 := n7_; have NB128_129 := n8_; have NB129_128 := n9_; clear n0_ n1_ n2_ n3_ n4_ n5_ n6_ n7_ n8_ n9_; clear hb hbox hg; have hnb20 := NB128_127.out; have hnc20 := NB127_128.out; have hnb21 := NB128_129.out; have hnc21 := NB129_128.out; have hcz22_0 := bc_ BK128.out 0 (.int .i64 a1_0) rfl; have hcz22_1 := bc_ BK128.out 1 (.int .i64 a1_1) rfl; have hfz22_0 := blk_frozen BK128.out 0; have hfz22_1 := blk_frozen BK128.out 1) | ((with_reducible refine gate_callee (f := 21) rfl ?_); refine goesL_ (some 13) rfl rfl Try.func21 (by kernel_rfl) rfl #[.agg #[.int .i64 a1_0, .int .i64 a1_1], .int .i64 a2] rfl arr_ ?_; (with_reducible refine (spec_MostTime.calls k a1_0 a1_1 a2 t130 true _ A4.out).mono ?_); rintro e w23 ⟨rfl, hb⟩; refine ⟨_, rfl, ?_⟩; have n0_ := am_ (bb_ BK127.out hb); have n1_ := am_ (bb_ BK128.out hb); have n2_ := am_ (bb_ BK129.out hb); have n3_ := am_ (below_step (hb3_ HB.out GE127.out GE128.out GE129.out) hb); clear BK127; clear BK128; clear BK129; clear HB; have BK127 := n0_; have BK128 := n1_; have BK129 := n2_; have HB := n3_; clear n0_ n1_ n2_ n3_; (try clear hb); (try clear hb2); (try clear hk); (try clear hi); have hnb24 := NB127_129.out; have hnc24 := NB129_127.out; have hcz25_0 := bc_ BK127.out 0 (.int .i64 a0_0) rfl; have hcz25_1 := bc_ BK127.out 1 (.int .i64 a0_1) rfl; have hfz25_0 := blk_frozen BK127.out 0; have hfz25_1 := blk_frozen BK127.out 1) | ((with_reducible refine gate_callee (f := 71) rfl ?_); refine goesL_ (some 25) rfl rfl Try.func71 (by kernel_rfl) rfl #[.agg #[.int .i64 a0_0, .int .i64 a0_1], .int .i64 0, .int .i64 t130] rfl arr_ ?_; (with_reducible refine (spec_Spread.calls a0_0 a0_1 0 t130 t132 t133 t134 _ A16.out).mono ?_); rintro e w26 ⟨rfl, hb⟩; refine ⟨_, rfl, ?_⟩; have n0_ := am_ (bb_ BK127.out hb); have n1_ := am_ (bb_ BK128.out hb); have n2_ := am_ (bb_ BK129.out hb); have n3_ := am_ (below_step (hb3_ HB.out GE127.out GE128.out GE129.out) hb); clear BK127; clear BK128; clear BK129; clear HB; have BK127 := n0_; have BK128 := n1_; have BK129 := n2_; have HB := n3_; clear n0_ n1_ n2_ n3_; (try clear hb); (try clear hb2); (try clear hk); (try clear hi); have hcz27_0 := bc_ BK129.out 0 (.int .i64 0) rfl; have hcz27_1 := bc_ BK129.out 1 (.int .i64 0) rfl; have hfz27_0 := blk_frozen BK129.out 0; have hfz27_1 := blk_frozen BK129.out 1))
      refine bodyPost_ret (results_ct rfl _ _ gb129 32 #[.int .i64 t132, .int .i64 t133] (0, 0) _ rfl (by (with_reducible repeat (first | refine blk_drewN ?_ _ | refine blk_drew ?_ | refine blk_alloc ?_ _)); refine blk_put (cs := #[.int .i64 t132, .int .i64 0]) ?_ 1 _ rfl; (with_reducible repeat (first | refine blk_drewN ?_ _ | refine blk_drew ?_ | refine blk_alloc ?_ _)); refine blk_put (cs := #[.int .i64 0, .int .i64 0]) ?_ 0 _ rfl; (with_reducible repeat (first | refine blk_drewN ?_ _ | refine blk_drew ?_ | refine blk_alloc ?_ _)); exact BK129.out) Try.underlying32 rfl (by kernel_rfl)) rfl ?_
      exact ⟨er_, hb3_ HB.out GE127.out GE128.out GE129.out⟩
  · replace c5 := Bool.eq_false_iff.mpr c5
    subst c5
    have H1 : (some (0, 0, false)) = some (r1, r2, r3) := by rw [if_neg (show ¬ (false = true) by decide)] at H; exact H
    clear H
    have H := H1
    clear H1
    simp only [Option.some.injEq, Prod.mk.injEq] at H
    obtain ⟨rfl, rfl, rfl⟩ := H
    go_enter Try.func25, Try.ntmps25
    go_wp2_with (first | ((with_reducible refine gate_dst (N := 3) rfl ?_); refine box_event ?hg (N := 3) ?hd (cs := #[.int .i64 a0_0, .int .i64 a0_1]) (t := 32) ?hr ?_; (case hd => rfl); (case hg => rfl); (case hr => first|(go_simp;done)|(go_simp;rfl)); intro gb127 hg w28 hbox hb; have n0_ := am_ (below_step (hb_ HB.out) hb); have n1_ := am_ (hbox); have n2_ := am_ (hy_ hg (hb_ HB.out) : w.heap.size ≤ gb127); have n3_ := am_ (hy_ hg (hb_ HB.out) : w.heap.size ≤ gb127); clear HB; have HB := n0_; have BK127 := n1_; have GW127 := n2_; have GE127 := n3_; clear n0_ n1_ n2_ n3_; clear hb hbox hg) | ((with_reducible refine gate_dst (N := 4) rfl ?_); refine box_event ?hg (N := 4) ?hd (cs := #[.int .i64 a1_0, .int .i64 a1_1]) (t := 34) ?hr ?_; (case hd => rfl); (case hg => rfl); (case hr => first|(go_simp;done)|(go_simp;rfl)); intro gb128 hg w29 hbox hb; have n0_ := am_ (bb_ BK127.out hb); have n1_ := am_ (below_step (hb1_ HB.out GE127.out) hb); have n2_ := am_ (hbox); have n3_ := am_ (hy_ hg (hb1_ HB.out GE127.out) : w.heap.size ≤ gb128); have n4_ := am_ (hy_ hg (hb1_ HB.out GE127.out) : w.heap.size ≤ gb128); have n5_ := am_ ((bl_ hg BK127.out : gb127 ≠ gb128)); have n6_ := am_ ((bg_ hg BK127.out : gb128 ≠ gb127)); clear BK127; clear HB; have BK127 := n0_; have HB := n1_; have BK128 := n2_; have GW128 := n3_; have GE128 := n4_; have NB127_128 := n5_; have NB128_127 := n6_; clear n0_ n1_ n2_ n3_ n4_ n5_ n6_; clear hb hbox hg) | ((with_reducible refine gate_dst (N := 6) rfl ?_); refine box_event ?hg (N := 6) ?hd (cs := #[.int .i64 0, .int .i64 0]) (t := 32) ?hr ?_; (case hd => rfl); (case hg => rfl); (case hr => first|(go_simp;done)|(go_simp;rfl)); intro gb129 hg w30 hbox hb; have n0_ := am_ (bb_ BK127.out hb); have n1_ := am_ (bb_ BK128.out hb); have n2_ := am_ (below_step (hb2_ HB.out GE127.out GE128.out) hb); have n3_ := am_ (hbox); have n4_ := am_ (hy_ hg (hb2_ HB.out GE127.out GE128.out) : w.heap.size ≤ gb129); have n5_ := am_ (hy_ hg (hb2_ HB.out GE127.out GE128.out) : w.heap.size ≤ gb129); have n6_ := am_ ((bl_ hg BK127.out : gb127 ≠ gb129)); have n7_ := am_ ((bg_ hg BK127.out : gb129 ≠ gb127)); have n8_ := am_ ((bl_ hg BK128.out : gb128 ≠ gb129)); have n9_ := am_ ((bg_ hg BK128.out : gb129 ≠ gb128)); clear BK127; clear BK128; clear HB; have BK127 := n0_; have BK128 := n1_; have HB := n2_; have BK129 := n3_; have GW129 := n4_; have GE129 := n5_; have NB127_129 := n6_; have NB129_127 := n7_; have NB128_129 := n8_; have NB129_128 := n9_; clear n0_ n1_ n2_ n3_ n4_ n5_ n6_ n7_ n8_ n9_; clear hb hbox hg; have hnb31 := NB128_127.out; have hnc31 := NB127_128.out; have hnb32 := NB128_129.out; have hnc32 := NB129_128.out; have hcz33_0 := bc_ BK128.out 0 (.int .i64 a1_0) rfl; have hcz33_1 := bc_ BK128.out 1 (.int .i64 a1_1) rfl; have hfz33_0 := blk_frozen BK128.out 0; have hfz33_1 := blk_frozen BK128.out 1) | ((with_reducible refine gate_callee (f := 21) rfl ?_); refine goesL_ (some 13) rfl rfl Try.func21 (by kernel_rfl) rfl #[.agg #[.int .i64 a1_0, .int .i64 a1_1], .int .i64 a2] rfl arr_ ?_; (with_reducible refine (spec_MostTime.calls k a1_0 a1_1 a2 t130 false _ A4.out).mono ?_); rintro e w34 ⟨rfl, hb⟩; refine ⟨_, rfl, ?_⟩; have n0_ := am_ (bb_ BK127.out hb); have n1_ := am_ (bb_ BK128.out hb); have n2_ := am_ (bb_ BK129.out hb); have n3_ := am_ (below_step (hb3_ HB.out GE127.out GE128.out GE129.out) hb); clear BK127; clear BK128; clear BK129; clear HB; have BK127 := n0_; have BK128 := n1_; have BK129 := n2_; have HB := n3_; clear n0_ n1_ n2_ n3_; (try clear hb); (try clear hb2); (try clear hk); (try clear hi); have hnb35 := NB129_127.out; have hnc35 := NB127_129.out; have hcz36_0 := bc_ BK129.out 0 (.int .i64 0) rfl; have hcz36_1 := bc_ BK129.out 1 (.int .i64 0) rfl; have hfz36_0 := blk_frozen BK129.out 0; have hfz36_1 := blk_frozen BK129.out 1))
    refine bodyPost_ret (results_ct rfl _ _ gb129 32 #[.int .i64 0, .int .i64 0] (0, 0) _ rfl (by (with_reducible repeat (first | refine blk_drewN ?_ _ | refine blk_drew ?_ | refine blk_alloc ?_ _)); refine blk_put (cs := #[.int .i64 0, .int .i64 0]) ?_ 1 _ rfl; (with_reducible repeat (first | refine blk_drewN ?_ _ | refine blk_drew ?_ | refine blk_alloc ?_ _)); refine blk_put (cs := #[.int .i64 0, .int .i64 0]) ?_ 0 _ rfl; (with_reducible repeat (first | refine blk_drewN ?_ _ | refine blk_drew ?_ | refine blk_alloc ?_ _)); exact BK129.out) Try.underlying32 rfl (by kernel_rfl)) rfl ?_
    exact ⟨er_, hb3_ HB.out GE127.out GE128.out GE129.out⟩
def spec_l4Node.f (a0 : Int) : Option (Bool) := (spec_l1In.f a0 0 7).bind fun t135 => (some t135)
set_option maxHeartbeats 8000000 in
set_option maxRecDepth 100000 in
theorem spec_l4Node.calls (a0 : Int) (r : Bool) (w : World) (h : spec_l4Node.f a0 = some r) :
    Calls Try.prog 40 #[.int .i64 a0] w fun e w' => e = .returned (.bool r) ∧ Drawn0 w w' := by
  have H : ((spec_l1In.f a0 0 7).bind fun t135 => (some t135)) = some r := h
  clear h
  replace H := Option.bind_eq_some_iff.mp H
  obtain ⟨t135, A20, H⟩ := H
  replace H : (some t135) = some r := H
  have A2 := Aside0.mk A20
  clear A20
  obtain rfl := Option.some.inj H
  go_enter Try.func40, Try.ntmps40
  go_wp2_with (first | ((with_reducible refine gate_callee (f := 38) rfl ?_); refine goesL_ (some 4) rfl rfl Try.func38 (by kernel_rfl) rfl #[.int .i64 a0, .int .i64 0, .int .i64 7] rfl arr_ ?_; (with_reducible refine (spec_l1In.calls a0 0 7 t135 _ A2.out).mono ?_); rintro e w' ⟨rfl, ⟨nd, rfl⟩⟩; refine ⟨_, rfl, ?_⟩))
  go_ret
  exact ⟨by first | rfl | (simp; done) | (simp [*]; done), by repeat (first | exact Drawn0.refl _ | apply Drawn0.step)⟩
end Go.Proofs.Ytejohmompmjhnaa.P
namespace Go.Proofs.Ytejohmompmjhnaa.P
open Go.RowKit Go.Proofs.YtejohmompmjhnaaW.PrintWords Go.Proofs.YtejohmompmjhnaaW.PrintLast Go.Proofs.YtejohmompmjhnaaW.PrintMore
attribute [local go_sem] max2_int min2_int max_two min_two max_three min_three max_four min_four
set_option linter.unusedVariables false
set_option linter.unusedSimpArgs false
mutual
def spec_PlanOk.j0 : Nat → Bool → Int → Int → List (S55) → Option (Bool)
  | 0, _, _, _, _ => none
  | k + 1, x20, x137000, x137001, x137002 => if x20 = true then (some false) else (spec_PlanOk.l0 k 0 x137000 x137001 x137002)
def spec_PlanOk.l0 : Nat → Int → Int → Int → List (S55) → Option (Bool)
  | 0, _, _, _, _ => none
  | k + 1, x3, x137000, x137001, x137002 => if x3 < (x137002.length : Int) then (if 0 ≤ x3 then ((spec_l4Node.f ((rd_T55 x137002 x3).f0)).bind fun t141 => (if t141 = true then ((spec_l1In.f ((rd_T55 x137002 x3).f1) 1 1000000).bind fun t143 => (if t143 = true then (spec_PlanOk.l0 k (wrap64 (x3 + 1)) x137000 x137001 x137002) else (some false))) else (some false))) else (none)) else (some true)
end
def spec_PlanOk.f (k : Nat) (a0_0 : Int) (a0_1 : Int) (l0_2 : List (S55)) : Option (Bool) := (spec_l2Time.f a0_0).bind fun t137 => (if t137 = true then ((spec_l1In.f a0_1 0 100000).bind fun t138 => (if t138 = true then ((spec_l1In.f (l0_2.length : Int) 1 12).bind fun t139 => (spec_PlanOk.j0 k (!t139) a0_0 a0_1 l0_2)) else (spec_PlanOk.j0 k true a0_0 a0_1 l0_2))) else (spec_PlanOk.j0 k true a0_0 a0_1 l0_2))
theorem spec_PlanOk.mono_l : ∀ k, (∀ y0 y1 y2 y3, LeO (spec_PlanOk.j0 k y0 y1 y2 y3) (spec_PlanOk.j0 (k + 1) y0 y1 y2 y3)) ∧ (∀ y0 y1 y2 y3, LeO (spec_PlanOk.l0 k y0 y1 y2 y3) (spec_PlanOk.l0 (k + 1) y0 y1 y2 y3))
  | 0 => ⟨fun _ _ _ _ r h => by simp [spec_PlanOk.j0] at h, fun _ _ _ _ r h => by simp [spec_PlanOk.l0] at h⟩
  | k + 1 => by
    obtain ⟨ih0, ih1⟩ := spec_PlanOk.mono_l k
    refine ⟨?_, ?_⟩
    · intro y0 y1 y2 y3
      unfold spec_PlanOk.j0
      repeat' first
      | (with_reducible exact ih0 _ _ _ _)
      | (with_reducible exact ih1 _ _ _ _)
      | (with_reducible exact LeO.refl _)
      | (with_reducible exact LeO.none _)
      | (with_reducible refine LeO.ite ?_ ?_)
      | (with_reducible refine LeO.bind ?_ (fun _ => ?_))
      | exact ih0 _ _ _ _
      | exact ih1 _ _ _ _
      | exact LeO.none _
      | refine LeO.ite ?_ ?_
      | refine LeO.bind ?_ (fun _ => ?_)
    · intro y0 y1 y2 y3
      unfold spec_PlanOk.l0
      repeat' first
      | (with_reducible exact ih0 _ _ _ _)
      | (with_reducible exact ih1 _ _ _ _)
      | (with_reducible exact LeO.refl _)
      | (with_reducible exact LeO.none _)
      | (with_reducible refine LeO.ite ?_ ?_)
      | (with_reducible refine LeO.bind ?_ (fun _ => ?_))
      | exact ih0 _ _ _ _
      | exact ih1 _ _ _ _
      | exact LeO.none _
      | refine LeO.ite ?_ ?_
      | refine LeO.bind ?_ (fun _ => ?_)
theorem spec_PlanOk.mono : ∀ a0 a1 a2 k, LeO (spec_PlanOk.f k a0 a1 a2) (spec_PlanOk.f (k + 1) a0 a1 a2) := by
  intro a0 a1 a2 k
  obtain ⟨ih0, ih1⟩ := spec_PlanOk.mono_l k
  unfold spec_PlanOk.f
  repeat' first
      | (with_reducible exact ih0 _ _ _ _)
      | (with_reducible exact ih1 _ _ _ _)
      | (with_reducible exact LeO.refl _)
      | (with_reducible exact LeO.none _)
      | (with_reducible refine LeO.ite ?_ ?_)
      | (with_reducible refine LeO.bind ?_ (fun _ => ?_))
      | exact ih0 _ _ _ _
      | exact ih1 _ _ _ _
      | exact LeO.none _
      | refine LeO.ite ?_ ?_
      | refine LeO.bind ?_ (fun _ => ?_)
set_option maxHeartbeats 8000000 in
set_option maxRecDepth 100000 in
theorem spec_PlanOk.calls (k : Nat) (a0_0 : Int) (a0_1 : Int) (A0_2 : Option Addr) (c0_2 : Nat) (l0_2 : List (S55)) (r : Bool) (w : World) (hr0_2 : Kd.C k55 w A0_2 l0_2.length l0_2) (hc0_2 : l0_2.length ≤ c0_2) (h : spec_PlanOk.f k a0_0 a0_1 l0_2 = some r) :
    Calls Try.prog 39 #[.agg #[.int .i64 a0_0, .int .i64 a0_1, .slice A0_2 l0_2.length c0_2]] w fun e w' => e = .returned (.bool r) ∧ Below w.heap.size w w' := by
  have hu38 := Try.underlying38
  have HR0_2 := Aside0.mk hr0_2
  have HC0_2 := Aside0.mk hc0_2
  clear hr0_2 hc0_2
  have HB := am_ (Below.refl w.heap.size w)
  have H : ((spec_l2Time.f a0_0).bind fun t137 => (if t137 = true then ((spec_l1In.f a0_1 0 100000).bind fun t138 => (if t138 = true then ((spec_l1In.f (l0_2.length : Int) 1 12).bind fun t139 => (spec_PlanOk.j0 k (!t139) a0_0 a0_1 l0_2)) else (spec_PlanOk.j0 k true a0_0 a0_1 l0_2))) else (spec_PlanOk.j0 k true a0_0 a0_1 l0_2))) = some r := h
  clear h
  have HC2 := Aside0.mk H
  clear H
  go_enter Try.func39, Try.ntmps39
  go_upto_region 1 with (first | ((with_reducible refine gate_dst (N := 1) rfl ?_); (try (refine gate_guard (by rfl) ?_; dsimp only)); refine box_event ?hg (N := 1) ?hd (cs := #[.int .i64 a0_0, .int .i64 a0_1, .slice A0_2 l0_2.length c0_2]) (t := 38) ?hr ?_; (case hd => rfl); (case hg => rfl); (case hr => first|(go_simp;done)|(go_simp;rfl)); intro gb136 hg w3 hbox hb; have n0_ := am_ (below_step (hb_ HB.out) hb); have n1_ := am_ (hbox); have n2_ := am_ (hy_ hg (hb_ HB.out) : w.heap.size ≤ gb136); have n3_ := am_ (hy_ hg (hb_ HB.out) : w.heap.size ≤ gb136); clear HB; have HB := n0_; have BK136 := n1_; have GW136 := n2_; have GE136 := n3_; clear n0_ n1_ n2_ n3_; clear hb hbox hg))
  (try simp only [Act.put, List.setIfInBounds_toArray, List.set_cons_zero, List.set_cons_succ])
  go_cut [20] (fun v20 wc => ∃ (kq : Nat) (x20_1 : Bool), v20 = .bool x20_1 ∧ Aside0 (spec_PlanOk.j0 kq x20_1 a0_0 a0_1 l0_2 = some r) ∧ Aside0 (kq ≤ k) ∧ Aside0 (wc.heap[gb136]? = some (.cells #[.int .i64 a0_0, .int .i64 a0_1, (.slice A0_2 l0_2.length c0_2)] 38 (0, 0))) ∧ Aside0 (Below w.heap.size w wc))
  case first =>
    have H := HC2.out
    clear HC2
    replace H := Option.bind_eq_some_iff.mp H
    obtain ⟨t137, A40, H⟩ := H
    replace H : (if t137 = true then ((spec_l1In.f a0_1 0 100000).bind fun t138 => (if t138 = true then ((spec_l1In.f (l0_2.length : Int) 1 12).bind fun t139 => (spec_PlanOk.j0 k (!t139) a0_0 a0_1 l0_2)) else (spec_PlanOk.j0 k true a0_0 a0_1 l0_2))) else (spec_PlanOk.j0 k true a0_0 a0_1 l0_2)) = some r := H
    have A4 := Aside0.mk A40
    clear A40
    by_cases c5 : t137 = true
    · subst c5
      have H1 : ((spec_l1In.f a0_1 0 100000).bind fun t138 => (if t138 = true then ((spec_l1In.f (l0_2.length : Int) 1 12).bind fun t139 => (spec_PlanOk.j0 k (!t139) a0_0 a0_1 l0_2)) else (spec_PlanOk.j0 k true a0_0 a0_1 l0_2))) = some r := by rw [if_pos rfl] at H; exact H
      clear H
      have H := H1
      clear H1
      replace H := Option.bind_eq_some_iff.mp H
      obtain ⟨t138, A60, H⟩ := H
      replace H : (if t138 = true then ((spec_l1In.f (l0_2.length : Int) 1 12).bind fun t139 => (spec_PlanOk.j0 k (!t139) a0_0 a0_1 l0_2)) else (spec_PlanOk.j0 k true a0_0 a0_1 l0_2)) = some r := H
      have A6 := Aside0.mk A60
      clear A60
      by_cases c7 : t138 = true
      · subst c7
        have H1 : ((spec_l1In.f (l0_2.length : Int) 1 12).bind fun t139 => (spec_PlanOk.j0 k (!t139) a0_0 a0_1 l0_2)) = some r := by rw [if_pos rfl] at H; exact H
        clear H
        have H := H1
        clear H1
        replace H := Option.bind_eq_some_iff.mp H
        obtain ⟨t139, A80, H⟩ := H
        replace H : (spec_PlanOk.j0 k (!t139) a0_0 a0_1 l0_2) = some r := H
        have A8 := Aside0.mk A80
        clear A80
        have H' := Aside0.mk H
        clear H
        have hcz9_0 := bc_ BK136.out 0 (.int .i64 a0_0) rfl
        have hcz9_1 := bc_ BK136.out 1 (.int .i64 a0_1) rfl
        have hcz9_2 := bc_ BK136.out 2 (.slice A0_2 l0_2.length c0_2) rfl
        have hfz9_0 := blk_frozen BK136.out 0
        have hfz9_1 := blk_frozen BK136.out 1
        have hfz9_2 := blk_frozen BK136.out 2
        go_wp2_with (first | ((with_reducible refine gate_callee (f := 67) rfl ?_); refine goesL_ (some 6) rfl rfl Try.func67 (by kernel_rfl) rfl #[.int .i64 a0_0] rfl arr_ ?_; (with_reducible refine (spec_l2Time.calls a0_0 true _ A4.out).mono ?_); rintro e w' ⟨rfl, ⟨nd, rfl⟩⟩; refine ⟨_, rfl, ?_⟩) | (go_at_call 38; (with_reducible refine (spec_l1In.calls a0_1 0 100000 true _ A6.out).mono ?_); rintro e w' ⟨rfl, ⟨nd, rfl⟩⟩) | (go_at_call 38; (with_reducible refine (spec_l1In.calls (l0_2.length : Int) 1 12 t139 _ A8.out).mono ?_); rintro e w' ⟨rfl, ⟨nd, rfl⟩⟩))
        go_meet
        case rel => exact ⟨_, (!t139), (by first | rfl | (simp; done) | (simp [*]; done)), H', ⟨by first | omega | exact Nat.le_refl _⟩, ⟨bk_ BK136.out⟩, ⟨hb1_ HB.out GE136.out⟩⟩
      · replace c7 := Bool.eq_false_iff.mpr c7
        subst c7
        have H1 : (spec_PlanOk.j0 k true a0_0 a0_1 l0_2) = some r := by rw [if_neg (show ¬ (false = true) by decide)] at H; exact H
        clear H
        have H := H1
        clear H1
        have H' := Aside0.mk H
        clear H
        have hcz10_0 := bc_ BK136.out 0 (.int .i64 a0_0) rfl
        have hcz10_1 := bc_ BK136.out 1 (.int .i64 a0_1) rfl
        have hcz10_2 := bc_ BK136.out 2 (.slice A0_2 l0_2.length c0_2) rfl
        have hfz10_0 := blk_frozen BK136.out 0
        have hfz10_1 := blk_frozen BK136.out 1
        have hfz10_2 := blk_frozen BK136.out 2
        go_wp2_with (first | ((with_reducible refine gate_callee (f := 67) rfl ?_); refine goesL_ (some 6) rfl rfl Try.func67 (by kernel_rfl) rfl #[.int .i64 a0_0] rfl arr_ ?_; (with_reducible refine (spec_l2Time.calls a0_0 true _ A4.out).mono ?_); rintro e w' ⟨rfl, ⟨nd, rfl⟩⟩; refine ⟨_, rfl, ?_⟩) | (go_at_call 38; (with_reducible refine (spec_l1In.calls a0_1 0 100000 false _ A6.out).mono ?_); rintro e w' ⟨rfl, ⟨nd, rfl⟩⟩))
        go_meet
        case rel => exact ⟨_, (true), (by first | rfl | (simp; done) | (simp [*]; done)), H', ⟨by first | omega | exact Nat.le_refl _⟩, ⟨bk_ BK136.out⟩, ⟨hb1_ HB.out GE136.out⟩⟩
    · replace c5 := Bool.eq_false_iff.mpr c5
      subst c5
      have H1 : (spec_PlanOk.j0 k true a0_0 a0_1 l0_2) = some r := by rw [if_neg (show ¬ (false = true) by decide)] at H; exact H
      clear H
      have H := H1
      clear H1
      have H' := Aside0.mk H
      clear H
      have hcz11_0 := bc_ BK136.out 0 (.int .i64 a0_0) rfl
      have hcz11_1 := bc_ BK136.out 1 (.int .i64 a0_1) rfl
      have hcz11_2 := bc_ BK136.out 2 (.slice A0_2 l0_2.length c0_2) rfl
      have hfz11_0 := blk_frozen BK136.out 0
      have hfz11_1 := blk_frozen BK136.out 1
      have hfz11_2 := blk_frozen BK136.out 2
      go_wp2_with (first | ((with_reducible refine gate_callee (f := 67) rfl ?_); refine goesL_ (some 6) rfl rfl Try.func67 (by kernel_rfl) rfl #[.int .i64 a0_0] rfl arr_ ?_; (with_reducible refine (spec_l2Time.calls a0_0 false _ A4.out).mono ?_); rintro e w' ⟨rfl, ⟨nd, rfl⟩⟩; refine ⟨_, rfl, ?_⟩))
      go_meet
      case rel => exact ⟨_, (true), (by first | rfl | (simp; done) | (simp [*]; done)), H', ⟨by first | omega | exact Nat.le_refl _⟩, ⟨bk_ BK136.out⟩, ⟨hb1_ HB.out GE136.out⟩⟩
  case rest =>
    clear HC2
    try clear p2
    try clear c3
    try clear c5
    try clear c6
    try clear c7
    try clear hcz10_0
    try clear hcz10_1
    try clear hcz10_2
    try clear hcz11_0
    try clear hcz11_1
    try clear hcz11_2
    try clear hcz9_0
    try clear hcz9_1
    try clear hcz9_2
    try clear hfz10_0
    try clear hfz10_1
    try clear hfz10_2
    try clear hfz11_0
    try clear hfz11_1
    try clear hfz11_2
    try clear hfz9_0
    try clear hfz9_1
    try clear hfz9_2
    obtain ⟨kq, x20_1, rfl, HA, HJ1, BK136, HB⟩ := hcut
    cases kq with
    | zero => exact absurd HA.out (by simp [spec_PlanOk.j0])
    | succ kj1 =>
      have H := HA.out
      clear HA
      simp only [spec_PlanOk.j0] at H
      by_cases c12 : x20_1 = true
      · subst c12
        have H1 : (some false) = some r := by rw [if_pos rfl] at H; exact H
        clear H
        have H := H1
        clear H1
        obtain rfl := Option.some.inj H
        go_wp2
        go_ret
        exact ⟨er_, hb1_ HB.out GE136.out⟩
      · replace c12 := Bool.eq_false_iff.mpr c12
        subst c12
        have H1 : (spec_PlanOk.l0 kj1 0 a0_0 a0_1 l0_2) = some r := by rw [if_neg (show ¬ (false = true) by decide)] at H; exact H
        clear H
        have H := H1
        clear H1
        have H' := Aside0.mk H
        clear H
        go_wp2
        go_loopg [3] kj1 (fun kq v3 w' => ∃ (x3_2 : Int), v3 = .int .i64 x3_2 ∧ Aside0 (spec_PlanOk.l0 kq x3_2 a0_0 a0_1 l0_2 = some r) ∧ Aside0 (kq ≤ kj1) ∧ Aside0 (w'.heap[gb136]? = some (.cells #[.int .i64 a0_0, .int .i64 a0_1, (.slice A0_2 l0_2.length c0_2)] 38 (0, 0))) ∧ Aside0 (Below w.heap.size w w'))
        case atStart => exact ⟨(0), (by first | rfl | (simp; done) | (simp [*]; done)), H', ⟨Nat.le_refl _⟩, ⟨bk_ BK136.out⟩, ⟨hb1_ HB.out GE136.out⟩⟩
        case round =>
          clear H'
          try clear c1
          try clear p2
          try clear c3
          try clear c5
          try clear c6
          try clear c7
          try clear c12
          try clear hcz10_0
          try clear hcz10_1
          try clear hcz10_2
          try clear hcz11_0
          try clear hcz11_1
          try clear hcz11_2
          try clear hcz9_0
          try clear hcz9_1
          try clear hcz9_2
          try clear hfz10_0
          try clear hfz10_1
          try clear hfz10_2
          try clear hfz11_0
          try clear hfz11_1
          try clear hfz11_2
          try clear hfz9_0
          try clear hfz9_1
          try clear hfz9_2
          try clear p2
          obtain ⟨x3_2, rfl, HA, HK2, BK136, HB⟩ := hrel
          cases gk with
          | zero => exact absurd HA.out (by simp [spec_PlanOk.l0])
          | succ k2 =>
            have H := HA.out
            clear HA
            simp only [spec_PlanOk.l0] at H
            by_cases c13 : x3_2 < (l0_2.length : Int)
            · rw [if_pos c13] at H
              have c13b0 : decide (x3_2 < (l0_2.length : Int)) = true := decide_eq_true c13
              clear c13
              by_cases c14 : 0 ≤ x3_2
              · rw [if_pos c14] at H
                have c14b0 : decide (0 ≤ x3_2) = true := decide_eq_true c14
                clear c14
                replace H := Option.bind_eq_some_iff.mp H
                obtain ⟨t141, A150, H⟩ := H
                replace H : (if t141 = true then ((spec_l1In.f ((rd_T55 l0_2 x3_2).f1) 1 1000000).bind fun t143 => (if t143 = true then (spec_PlanOk.l0 k2 (wrap64 (x3_2 + 1)) a0_0 a0_1 l0_2) else (some false))) else (some false)) = some r := H
                have A15 := Aside0.mk A150
                clear A150
                by_cases c16 : t141 = true
                · subst c16
                  have H1 : ((spec_l1In.f ((rd_T55 l0_2 x3_2).f1) 1 1000000).bind fun t143 => (if t143 = true then (spec_PlanOk.l0 k2 (wrap64 (x3_2 + 1)) a0_0 a0_1 l0_2) else (some false))) = some r := by rw [if_pos rfl] at H; exact H
                  clear H
                  have H := H1
                  clear H1
                  replace H := Option.bind_eq_some_iff.mp H
                  obtain ⟨t143, A170, H⟩ := H
                  replace H : (if t143 = true then (spec_PlanOk.l0 k2 (wrap64 (x3_2 + 1)) a0_0 a0_1 l0_2) else (some false)) = some r := H
                  have A17 := Aside0.mk A170
                  clear A170
                  by_cases c18 : t143 = true
                  · subst c18
                    have H1 : (spec_PlanOk.l0 k2 (wrap64 (x3_2 + 1)) a0_0 a0_1 l0_2) = some r := by rw [if_pos rfl] at H; exact H
                    clear H
                    have H := H1
                    clear H1
                    have H' := Aside0.mk H
                    clear H
                    have hcz19_0 := bc_ BK136.out 0 (.int .i64 a0_0) rfl
                    have hcz19_1 := bc_ BK136.out 1 (.int .i64 a0_1) rfl
                    have hcz19_2 := bc_ BK136.out 2 (.slice A0_2 l0_2.length c0_2) rfl
                    have hfz19_0 := blk_frozen BK136.out 0
                    have hfz19_1 := blk_frozen BK136.out 1
                    have hfz19_2 := blk_frozen BK136.out 2
                    have p140 : 0 ≤ (x3_2 : Int) := of_decide_eq_true (by first | (with_reducible assumption) | assumption)
                    have q140 : x3_2 < (l0_2.length : Int) := of_decide_eq_true (by first | (with_reducible assumption) | assumption)
                    obtain ⟨ad140, e140, hx140_0, hx140_1⟩ := at_T55 HR0_2.out x3_2 p140 q140
                    cases e140
                    replace hx140_0 := (HB.out.cell (World.block_lt_of_cell? w _ hx140_0)).trans hx140_0
                    replace hx140_1 := (HB.out.cell (World.block_lt_of_cell? w _ hx140_1)).trans hx140_1
                    replace p140 := eq_true p140
                    replace q140 := eq_true q140
                    go_wp2_with (first | ((with_reducible refine gate_callee (f := 40) rfl ?_); refine goesL_ (some 34) rfl rfl Try.func40 (by kernel_rfl) rfl #[.int .i64 ((rd_T55 l0_2 x3_2).f0)] rfl arr_ ?_; (with_reducible refine (spec_l4Node.calls ((rd_T55 l0_2 x3_2).f0) true _ A15.out).mono ?_); rintro e w' ⟨rfl, ⟨nd, rfl⟩⟩; refine ⟨_, rfl, ?_⟩; have p142 : 0 ≤ (x3_2 : Int) := of_decide_eq_true (by first | (with_reducible assumption) | assumption); have q142 : x3_2 < (l0_2.length : Int) := of_decide_eq_true (by first | (with_reducible assumption) | assumption); obtain ⟨ad142, e142, hx142_0, hx142_1⟩ := at_T55 HR0_2.out x3_2 p142 q142; obtain rfl : ad140 = ad142 := (by injection e142); replace hx142_0 := (HB.out.cell (World.block_lt_of_cell? w _ hx142_0)).trans hx142_0; replace hx142_1 := (HB.out.cell (World.block_lt_of_cell? w _ hx142_1)).trans hx142_1; replace p142 := eq_true p142; replace q142 := eq_true q142) | (go_at_call 38; (with_reducible refine (spec_l1In.calls ((rd_T55 l0_2 x3_2).f1) 1 1000000 true _ A17.out).mono ?_); rintro e w' ⟨rfl, ⟨nd, rfl⟩⟩))
                    go_roundg k2
                    case measure => have := HJ1.out; have := HK2.out; omega
                    case rel => exact ⟨(wrap64 (x3_2 + 1)), (by first | rfl | (simp; done) | (simp [*]; done)), H', ⟨by have := HJ1.out; have := HK2.out; omega⟩, ⟨bk_ BK136.out⟩, ⟨hb1_ HB.out GE136.out⟩⟩
                  · replace c18 := Bool.eq_false_iff.mpr c18
                    subst c18
                    have H1 : (some false) = some r := by rw [if_neg (show ¬ (false = true) by decide)] at H; exact H
                    clear H
                    have H := H1
                    clear H1
                    obtain rfl := Option.some.inj H
                    have hcz20_0 := bc_ BK136.out 0 (.int .i64 a0_0) rfl
                    have hcz20_1 := bc_ BK136.out 1 (.int .i64 a0_1) rfl
                    have hcz20_2 := bc_ BK136.out 2 (.slice A0_2 l0_2.length c0_2) rfl
                    have hfz20_0 := blk_frozen BK136.out 0
                    have hfz20_1 := blk_frozen BK136.out 1
                    have hfz20_2 := blk_frozen BK136.out 2
                    have p140 : 0 ≤ (x3_2 : Int) := of_decide_eq_true (by first | (with_reducible assumption) | assumption)
                    have q140 : x3_2 < (l0_2.length : Int) := of_decide_eq_true (by first | (with_reducible assumption) | assumption)
                    obtain ⟨ad140, e140, hx140_0, hx140_1⟩ := at_T55 HR0_2.out x3_2 p140 q140
                    cases e140
                    replace hx140_0 := (HB.out.cell (World.block_lt_of_cell? w _ hx140_0)).trans hx140_0
                    replace hx140_1 := (HB.out.cell (World.block_lt_of_cell? w _ hx140_1)).trans hx140_1
                    replace p140 := eq_true p140
                    replace q140 := eq_true q140
                    go_wp2_with (first | ((with_reducible refine gate_callee (f := 40) rfl ?_); refine goesL_ (some 34) rfl rfl Try.func40 (by kernel_rfl) rfl #[.int .i64 ((rd_T55 l0_2 x3_2).f0)] rfl arr_ ?_; (with_reducible refine (spec_l4Node.calls ((rd_T55 l0_2 x3_2).f0) true _ A15.out).mono ?_); rintro e w' ⟨rfl, ⟨nd, rfl⟩⟩; refine ⟨_, rfl, ?_⟩; have p142 : 0 ≤ (x3_2 : Int) := of_decide_eq_true (by first | (with_reducible assumption) | assumption); have q142 : x3_2 < (l0_2.length : Int) := of_decide_eq_true (by first | (with_reducible assumption) | assumption); obtain ⟨ad142, e142, hx142_0, hx142_1⟩ := at_T55 HR0_2.out x3_2 p142 q142; obtain rfl : ad140 = ad142 := (by injection e142); replace hx142_0 := (HB.out.cell (World.block_lt_of_cell? w _ hx142_0)).trans hx142_0; replace hx142_1 := (HB.out.cell (World.block_lt_of_cell? w _ hx142_1)).trans hx142_1; replace p142 := eq_true p142; replace q142 := eq_true q142) | (go_at_call 38; (with_reducible refine (spec_l1In.calls ((rd_T55 l0_2 x3_2).f1) 1 1000000 false _ A17.out).mono ?_); rintro e w' ⟨rfl, ⟨nd, rfl⟩⟩))
                    go_ret
                    exact ⟨er_, hb1_ HB.out GE136.out⟩
                · replace c16 := Bool.eq_false_iff.mpr c16
                  subst c16
                  have H1 : (some false) = some r := by rw [if_neg (show ¬ (false = true) by decide)] at H; exact H
                  clear H
                  have H := H1
                  clear H1
                  obtain rfl := Option.some.inj H
                  have hcz21_0 := bc_ BK136.out 0 (.int .i64 a0_0) rfl
                  have hcz21_1 := bc_ BK136.out 1 (.int .i64 a0_1) rfl
                  have hcz21_2 := bc_ BK136.out 2 (.slice A0_2 l0_2.length c0_2) rfl
                  have hfz21_0 := blk_frozen BK136.out 0
                  have hfz21_1 := blk_frozen BK136.out 1
                  have hfz21_2 := blk_frozen BK136.out 2
                  have p140 : 0 ≤ (x3_2 : Int) := of_decide_eq_true (by first | (with_reducible assumption) | assumption)
                  have q140 : x3_2 < (l0_2.length : Int) := of_decide_eq_true (by first | (with_reducible assumption) | assumption)
                  obtain ⟨ad140, e140, hx140_0, hx140_1⟩ := at_T55 HR0_2.out x3_2 p140 q140
                  cases e140
                  replace hx140_0 := (HB.out.cell (World.block_lt_of_cell? w _ hx140_0)).trans hx140_0
                  replace hx140_1 := (HB.out.cell (World.block_lt_of_cell? w _ hx140_1)).trans hx140_1
                  replace p140 := eq_true p140
                  replace q140 := eq_true q140
                  go_wp2_with (first | ((with_reducible refine gate_callee (f := 40) rfl ?_); refine goesL_ (some 34) rfl rfl Try.func40 (by kernel_rfl) rfl #[.int .i64 ((rd_T55 l0_2 x3_2).f0)] rfl arr_ ?_; (with_reducible refine (spec_l4Node.calls ((rd_T55 l0_2 x3_2).f0) false _ A15.out).mono ?_); rintro e w' ⟨rfl, ⟨nd, rfl⟩⟩; refine ⟨_, rfl, ?_⟩))
                  go_ret
                  exact ⟨er_, hb1_ HB.out GE136.out⟩
              · rw [if_neg c14] at H
                exact absurd H (by simp)
            · rw [if_neg c13] at H
              have c13b0 : decide (x3_2 < (l0_2.length : Int)) = false := decide_eq_false c13
              clear c13
              obtain rfl := Option.some.inj H
              have hcz22_0 := bc_ BK136.out 0 (.int .i64 a0_0) rfl
              have hcz22_1 := bc_ BK136.out 1 (.int .i64 a0_1) rfl
              have hcz22_2 := bc_ BK136.out 2 (.slice A0_2 l0_2.length c0_2) rfl
              have hfz22_0 := blk_frozen BK136.out 0
              have hfz22_1 := blk_frozen BK136.out 1
              have hfz22_2 := blk_frozen BK136.out 2
              go_wp2
              go_ret
              exact ⟨er_, hb1_ HB.out GE136.out⟩
end Go.Proofs.Ytejohmompmjhnaa.P

namespace Go.Proofs.Ytejohmompmjhnaa.P
open Go.RowKit Go.Proofs.YtejohmompmjhnaaW.PrintWords Go.Proofs.YtejohmompmjhnaaW.PrintLast Go.Proofs.YtejohmompmjhnaaW.PrintMore
attribute [local go_sem] max2_int min2_int max_two min_two max_three min_three max_four min_four
set_option linter.unusedVariables false
set_option linter.unusedSimpArgs false
def spec_l13Upto.l0 : Nat → Int → Int → Int → Int → Int → List (S55) → Option (Int)
  | 0, _, _, _, _, _, _ => none
  | k + 1, x1, x5, x6, x145000, x145001, x145002 => if x6 < x1 then (if 0 ≤ x6 then (if x6 < (x145002.length : Int) then (spec_l13Upto.l0 k x1 (wrap64 ((wrap64 (x5 + ((rd_T55 x145002 x6).f1))) + x145001)) (wrap64 (x6 + 1)) x145000 x145001 x145002) else (none)) else (none)) else (some x5)
def spec_l13Upto.f (k : Nat) (a0_0 : Int) (a0_1 : Int) (l0_2 : List (S55)) (a1 : Int) : Option (Int) := spec_l13Upto.l0 k a1 0 0 a0_0 a0_1 l0_2
theorem spec_l13Upto.mono_l : ∀ k, (∀ y0 y1 y2 y3 y4 y5, LeO (spec_l13Upto.l0 k y0 y1 y2 y3 y4 y5) (spec_l13Upto.l0 (k + 1) y0 y1 y2 y3 y4 y5))
  | 0 => fun _ _ _ _ _ _ r h => by simp [spec_l13Upto.l0] at h
  | k + 1 => by
    have ih0 := spec_l13Upto.mono_l k
    · intro y0 y1 y2 y3 y4 y5
      unfold spec_l13Upto.l0
      repeat' first
      | (with_reducible exact ih0 _ _ _ _ _ _)
      | (with_reducible exact LeO.refl _)
      | (with_reducible exact LeO.none _)
      | (with_reducible refine LeO.ite ?_ ?_)
      | (with_reducible refine LeO.bind ?_ (fun _ => ?_))
      | exact ih0 _ _ _ _ _ _
      | exact LeO.none _
      | refine LeO.ite ?_ ?_
      | refine LeO.bind ?_ (fun _ => ?_)
theorem spec_l13Upto.mono : ∀ a0 a1 a2 a3 k, LeO (spec_l13Upto.f k a0 a1 a2 a3) (spec_l13Upto.f (k + 1) a0 a1 a2 a3) := by
  intro a0 a1 a2 a3 k
  have ih0 := spec_l13Upto.mono_l k
  unfold spec_l13Upto.f
  repeat' first
      | (with_reducible exact ih0 _ _ _ _ _ _)
      | (with_reducible exact LeO.refl _)
      | (with_reducible exact LeO.none _)
      | (with_reducible refine LeO.ite ?_ ?_)
      | (with_reducible refine LeO.bind ?_ (fun _ => ?_))
      | exact ih0 _ _ _ _ _ _
      | exact LeO.none _
      | refine LeO.ite ?_ ?_
      | refine LeO.bind ?_ (fun _ => ?_)
set_option maxHeartbeats 8000000 in
set_option maxRecDepth 100000 in
theorem spec_l13Upto.calls (k : Nat) (a0_0 : Int) (a0_1 : Int) (A0_2 : Option Addr) (c0_2 : Nat) (l0_2 : List (S55)) (a1 : Int) (r : Int) (w : World) (hr0_2 : Kd.C k55 w A0_2 l0_2.length l0_2) (hc0_2 : l0_2.length ≤ c0_2) (h : spec_l13Upto.f k a0_0 a0_1 l0_2 a1 = some r) :
    Calls Try.prog 72 #[.agg #[.int .i64 a0_0, .int .i64 a0_1, .slice A0_2 l0_2.length c0_2], .int .i64 a1] w fun e w' => e = .returned (.int .i64 r) ∧ Below w.heap.size w w' := by
  have hu38 := Try.underlying38
  have HR0_2 := Aside0.mk hr0_2
  have HC0_2 := Aside0.mk hc0_2
  clear hr0_2 hc0_2
  have HB := am_ (Below.refl w.heap.size w)
  have H : (spec_l13Upto.l0 k a1 0 0 a0_0 a0_1 l0_2) = some r := h
  clear h
  have H' := Aside0.mk H
  clear H
  go_enter Try.func72, Try.ntmps72
  go_wp2_with (first | ((with_reducible refine gate_dst (N := 2) rfl ?_); refine box_event ?hg (N := 2) ?hd (cs := #[.int .i64 a0_0, .int .i64 a0_1, .slice A0_2 l0_2.length c0_2]) (t := 38) ?hr ?_; (case hd => rfl); (case hg => rfl); (case hr => first|(go_simp;done)|(go_simp;rfl)); intro gb144 hg w3 hbox hb; have n0_ := am_ (below_step (hb_ HB.out) hb); have n1_ := am_ (hbox); have n2_ := am_ (hy_ hg (hb_ HB.out) : w.heap.size ≤ gb144); have n3_ := am_ (hy_ hg (hb_ HB.out) : w.heap.size ≤ gb144); clear HB; have HB := n0_; have BK144 := n1_; have GW144 := n2_; have GE144 := n3_; clear n0_ n1_ n2_ n3_; clear hb hbox hg))
  repeat (go_quiet (first | ((with_reducible refine gate_dst (N := 2) rfl ?_); refine box_event ?hg (N := 2) ?hd (cs := #[.int .i64 a0_0, .int .i64 a0_1, .slice A0_2 l0_2.length c0_2]) (t := 38) ?hr ?_; (case hd => rfl); (case hg => rfl); (case hr => first|(go_simp;done)|(go_simp;rfl)); intro gb144 hg w3 hbox hb; have n0_ := am_ (below_step (hb_ HB.out) hb); have n1_ := am_ (hbox); have n2_ := am_ (hy_ hg (hb_ HB.out) : w.heap.size ≤ gb144); have n3_ := am_ (hy_ hg (hb_ HB.out) : w.heap.size ≤ gb144); clear HB; have HB := n0_; have BK144 := n1_; have GW144 := n2_; have GE144 := n3_; clear n0_ n1_ n2_ n3_; clear hb hbox hg)); try go_wp2_with (first | ((with_reducible refine gate_dst (N := 2) rfl ?_); refine box_event ?hg (N := 2) ?hd (cs := #[.int .i64 a0_0, .int .i64 a0_1, .slice A0_2 l0_2.length c0_2]) (t := 38) ?hr ?_; (case hd => rfl); (case hg => rfl); (case hr => first|(go_simp;done)|(go_simp;rfl)); intro gb144 hg w3 hbox hb; have n0_ := am_ (below_step (hb_ HB.out) hb); have n1_ := am_ (hbox); have n2_ := am_ (hy_ hg (hb_ HB.out) : w.heap.size ≤ gb144); have n3_ := am_ (hy_ hg (hb_ HB.out) : w.heap.size ≤ gb144); clear HB; have HB := n0_; have BK144 := n1_; have GW144 := n2_; have GE144 := n3_; clear n0_ n1_ n2_ n3_; clear hb hbox hg)))
  go_loopg [5, 6] k (fun kq v5 v6 w' => ∃ (x5_1 : Int) (x6_1 : Int), v5 = .int .i64 x5_1 ∧ v6 = .int .i64 x6_1 ∧ Aside0 (spec_l13Upto.l0 kq a1 x5_1 x6_1 a0_0 a0_1 l0_2 = some r) ∧ Aside0 (kq ≤ k) ∧ Aside0 (w'.heap[gb144]? = some (.cells #[.int .i64 a0_0, .int .i64 a0_1, (.slice A0_2 l0_2.length c0_2)] 38 (0, 0))) ∧ Aside0 (Below w.heap.size w w'))
  case atStart => exact ⟨(0), (0), (by first | rfl | (simp; done) | (simp [*]; done)), (by first | rfl | (simp; done) | (simp [*]; done)), H', ⟨Nat.le_refl _⟩, ⟨bk_ BK144.out⟩, ⟨hb1_ HB.out GE144.out⟩⟩
  case round =>
    clear H'
    try clear p2
    obtain ⟨x5_1, x6_1, rfl, rfl, HA, HK1, BK144, HB⟩ := hrel
    cases gk with
    | zero => exact absurd HA.out (by simp [spec_l13Upto.l0])
    | succ k1 =>
      have H := HA.out
      clear HA
      simp only [spec_l13Upto.l0] at H
      by_cases c4 : x6_1 < a1
      · rw [if_pos c4] at H
        have c4b0 : decide (x6_1 < a1) = true := decide_eq_true c4
        clear c4
        by_cases c5 : 0 ≤ x6_1
        · rw [if_pos c5] at H
          have c5b0 : decide (0 ≤ x6_1) = true := decide_eq_true c5
          clear c5
          by_cases c6 : x6_1 < (l0_2.length : Int)
          · rw [if_pos c6] at H
            have c6b0 : decide (x6_1 < (l0_2.length : Int)) = true := decide_eq_true c6
            clear c6
            have H' := Aside0.mk H
            clear H
            have hcz7_0 := bc_ BK144.out 0 (.int .i64 a0_0) rfl
            have hcz7_1 := bc_ BK144.out 1 (.int .i64 a0_1) rfl
            have hcz7_2 := bc_ BK144.out 2 (.slice A0_2 l0_2.length c0_2) rfl
            have hfz7_0 := blk_frozen BK144.out 0
            have hfz7_1 := blk_frozen BK144.out 1
            have hfz7_2 := blk_frozen BK144.out 2
            have p145 : 0 ≤ (x6_1 : Int) := of_decide_eq_true (by first | (with_reducible assumption) | assumption)
            have q145 : x6_1 < (l0_2.length : Int) := of_decide_eq_true (by first | (with_reducible assumption) | assumption)
            obtain ⟨ad145, e145, hx145_0, hx145_1⟩ := at_T55 HR0_2.out x6_1 p145 q145
            cases e145
            replace hx145_0 := (HB.out.cell (World.block_lt_of_cell? w _ hx145_0)).trans hx145_0
            replace hx145_1 := (HB.out.cell (World.block_lt_of_cell? w _ hx145_1)).trans hx145_1
            replace p145 := eq_true p145
            replace q145 := eq_true q145
            go_wp2
            repeat (go_quiet (fail); try go_wp2)
            go_roundg k1
            case measure => have := HK1.out; omega
            case rel => exact ⟨(wrap64 ((wrap64 (x5_1 + ((rd_T55 l0_2 x6_1).f1))) + a0_1)), (wrap64 (x6_1 + 1)), (by first | rfl | (simp; done) | (simp [*]; done)), (by first | rfl | (simp; done) | (simp [*]; done)), H', ⟨by have := HK1.out; omega⟩, ⟨bk_ BK144.out⟩, ⟨hb1_ HB.out GE144.out⟩⟩
          · rw [if_neg c6] at H
            exact absurd H (by simp)
        · rw [if_neg c5] at H
          exact absurd H (by simp)
      · rw [if_neg c4] at H
        have c4b0 : decide (x6_1 < a1) = false := decide_eq_false c4
        clear c4
        obtain rfl := Option.some.inj H
        go_wp2
        repeat (go_quiet (fail); try go_wp2)
        go_ret
        exact ⟨er_, hb1_ HB.out GE144.out⟩
def spec_RoundOf.f (k : Nat) (a0_0 : Int) (a0_1 : Int) (l0_2 : List (S55)) : Option (Int) := (spec_PlanOk.f k a0_0 a0_1 l0_2).bind fun t147 => (if t147 = true then ((spec_l13Upto.f k a0_0 a0_1 l0_2 (l0_2.length : Int)).bind fun t148 => (some t148)) else (some 0))
theorem spec_RoundOf.mono : ∀ a0 a1 a2 k, LeO (spec_RoundOf.f k a0 a1 a2) (spec_RoundOf.f (k + 1) a0 a1 a2) := by
  intro a0 a1 a2 k
  unfold spec_RoundOf.f
  repeat' first
      | (with_reducible exact spec_PlanOk.mono _ _ _ _)
      | (with_reducible exact spec_l13Upto.mono _ _ _ _ _)
      | (with_reducible exact LeO.refl _)
      | (with_reducible exact LeO.none _)
      | (with_reducible refine LeO.ite ?_ ?_)
      | (with_reducible refine LeO.bind ?_ (fun _ => ?_))
      | exact spec_PlanOk.mono _ _ _ _
      | exact spec_l13Upto.mono _ _ _ _ _
      | exact LeO.none _
      | refine LeO.ite ?_ ?_
      | refine LeO.bind ?_ (fun _ => ?_)
set_option maxHeartbeats 8000000 in
set_option maxRecDepth 100000 in
theorem spec_RoundOf.calls (k : Nat) (a0_0 : Int) (a0_1 : Int) (A0_2 : Option Addr) (c0_2 : Nat) (l0_2 : List (S55)) (r : Int) (w : World) (hr0_2 : Kd.C k55 w A0_2 l0_2.length l0_2) (hc0_2 : l0_2.length ≤ c0_2) (h : spec_RoundOf.f k a0_0 a0_1 l0_2 = some r) :
    Calls Try.prog 26 #[.agg #[.int .i64 a0_0, .int .i64 a0_1, .slice A0_2 l0_2.length c0_2]] w fun e w' => e = .returned (.int .i64 r) ∧ Below w.heap.size w w' := by
  have hu38 := Try.underlying38
  have HR0_2 := Aside0.mk hr0_2
  have HC0_2 := Aside0.mk hc0_2
  clear hr0_2 hc0_2
  have HB := am_ (Below.refl w.heap.size w)
  have H : ((spec_PlanOk.f k a0_0 a0_1 l0_2).bind fun t147 => (if t147 = true then ((spec_l13Upto.f k a0_0 a0_1 l0_2 (l0_2.length : Int)).bind fun t148 => (some t148)) else (some 0))) = some r := h
  clear h
  replace H := Option.bind_eq_some_iff.mp H
  obtain ⟨t147, A20, H⟩ := H
  replace H : (if t147 = true then ((spec_l13Upto.f k a0_0 a0_1 l0_2 (l0_2.length : Int)).bind fun t148 => (some t148)) else (some 0)) = some r := H
  have A2 := Aside0.mk A20
  clear A20
  by_cases c3 : t147 = true
  · subst c3
    have H1 : ((spec_l13Upto.f k a0_0 a0_1 l0_2 (l0_2.length : Int)).bind fun t148 => (some t148)) = some r := by rw [if_pos rfl] at H; exact H
    clear H
    have H := H1
    clear H1
    replace H := Option.bind_eq_some_iff.mp H
    obtain ⟨t148, A40, H⟩ := H
    replace H : (some t148) = some r := H
    have A4 := Aside0.mk A40
    clear A40
    obtain rfl := Option.some.inj H
    go_enter Try.func26, Try.ntmps26
    go_wp2_with (first | ((with_reducible refine gate_dst (N := 1) rfl ?_); refine box_event ?hg (N := 1) ?hd (cs := #[.int .i64 a0_0, .int .i64 a0_1, .slice A0_2 l0_2.length c0_2]) (t := 38) ?hr ?_; (case hd => rfl); (case hg => rfl); (case hr => first|(go_simp;done)|(go_simp;rfl)); intro gb146 hg w5 hbox hb; have n0_ := am_ (below_step (hb_ HB.out) hb); have n1_ := am_ (hbox); have n2_ := am_ (hy_ hg (hb_ HB.out) : w.heap.size ≤ gb146); have n3_ := am_ (hy_ hg (hb_ HB.out) : w.heap.size ≤ gb146); clear HB; have HB := n0_; have BK146 := n1_; have GW146 := n2_; have GE146 := n3_; clear n0_ n1_ n2_ n3_; clear hb hbox hg; have hcz6_0 := bc_ BK146.out 0 (.int .i64 a0_0) rfl; have hcz6_1 := bc_ BK146.out 1 (.int .i64 a0_1) rfl; have hcz6_2 := bc_ BK146.out 2 (.slice A0_2 l0_2.length c0_2) rfl; have hfz6_0 := blk_frozen BK146.out 0; have hfz6_1 := blk_frozen BK146.out 1; have hfz6_2 := blk_frozen BK146.out 2) | ((with_reducible refine gate_callee (f := 39) rfl ?_); refine goesL_ (some 4) rfl rfl Try.func39 (by kernel_rfl) rfl #[.agg #[.int .i64 a0_0, .int .i64 a0_1, .slice A0_2 l0_2.length c0_2]] rfl arr_ ?_; (with_reducible refine (spec_PlanOk.calls k a0_0 a0_1 _ _ l0_2 true _ ?side1 ?side2 A2.out).mono ?_); (case side1 => exact kc_ (Kd.C_below HR0_2.out HB.out)); (case side2 => exact HC0_2.out); rintro e w7 ⟨rfl, hb⟩; refine ⟨_, rfl, ?_⟩; have n0_ := am_ (bb_ BK146.out hb); have n1_ := am_ (below_step (hb1_ HB.out GE146.out) hb); clear BK146; clear HB; have BK146 := n0_; have HB := n1_; clear n0_ n1_; (try clear hb); (try clear hb2); (try clear hk); (try clear hi); have hcz8_0 := bc_ BK146.out 0 (.int .i64 a0_0) rfl; have hcz8_1 := bc_ BK146.out 1 (.int .i64 a0_1) rfl; have hcz8_2 := bc_ BK146.out 2 (.slice A0_2 l0_2.length c0_2) rfl; have hfz8_0 := blk_frozen BK146.out 0; have hfz8_1 := blk_frozen BK146.out 1; have hfz8_2 := blk_frozen BK146.out 2) | ((with_reducible refine gate_callee (f := 72) rfl ?_); refine goesL_ (some 10) rfl rfl Try.func72 (by kernel_rfl) rfl #[.agg #[.int .i64 a0_0, .int .i64 a0_1, .slice A0_2 l0_2.length c0_2], .int .i64 (l0_2.length : Int)] rfl arr_ ?_; (with_reducible refine (spec_l13Upto.calls k a0_0 a0_1 _ _ l0_2 (l0_2.length : Int) t148 _ ?side1 ?side2 A4.out).mono ?_); (case side1 => exact kc_ (Kd.C_below HR0_2.out HB.out)); (case side2 => exact HC0_2.out); rintro e w9 ⟨rfl, hb⟩; refine ⟨_, rfl, ?_⟩; have n0_ := am_ (bb_ BK146.out hb); have n1_ := am_ (below_step (hb1_ HB.out GE146.out) hb); clear BK146; clear HB; have BK146 := n0_; have HB := n1_; clear n0_ n1_; (try clear hb); (try clear hb2); (try clear hk); (try clear hi)))
    go_ret
    exact ⟨er_, hb1_ HB.out GE146.out⟩
  · replace c3 := Bool.eq_false_iff.mpr c3
    subst c3
    have H1 : (some 0) = some r := by rw [if_neg (show ¬ (false = true) by decide)] at H; exact H
    clear H
    have H := H1
    clear H1
    obtain rfl := Option.some.inj H
    go_enter Try.func26, Try.ntmps26
    go_wp2_with (first | ((with_reducible refine gate_dst (N := 1) rfl ?_); refine box_event ?hg (N := 1) ?hd (cs := #[.int .i64 a0_0, .int .i64 a0_1, .slice A0_2 l0_2.length c0_2]) (t := 38) ?hr ?_; (case hd => rfl); (case hg => rfl); (case hr => first|(go_simp;done)|(go_simp;rfl)); intro gb146 hg w10 hbox hb; have n0_ := am_ (below_step (hb_ HB.out) hb); have n1_ := am_ (hbox); have n2_ := am_ (hy_ hg (hb_ HB.out) : w.heap.size ≤ gb146); have n3_ := am_ (hy_ hg (hb_ HB.out) : w.heap.size ≤ gb146); clear HB; have HB := n0_; have BK146 := n1_; have GW146 := n2_; have GE146 := n3_; clear n0_ n1_ n2_ n3_; clear hb hbox hg; have hcz11_0 := bc_ BK146.out 0 (.int .i64 a0_0) rfl; have hcz11_1 := bc_ BK146.out 1 (.int .i64 a0_1) rfl; have hcz11_2 := bc_ BK146.out 2 (.slice A0_2 l0_2.length c0_2) rfl; have hfz11_0 := blk_frozen BK146.out 0; have hfz11_1 := blk_frozen BK146.out 1; have hfz11_2 := blk_frozen BK146.out 2) | ((with_reducible refine gate_callee (f := 39) rfl ?_); refine goesL_ (some 4) rfl rfl Try.func39 (by kernel_rfl) rfl #[.agg #[.int .i64 a0_0, .int .i64 a0_1, .slice A0_2 l0_2.length c0_2]] rfl arr_ ?_; (with_reducible refine (spec_PlanOk.calls k a0_0 a0_1 _ _ l0_2 false _ ?side1 ?side2 A2.out).mono ?_); (case side1 => exact kc_ (Kd.C_below HR0_2.out HB.out)); (case side2 => exact HC0_2.out); rintro e w12 ⟨rfl, hb⟩; refine ⟨_, rfl, ?_⟩; have n0_ := am_ (bb_ BK146.out hb); have n1_ := am_ (below_step (hb1_ HB.out GE146.out) hb); clear BK146; clear HB; have BK146 := n0_; have HB := n1_; clear n0_ n1_; (try clear hb); (try clear hb2); (try clear hk); (try clear hi)))
    go_ret
    exact ⟨er_, hb1_ HB.out GE146.out⟩
def spec_l13Slot.f (k : Nat) (a0_0 : Int) (a0_1 : Int) (l0_2 : List (S55)) (a1 : Int) : Option (Bool) := (spec_PlanOk.f k a0_0 a0_1 l0_2).bind fun t150 => (if t150 = true then ((spec_l1In.f a1 0 (wrap64 ((l0_2.length : Int) - 1))).bind fun t151 => (some t151)) else (some false))
theorem spec_l13Slot.mono : ∀ a0 a1 a2 a3 k, LeO (spec_l13Slot.f k a0 a1 a2 a3) (spec_l13Slot.f (k + 1) a0 a1 a2 a3) := by
  intro a0 a1 a2 a3 k
  unfold spec_l13Slot.f
  repeat' first
      | (with_reducible exact spec_PlanOk.mono _ _ _ _)
      | (with_reducible exact LeO.refl _)
      | (with_reducible exact LeO.none _)
      | (with_reducible refine LeO.ite ?_ ?_)
      | (with_reducible refine LeO.bind ?_ (fun _ => ?_))
      | exact spec_PlanOk.mono _ _ _ _
      | exact LeO.none _
      | refine LeO.ite ?_ ?_
      | refine LeO.bind ?_ (fun _ => ?_)
set_option maxHeartbeats 8000000 in
set_option maxRecDepth 100000 in
theorem spec_l13Slot.calls (k : Nat) (a0_0 : Int) (a0_1 : Int) (A0_2 : Option Addr) (c0_2 : Nat) (l0_2 : List (S55)) (a1 : Int) (r : Bool) (w : World) (hr0_2 : Kd.C k55 w A0_2 l0_2.length l0_2) (hc0_2 : l0_2.length ≤ c0_2) (h : spec_l13Slot.f k a0_0 a0_1 l0_2 a1 = some r) :
    Calls Try.prog 73 #[.agg #[.int .i64 a0_0, .int .i64 a0_1, .slice A0_2 l0_2.length c0_2], .int .i64 a1] w fun e w' => e = .returned (.bool r) ∧ Below w.heap.size w w' := by
  have hu38 := Try.underlying38
  have HR0_2 := Aside0.mk hr0_2
  have HC0_2 := Aside0.mk hc0_2
  clear hr0_2 hc0_2
  have HB := am_ (Below.refl w.heap.size w)
  have H : ((spec_PlanOk.f k a0_0 a0_1 l0_2).bind fun t150 => (if t150 = true then ((spec_l1In.f a1 0 (wrap64 ((l0_2.length : Int) - 1))).bind fun t151 => (some t151)) else (some false))) = some r := h
  clear h
  replace H := Option.bind_eq_some_iff.mp H
  obtain ⟨t150, A30, H⟩ := H
  replace H : (if t150 = true then ((spec_l1In.f a1 0 (wrap64 ((l0_2.length : Int) - 1))).bind fun t151 => (some t151)) else (some false)) = some r := H
  have A3 := Aside0.mk A30
  clear A30
  by_cases c4 : t150 = true
  · subst c4
    have H1 : ((spec_l1In.f a1 0 (wrap64 ((l0_2.length : Int) - 1))).bind fun t151 => (some t151)) = some r := by rw [if_pos rfl] at H; exact H
    clear H
    have H := H1
    clear H1
    replace H := Option.bind_eq_some_iff.mp H
    obtain ⟨t151, A50, H⟩ := H
    replace H : (some t151) = some r := H
    have A5 := Aside0.mk A50
    clear A50
    obtain rfl := Option.some.inj H
    go_enter Try.func73, Try.ntmps73
    go_wp2_with (first | ((with_reducible refine gate_dst (N := 2) rfl ?_); (try (refine gate_guard (by rfl) ?_; dsimp only)); refine box_event ?hg (N := 2) ?hd (cs := #[.int .i64 a0_0, .int .i64 a0_1, .slice A0_2 l0_2.length c0_2]) (t := 38) ?hr ?_; (case hd => rfl); (case hg => rfl); (case hr => first|(go_simp;done)|(go_simp;rfl)); intro gb149 hg w6 hbox hb; have n0_ := am_ (below_step (hb_ HB.out) hb); have n1_ := am_ (hbox); have n2_ := am_ (hy_ hg (hb_ HB.out) : w.heap.size ≤ gb149); have n3_ := am_ (hy_ hg (hb_ HB.out) : w.heap.size ≤ gb149); clear HB; have HB := n0_; have BK149 := n1_; have GW149 := n2_; have GE149 := n3_; clear n0_ n1_ n2_ n3_; clear hb hbox hg; have hcz7_0 := bc_ BK149.out 0 (.int .i64 a0_0) rfl; have hcz7_1 := bc_ BK149.out 1 (.int .i64 a0_1) rfl; have hcz7_2 := bc_ BK149.out 2 (.slice A0_2 l0_2.length c0_2) rfl; have hfz7_0 := blk_frozen BK149.out 0; have hfz7_1 := blk_frozen BK149.out 1; have hfz7_2 := blk_frozen BK149.out 2) | ((with_reducible refine gate_callee (f := 39) rfl ?_); refine goesL_ (some 6) rfl rfl Try.func39 (by kernel_rfl) rfl #[.agg #[.int .i64 a0_0, .int .i64 a0_1, .slice A0_2 l0_2.length c0_2]] rfl arr_ ?_; (with_reducible refine (spec_PlanOk.calls k a0_0 a0_1 _ _ l0_2 true _ ?side1 ?side2 A3.out).mono ?_); (case side1 => exact kc_ (Kd.C_below HR0_2.out HB.out)); (case side2 => exact HC0_2.out); rintro e w8 ⟨rfl, hb⟩; refine ⟨_, rfl, ?_⟩; have n0_ := am_ (bb_ BK149.out hb); have n1_ := am_ (below_step (hb1_ HB.out GE149.out) hb); clear BK149; clear HB; have BK149 := n0_; have HB := n1_; clear n0_ n1_; (try clear hb); (try clear hb2); (try clear hk); (try clear hi); have hcz9_0 := bc_ BK149.out 0 (.int .i64 a0_0) rfl; have hcz9_1 := bc_ BK149.out 1 (.int .i64 a0_1) rfl; have hcz9_2 := bc_ BK149.out 2 (.slice A0_2 l0_2.length c0_2) rfl; have hfz9_0 := blk_frozen BK149.out 0; have hfz9_1 := blk_frozen BK149.out 1; have hfz9_2 := blk_frozen BK149.out 2) | (go_at_call 38; (with_reducible refine (spec_l1In.calls a1 0 (wrap64 ((l0_2.length : Int) - 1)) t151 _ A5.out).mono ?_); rintro e w' ⟨rfl, ⟨nd, rfl⟩⟩))
    go_ret
    exact ⟨er_, hb1_ HB.out GE149.out⟩
  · replace c4 := Bool.eq_false_iff.mpr c4
    subst c4
    have H1 : (some false) = some r := by rw [if_neg (show ¬ (false = true) by decide)] at H; exact H
    clear H
    have H := H1
    clear H1
    obtain rfl := Option.some.inj H
    go_enter Try.func73, Try.ntmps73
    go_wp2_with (first | ((with_reducible refine gate_dst (N := 2) rfl ?_); (try (refine gate_guard (by rfl) ?_; dsimp only)); refine box_event ?hg (N := 2) ?hd (cs := #[.int .i64 a0_0, .int .i64 a0_1, .slice A0_2 l0_2.length c0_2]) (t := 38) ?hr ?_; (case hd => rfl); (case hg => rfl); (case hr => first|(go_simp;done)|(go_simp;rfl)); intro gb149 hg w10 hbox hb; have n0_ := am_ (below_step (hb_ HB.out) hb); have n1_ := am_ (hbox); have n2_ := am_ (hy_ hg (hb_ HB.out) : w.heap.size ≤ gb149); have n3_ := am_ (hy_ hg (hb_ HB.out) : w.heap.size ≤ gb149); clear HB; have HB := n0_; have BK149 := n1_; have GW149 := n2_; have GE149 := n3_; clear n0_ n1_ n2_ n3_; clear hb hbox hg; have hcz11_0 := bc_ BK149.out 0 (.int .i64 a0_0) rfl; have hcz11_1 := bc_ BK149.out 1 (.int .i64 a0_1) rfl; have hcz11_2 := bc_ BK149.out 2 (.slice A0_2 l0_2.length c0_2) rfl; have hfz11_0 := blk_frozen BK149.out 0; have hfz11_1 := blk_frozen BK149.out 1; have hfz11_2 := blk_frozen BK149.out 2) | ((with_reducible refine gate_callee (f := 39) rfl ?_); refine goesL_ (some 6) rfl rfl Try.func39 (by kernel_rfl) rfl #[.agg #[.int .i64 a0_0, .int .i64 a0_1, .slice A0_2 l0_2.length c0_2]] rfl arr_ ?_; (with_reducible refine (spec_PlanOk.calls k a0_0 a0_1 _ _ l0_2 false _ ?side1 ?side2 A3.out).mono ?_); (case side1 => exact kc_ (Kd.C_below HR0_2.out HB.out)); (case side2 => exact HC0_2.out); rintro e w12 ⟨rfl, hb⟩; refine ⟨_, rfl, ?_⟩; have n0_ := am_ (bb_ BK149.out hb); have n1_ := am_ (below_step (hb1_ HB.out GE149.out) hb); clear BK149; clear HB; have BK149 := n0_; have HB := n1_; clear n0_ n1_; (try clear hb); (try clear hb2); (try clear hk); (try clear hi)))
    go_ret
    exact ⟨er_, hb1_ HB.out GE149.out⟩
def spec_Occurrence.j0 : Nat → Int → Int → Bool → Int → Int → List (S55) → Option (Int × Int × Bool)
  | 0, _, _, _, _, _, _ => none
  | k + 1, x1, x2, x24, x153000, x153001, x153002 => if x24 = true then (some (0, 0, false)) else ((spec_RoundOf.f k x153000 x153001 x153002).bind fun t157 => ((spec_l13Upto.f k x153000 x153001 x153002 x1).bind fun t158 => (if 0 ≤ x1 then (if x1 < (x153002.length : Int) then ((spec_l1Told.f (wrap64 ((wrap64 (x153000 + (wrap64 (x2 * t157)))) + t158)) (wrap64 ((wrap64 ((wrap64 (x153000 + (wrap64 (x2 * t157)))) + t158)) + ((rd_T55 x153002 x1).f1)))).bind fun bt160 => (some (bt160.1, bt160.2.1, bt160.2.2))) else (none)) else (none))))
def spec_Occurrence.f (k : Nat) (a0_0 : Int) (a0_1 : Int) (l0_2 : List (S55)) (a1 : Int) (a2 : Int) : Option (Int × Int × Bool) := (spec_l13Slot.f k a0_0 a0_1 l0_2 a1).bind fun t154 => (if t154 = true then ((spec_l1In.f a2 0 1000000000000).bind fun t155 => (if t155 = true then ((spec_RoundOf.f k a0_0 a0_1 l0_2).bind fun t156 => (if t156 = 0 then (none) else (spec_Occurrence.j0 k a1 a2 (decide (a2 > (wrap64 (Int.tdiv (1000000000000 : Int) t156)))) a0_0 a0_1 l0_2))) else (spec_Occurrence.j0 k a1 a2 true a0_0 a0_1 l0_2))) else (spec_Occurrence.j0 k a1 a2 true a0_0 a0_1 l0_2))
theorem spec_Occurrence.mono_l : ∀ k, (∀ y0 y1 y2 y3 y4 y5, LeO (spec_Occurrence.j0 k y0 y1 y2 y3 y4 y5) (spec_Occurrence.j0 (k + 1) y0 y1 y2 y3 y4 y5))
  | 0 => fun _ _ _ _ _ _ r h => by simp [spec_Occurrence.j0] at h
  | k + 1 => by
    have ih0 := spec_Occurrence.mono_l k
    · intro y0 y1 y2 y3 y4 y5
      unfold spec_Occurrence.j0
      repeat' first
      | (with_reducible exact ih0 _ _ _ _ _ _)
      | (with_reducible exact spec_RoundOf.mono _ _ _ _)
      | (with_reducible exact spec_l13Slot.mono _ _ _ _ _)
      | (with_reducible exact spec_l13Upto.mono _ _ _ _ _)
      | (with_reducible exact LeO.refl _)
      | (with_reducible exact LeO.none _)
      | (with_reducible refine LeO.ite ?_ ?_)
      | (with_reducible refine LeO.bind ?_ (fun _ => ?_))
      | exact ih0 _ _ _ _ _ _
      | exact spec_RoundOf.mono _ _ _ _
      | exact spec_l13Slot.mono _ _ _ _ _
      | exact spec_l13Upto.mono _ _ _ _ _
      | exact LeO.none _
      | refine LeO.ite ?_ ?_
      | refine LeO.bind ?_ (fun _ => ?_)
theorem spec_Occurrence.mono : ∀ a0 a1 a2 a3 a4 k, LeO (spec_Occurrence.f k a0 a1 a2 a3 a4) (spec_Occurrence.f (k + 1) a0 a1 a2 a3 a4) := by
  intro a0 a1 a2 a3 a4 k
  have ih0 := spec_Occurrence.mono_l k
  unfold spec_Occurrence.f
  repeat' first
      | (with_reducible exact ih0 _ _ _ _ _ _)
      | (with_reducible exact spec_RoundOf.mono _ _ _ _)
      | (with_reducible exact spec_l13Slot.mono _ _ _ _ _)
      | (with_reducible exact spec_l13Upto.mono _ _ _ _ _)
      | (with_reducible exact LeO.refl _)
      | (with_reducible exact LeO.none _)
      | (with_reducible refine LeO.ite ?_ ?_)
      | (with_reducible refine LeO.bind ?_ (fun _ => ?_))
      | exact ih0 _ _ _ _ _ _
      | exact spec_RoundOf.mono _ _ _ _
      | exact spec_l13Slot.mono _ _ _ _ _
      | exact spec_l13Upto.mono _ _ _ _ _
      | exact LeO.none _
      | refine LeO.ite ?_ ?_
      | refine LeO.bind ?_ (fun _ => ?_)
def spec_Occurrence.T3 : Bool × List (List Nat × List Nat) := (true, [([], []), ([0], [0]), ([], []), ([], []), ([3], [3]), ([2, 4], [2, 4]), ([1, 5], [1, 5]), ([], []), ([], []), ([7, 8, 4], [7, 8]), ([6, 9], [6, 9]), ([10, 9, 0, 1, 2, 3, 4, 5, 6, 7, 8, 9, 10], [10])])
def spec_Occurrence.B3 : List Nat := [0, 1, 0, 0, 8, 28, 63, 0, 0, 408, 1023, 2047]
theorem spec_Occurrence.tab3 : rtab .any (opsOf Try.f27 3) = spec_Occurrence.T3 := by kernel_rfl
theorem spec_Occurrence.bits3 : waitsOk spec_Occurrence.T3.2 spec_Occurrence.B3 = true := by kernel_rfl
set_option maxHeartbeats 8000000 in
set_option maxRecDepth 100000 in
theorem spec_Occurrence.calls (k : Nat) (a0_0 : Int) (a0_1 : Int) (A0_2 : Option Addr) (c0_2 : Nat) (l0_2 : List (S55)) (a1 : Int) (a2 : Int) (r1 : Int) (r2 : Int) (r3 : Bool) (w : World) (hr0_2 : Kd.C k55 w A0_2 l0_2.length l0_2) (hc0_2 : l0_2.length ≤ c0_2) (h : spec_Occurrence.f k a0_0 a0_1 l0_2 a1 a2 = some (r1, r2, r3)) :
    Calls Try.prog 27 #[.agg #[.int .i64 a0_0, .int .i64 a0_1, .slice A0_2 l0_2.length c0_2], .int .i64 a1, .int .i64 a2] w fun e w' => e = .returned (.tuple #[.agg #[.int .i64 r1, .int .i64 r2], .bool r3]) ∧ Below w.heap.size w w' := by
  have hu38 := Try.underlying38
  have hu32 := Try.underlying32
  have HR0_2 := Aside0.mk hr0_2
  have HC0_2 := Aside0.mk hc0_2
  clear hr0_2 hc0_2
  have HB := am_ (Below.refl w.heap.size w)
  have H : ((spec_l13Slot.f k a0_0 a0_1 l0_2 a1).bind fun t154 => (if t154 = true then ((spec_l1In.f a2 0 1000000000000).bind fun t155 => (if t155 = true then ((spec_RoundOf.f k a0_0 a0_1 l0_2).bind fun t156 => (if t156 = 0 then (none) else (spec_Occurrence.j0 k a1 a2 (decide (a2 > (wrap64 (Int.tdiv (1000000000000 : Int) t156)))) a0_0 a0_1 l0_2))) else (spec_Occurrence.j0 k a1 a2 true a0_0 a0_1 l0_2))) else (spec_Occurrence.j0 k a1 a2 true a0_0 a0_1 l0_2))) = some (r1, r2, r3) := h
  clear h
  have HC4 := Aside0.mk H
  clear H
  go_enter Try.func27, Try.ntmps27
  go_upto_region 1 with (first | ((with_reducible refine gate_dst (N := 3) rfl ?_); refine box_event ?hg (N := 3) ?hd (cs := #[.int .i64 a0_0, .int .i64 a0_1, .slice A0_2 l0_2.length c0_2]) (t := 38) ?hr ?_; (case hd => rfl); (case hg => rfl); (case hr => first|(go_simp;done)|(go_simp;rfl)); intro gb152 hg w5 hbox hb; have n0_ := am_ (below_step (hb_ HB.out) hb); have n1_ := am_ (hbox); have n2_ := am_ (hy_ hg (hb_ HB.out) : w.heap.size ≤ gb152); have n3_ := am_ (hy_ hg (hb_ HB.out) : w.heap.size ≤ gb152); clear HB; have HB := n0_; have BK152 := n1_; have GW152 := n2_; have GE152 := n3_; clear n0_ n1_ n2_ n3_; clear hb hbox hg) | ((with_reducible refine gate_dst (N := 6) rfl ?_); refine box_event ?hg (N := 6) ?hd (cs := #[.int .i64 0, .int .i64 0]) (t := 32) ?hr ?_; (case hd => rfl); (case hg => rfl); (case hr => first|(go_simp;done)|(go_simp;rfl)); intro gb153 hg w6 hbox hb; have n0_ := am_ (bb_ BK152.out hb); have n1_ := am_ (below_step (hb1_ HB.out GE152.out) hb); have n2_ := am_ (hbox); have n3_ := am_ (hy_ hg (hb1_ HB.out GE152.out) : w.heap.size ≤ gb153); have n4_ := am_ (hy_ hg (hb1_ HB.out GE152.out) : w.heap.size ≤ gb153); have n5_ := am_ ((bl_ hg BK152.out : gb152 ≠ gb153)); have n6_ := am_ ((bg_ hg BK152.out : gb153 ≠ gb152)); clear BK152; clear HB; have BK152 := n0_; have HB := n1_; have BK153 := n2_; have GW153 := n3_; have GE153 := n4_; have NB152_153 := n5_; have NB153_152 := n6_; clear n0_ n1_ n2_ n3_ n4_ n5_ n6_; clear hb hbox hg))
  (try simp only [Act.put, List.setIfInBounds_toArray, List.set_cons_zero, List.set_cons_succ])
  go_cut [24] (fun v24 wc => ∃ (kq : Nat) (x24_3 : Bool), v24 = .bool x24_3 ∧ Aside0 (spec_Occurrence.j0 kq a1 a2 x24_3 a0_0 a0_1 l0_2 = some (r1, r2, r3)) ∧ Aside0 (kq ≤ k) ∧ Aside0 (wc.heap[gb152]? = some (.cells #[.int .i64 a0_0, .int .i64 a0_1, (.slice A0_2 l0_2.length c0_2)] 38 (0, 0))) ∧ Aside0 (wc.heap[gb153]? = some (.cells #[.int .i64 0, .int .i64 0] 32 (0, 0))) ∧ Aside0 (Below w.heap.size w wc))
  case first =>
    have H := HC4.out
    clear HC4
    replace H := Option.bind_eq_some_iff.mp H
    obtain ⟨t154, A70, H⟩ := H
    replace H : (if t154 = true then ((spec_l1In.f a2 0 1000000000000).bind fun t155 => (if t155 = true then ((spec_RoundOf.f k a0_0 a0_1 l0_2).bind fun t156 => (if t156 = 0 then (none) else (spec_Occurrence.j0 k a1 a2 (decide (a2 > (wrap64 (Int.tdiv (1000000000000 : Int) t156)))) a0_0 a0_1 l0_2))) else (spec_Occurrence.j0 k a1 a2 true a0_0 a0_1 l0_2))) else (spec_Occurrence.j0 k a1 a2 true a0_0 a0_1 l0_2)) = some (r1, r2, r3) := H
    have A7 := Aside0.mk A70
    clear A70
    by_cases c8 : t154 = true
    · subst c8
      have H1 : ((spec_l1In.f a2 0 1000000000000).bind fun t155 => (if t155 = true then ((spec_RoundOf.f k a0_0 a0_1 l0_2).bind fun t156 => (if t156 = 0 then (none) else (spec_Occurrence.j0 k a1 a2 (decide (a2 > (wrap64 (Int.tdiv (1000000000000 : Int) t156)))) a0_0 a0_1 l0_2))) else (spec_Occurrence.j0 k a1 a2 true a0_0 a0_1 l0_2))) = some (r1, r2, r3) := by rw [if_pos rfl] at H; exact H
      clear H
      have H := H1
      clear H1
      replace H := Option.bind_eq_some_iff.mp H
      obtain ⟨t155, A90, H⟩ := H
      replace H : (if t155 = true then ((spec_RoundOf.f k a0_0 a0_1 l0_2).bind fun t156 => (if t156 = 0 then (none) else (spec_Occurrence.j0 k a1 a2 (decide (a2 > (wrap64 (Int.tdiv (1000000000000 : Int) t156)))) a0_0 a0_1 l0_2))) else (spec_Occurrence.j0 k a1 a2 true a0_0 a0_1 l0_2)) = some (r1, r2, r3) := H
      have A9 := Aside0.mk A90
      clear A90
      by_cases c10 : t155 = true
      · subst c10
        have H1 : ((spec_RoundOf.f k a0_0 a0_1 l0_2).bind fun t156 => (if t156 = 0 then (none) else (spec_Occurrence.j0 k a1 a2 (decide (a2 > (wrap64 (Int.tdiv (1000000000000 : Int) t156)))) a0_0 a0_1 l0_2))) = some (r1, r2, r3) := by rw [if_pos rfl] at H; exact H
        clear H
        have H := H1
        clear H1
        replace H := Option.bind_eq_some_iff.mp H
        obtain ⟨t156, A110, H⟩ := H
        replace H : (if t156 = 0 then (none) else (spec_Occurrence.j0 k a1 a2 (decide (a2 > (wrap64 (Int.tdiv (1000000000000 : Int) t156)))) a0_0 a0_1 l0_2)) = some (r1, r2, r3) := H
        have A11 := Aside0.mk A110
        clear A110
        by_cases c12 : t156 = 0
        · rw [if_pos c12] at H
          exact absurd H (by simp)
        · rw [if_neg c12] at H
          have c12b0 : (t156 == 0) = false := beq_eq_false_iff_ne.mpr c12
          have c12b1 : (t156 != 0) = true := bne_iff_ne.mpr c12
          (first | rw [c12b0] | (simp only [i64_w, i32_w]; rw [c12b0]) | skip)
          have H' := Aside0.mk H
          clear H
          have hnb13 := NB152_153.out
          have hnc13 := NB153_152.out
          have hcz14_0 := bc_ BK152.out 0 (.int .i64 a0_0) rfl
          have hcz14_1 := bc_ BK152.out 1 (.int .i64 a0_1) rfl
          have hcz14_2 := bc_ BK152.out 2 (.slice A0_2 l0_2.length c0_2) rfl
          have hfz14_0 := blk_frozen BK152.out 0
          have hfz14_1 := blk_frozen BK152.out 1
          have hfz14_2 := blk_frozen BK152.out 2
          go_wp2_with (first | ((with_reducible refine gate_callee (f := 73) rfl ?_); refine goesL_ (some 11) rfl rfl Try.func73 (by kernel_rfl) rfl #[.agg #[.int .i64 a0_0, .int .i64 a0_1, .slice A0_2 l0_2.length c0_2], .int .i64 a1] rfl arr_ ?_; (with_reducible refine (spec_l13Slot.calls k a0_0 a0_1 _ _ l0_2 a1 true _ ?side1 ?side2 A7.out).mono ?_); (case side1 => exact kc_ (Kd.C_below HR0_2.out HB.out)); (case side2 => exact HC0_2.out); rintro e w15 ⟨rfl, hb⟩; refine ⟨_, rfl, ?_⟩; have n0_ := am_ (bb_ BK152.out hb); have n1_ := am_ (bb_ BK153.out hb); have n2_ := am_ (below_step (hb2_ HB.out GE152.out GE153.out) hb); clear BK152; clear BK153; clear HB; have BK152 := n0_; have BK153 := n1_; have HB := n2_; clear n0_ n1_ n2_; (try clear hb); (try clear hb2); (try clear hk); (try clear hi)) | (go_at_call 38; (with_reducible refine (spec_l1In.calls a2 0 1000000000000 true _ A9.out).mono ?_); rintro e w' ⟨rfl, ⟨nd, rfl⟩⟩; have hcz16_0 := bc_ BK152.out 0 (.int .i64 a0_0) rfl; have hcz16_1 := bc_ BK152.out 1 (.int .i64 a0_1) rfl; have hcz16_2 := bc_ BK152.out 2 (.slice A0_2 l0_2.length c0_2) rfl; have hfz16_0 := blk_frozen BK152.out 0; have hfz16_1 := blk_frozen BK152.out 1; have hfz16_2 := blk_frozen BK152.out 2) | (go_at_call 26; (with_reducible refine (spec_RoundOf.calls k a0_0 a0_1 _ _ l0_2 t156 _ ?side1 ?side2 A11.out).mono ?_); (case side1 => repeat (first | exact (Kd.C_below HR0_2.out (hb2_ HB.out GE152.out GE153.out)) | (with_reducible refine Kd.C_alloc ?_ _) | (with_reducible refine Kd.C_drewN ?_ _) | (with_reducible refine Kd.C_drew ?_))); (case side2 => exact HC0_2.out); rintro e w17 ⟨rfl, hb⟩; have n0_ := am_ (bb_ BK152.out hb); have n1_ := am_ (bb_ BK153.out hb); have n2_ := am_ (below_step (hb2_ HB.out GE152.out GE153.out) hb); clear BK152; clear BK153; clear HB; have BK152 := n0_; have BK153 := n1_; have HB := n2_; clear n0_ n1_ n2_; (try clear hb); (try clear hb2); (try clear hk); (try clear hi)))
          go_meet
          case rel => exact ⟨_, (decide (a2 > (wrap64 (Int.tdiv (1000000000000 : Int) t156)))), (by first | rfl | (simp; done) | (simp [*]; done)), H', ⟨by first | omega | exact Nat.le_refl _⟩, ⟨bk_ BK152.out⟩, ⟨bk_ BK153.out⟩, ⟨hb2_ HB.out GE152.out GE153.out⟩⟩
      · replace c10 := Bool.eq_false_iff.mpr c10
        subst c10
        have H1 : (spec_Occurrence.j0 k a1 a2 true a0_0 a0_1 l0_2) = some (r1, r2, r3) := by rw [if_neg (show ¬ (false = true) by decide)] at H; exact H
        clear H
        have H := H1
        clear H1
        have H' := Aside0.mk H
        clear H
        have hnb18 := NB152_153.out
        have hnc18 := NB153_152.out
        have hcz19_0 := bc_ BK152.out 0 (.int .i64 a0_0) rfl
        have hcz19_1 := bc_ BK152.out 1 (.int .i64 a0_1) rfl
        have hcz19_2 := bc_ BK152.out 2 (.slice A0_2 l0_2.length c0_2) rfl
        have hfz19_0 := blk_frozen BK152.out 0
        have hfz19_1 := blk_frozen BK152.out 1
        have hfz19_2 := blk_frozen BK152.out 2
        go_wp2_with (first | ((with_reducible refine gate_callee (f := 73) rfl ?_); refine goesL_ (some 11) rfl rfl Try.func73 (by kernel_rfl) rfl #[.agg #[.int .i64 a0_0, .int .i64 a0_1, .slice A0_2 l0_2.length c0_2], .int .i64 a1] rfl arr_ ?_; (with_reducible refine (spec_l13Slot.calls k a0_0 a0_1 _ _ l0_2 a1 true _ ?side1 ?side2 A7.out).mono ?_); (case side1 => exact kc_ (Kd.C_below HR0_2.out HB.out)); (case side2 => exact HC0_2.out); rintro e w20 ⟨rfl, hb⟩; refine ⟨_, rfl, ?_⟩; have n0_ := am_ (bb_ BK152.out hb); have n1_ := am_ (bb_ BK153.out hb); have n2_ := am_ (below_step (hb2_ HB.out GE152.out GE153.out) hb); clear BK152; clear BK153; clear HB; have BK152 := n0_; have BK153 := n1_; have HB := n2_; clear n0_ n1_ n2_; (try clear hb); (try clear hb2); (try clear hk); (try clear hi)) | (go_at_call 38; (with_reducible refine (spec_l1In.calls a2 0 1000000000000 false _ A9.out).mono ?_); rintro e w' ⟨rfl, ⟨nd, rfl⟩⟩))
        go_meet
        case rel => exact ⟨_, (true), (by first | rfl | (simp; done) | (simp [*]; done)), H', ⟨by first | omega | exact Nat.le_refl _⟩, ⟨bk_ BK152.out⟩, ⟨bk_ BK153.out⟩, ⟨hb2_ HB.out GE152.out GE153.out⟩⟩
    · replace c8 := Bool.eq_false_iff.mpr c8
      subst c8
      have H1 : (spec_Occurrence.j0 k a1 a2 true a0_0 a0_1 l0_2) = some (r1, r2, r3) := by rw [if_neg (show ¬ (false = true) by decide)] at H; exact H
      clear H
      have H := H1
      clear H1
      have H' := Aside0.mk H
      clear H
      have hnb21 := NB152_153.out
      have hnc21 := NB153_152.out
      have hcz22_0 := bc_ BK152.out 0 (.int .i64 a0_0) rfl
      have hcz22_1 := bc_ BK152.out 1 (.int .i64 a0_1) rfl
      have hcz22_2 := bc_ BK152.out 2 (.slice A0_2 l0_2.length c0_2) rfl
      have hfz22_0 := blk_frozen BK152.out 0
      have hfz22_1 := blk_frozen BK152.out 1
      have hfz22_2 := blk_frozen BK152.out 2
      go_wp2_with (first | ((with_reducible refine gate_callee (f := 73) rfl ?_); refine goesL_ (some 11) rfl rfl Try.func73 (by kernel_rfl) rfl #[.agg #[.int .i64 a0_0, .int .i64 a0_1, .slice A0_2 l0_2.length c0_2], .int .i64 a1] rfl arr_ ?_; (with_reducible refine (spec_l13Slot.calls k a0_0 a0_1 _ _ l0_2 a1 false _ ?side1 ?side2 A7.out).mono ?_); (case side1 => exact kc_ (Kd.C_below HR0_2.out HB.out)); (case side2 => exact HC0_2.out); rintro e w23 ⟨rfl, hb⟩; refine ⟨_, rfl, ?_⟩; have n0_ := am_ (bb_ BK152.out hb); have n1_ := am_ (bb_ BK153.out hb); have n2_ := am_ (below_step (hb2_ HB.out GE152.out GE153.out) hb); clear BK152; clear BK153; clear HB; have BK152 := n0_; have BK153 := n1_; have HB := n2_; clear n0_ n1_ n2_; (try clear hb); (try clear hb2); (try clear hk); (try clear hi)))
      go_meet
      case rel => exact ⟨_, (true), (by first | rfl | (simp; done) | (simp [*]; done)), H', ⟨by first | omega | exact Nat.le_refl _⟩, ⟨bk_ BK152.out⟩, ⟨bk_ BK153.out⟩, ⟨hb2_ HB.out GE152.out GE153.out⟩⟩
  case rest =>
    clear HC4
    try clear c1
    try clear c2
    try clear p2
    try clear p6
    try clear c7
    try clear c8
    try clear c10
    try clear c12
    try clear c12b0
    try clear c12b1
    try clear c13
    try clear c18
    try clear c21
    try clear hcz14_0
    try clear hcz14_1
    try clear hcz14_2
    try clear hcz16_0
    try clear hcz16_1
    try clear hcz16_2
    try clear hcz19_0
    try clear hcz19_1
    try clear hcz19_2
    try clear hcz22_0
    try clear hcz22_1
    try clear hcz22_2
    try clear hfz14_0
    try clear hfz14_1
    try clear hfz14_2
    try clear hfz16_0
    try clear hfz16_1
    try clear hfz16_2
    try clear hfz19_0
    try clear hfz19_1
    try clear hfz19_2
    try clear hfz22_0
    try clear hfz22_1
    try clear hfz22_2
    obtain ⟨kq, x24_3, rfl, HA, HJ3, BK152, BK153, HB⟩ := hcut
    cases kq with
    | zero => exact absurd HA.out (by simp [spec_Occurrence.j0])
    | succ kj3 =>
      have H := HA.out
      clear HA
      simp only [spec_Occurrence.j0] at H
      by_cases c24 : x24_3 = true
      · subst c24
        have H1 : (some (0, 0, false)) = some (r1, r2, r3) := by rw [if_pos rfl] at H; exact H
        clear H
        have H := H1
        clear H1
        simp only [Option.some.injEq, Prod.mk.injEq] at H
        obtain ⟨rfl, rfl, rfl⟩ := H
        have hnb25 := NB153_152.out
        have hnc25 := NB152_153.out
        have hcz26_0 := bc_ BK153.out 0 (.int .i64 0) rfl
        have hcz26_1 := bc_ BK153.out 1 (.int .i64 0) rfl
        have hfz26_0 := blk_frozen BK153.out 0
        have hfz26_1 := blk_frozen BK153.out 1
        go_wp2
        refine bodyPost_ret (results_ct rfl _ _ gb153 32 #[.int .i64 0, .int .i64 0] (0, 0) _ rfl (by (with_reducible repeat (first | refine blk_drewN ?_ _ | refine blk_drew ?_ | refine blk_alloc ?_ _)); refine blk_put (cs := #[.int .i64 0, .int .i64 0]) ?_ 1 _ rfl; (with_reducible repeat (first | refine blk_drewN ?_ _ | refine blk_drew ?_ | refine blk_alloc ?_ _)); refine blk_put (cs := #[.int .i64 0, .int .i64 0]) ?_ 0 _ rfl; (with_reducible repeat (first | refine blk_drewN ?_ _ | refine blk_drew ?_ | refine blk_alloc ?_ _)); exact BK153.out) Try.underlying32 rfl (by kernel_rfl)) rfl ?_
        exact ⟨er_, hb2_ HB.out GE152.out GE153.out⟩
      · replace c24 := Bool.eq_false_iff.mpr c24
        subst c24
        have H1 : ((spec_RoundOf.f kj3 a0_0 a0_1 l0_2).bind fun t157 => ((spec_l13Upto.f kj3 a0_0 a0_1 l0_2 a1).bind fun t158 => (if 0 ≤ a1 then (if a1 < (l0_2.length : Int) then ((spec_l1Told.f (wrap64 ((wrap64 (a0_0 + (wrap64 (a2 * t157)))) + t158)) (wrap64 ((wrap64 ((wrap64 (a0_0 + (wrap64 (a2 * t157)))) + t158)) + ((rd_T55 l0_2 a1).f1)))).bind fun bt160 => (some (bt160.1, bt160.2.1, bt160.2.2))) else (none)) else (none)))) = some (r1, r2, r3) := by rw [if_neg (show ¬ (false = true) by decide)] at H; exact H
        clear H
        have H := H1
        clear H1
        replace H := Option.bind_eq_some_iff.mp H
        obtain ⟨t157, A270, H⟩ := H
        replace H : ((spec_l13Upto.f kj3 a0_0 a0_1 l0_2 a1).bind fun t158 => (if 0 ≤ a1 then (if a1 < (l0_2.length : Int) then ((spec_l1Told.f (wrap64 ((wrap64 (a0_0 + (wrap64 (a2 * t157)))) + t158)) (wrap64 ((wrap64 ((wrap64 (a0_0 + (wrap64 (a2 * t157)))) + t158)) + ((rd_T55 l0_2 a1).f1)))).bind fun bt160 => (some (bt160.1, bt160.2.1, bt160.2.2))) else (none)) else (none))) = some (r1, r2, r3) := H
        have A27 := Aside0.mk A270
        clear A270
        replace H := Option.bind_eq_some_iff.mp H
        obtain ⟨t158, A280, H⟩ := H
        replace H : (if 0 ≤ a1 then (if a1 < (l0_2.length : Int) then ((spec_l1Told.f (wrap64 ((wrap64 (a0_0 + (wrap64 (a2 * t157)))) + t158)) (wrap64 ((wrap64 ((wrap64 (a0_0 + (wrap64 (a2 * t157)))) + t158)) + ((rd_T55 l0_2 a1).f1)))).bind fun bt160 => (some (bt160.1, bt160.2.1, bt160.2.2))) else (none)) else (none)) = some (r1, r2, r3) := H
        have A28 := Aside0.mk A280
        clear A280
        by_cases c29 : 0 ≤ a1
        · rw [if_pos c29] at H
          have c29b0 : decide (0 ≤ a1) = true := decide_eq_true c29
          clear c29
          by_cases c30 : a1 < (l0_2.length : Int)
          · rw [if_pos c30] at H
            have c30b0 : decide (a1 < (l0_2.length : Int)) = true := decide_eq_true c30
            clear c30
            replace H := Option.bind_eq_some_iff.mp H
            obtain ⟨⟨t160, t161, t162⟩, A310, H⟩ := H
            replace H : (some (t160, t161, t162)) = some (r1, r2, r3) := H
            have A31 := Aside0.mk A310
            clear A310
            simp only [Option.some.injEq, Prod.mk.injEq] at H
            obtain ⟨rfl, rfl, rfl⟩ := H
            try go_wp2
            have n0_ := am_ (blk_drew BK152.out)
            have n1_ := am_ (blk_drew BK153.out)
            have n2_ := am_ (below_drew1 HB.out)
            clear BK152
            clear BK153
            clear HB
            have BK152 := n0_
            have BK153 := n1_
            have HB := n2_
            clear n0_ n1_ n2_
            refine start_ (n := 12) (S := fun w' => w'.cell? ⟨gb152, 0, none⟩ = some (.int .i64 a0_0) ∧ w'.cell? ⟨gb152, 1, none⟩ = some (.int .i64 a0_1) ∧ w'.cell? ⟨gb152, 2, none⟩ = some (.slice A0_2 l0_2.length c0_2)) (ds := []) #[false, false, false, false, false, false, false, false, false, false, false, false] (by kernel_rfl) rfl rfl ⟨(blk_cell BK152.out 0).trans rfl, (blk_cell BK152.out 1).trans rfl, (blk_cell BK152.out 2).trans rfl⟩ (fun hHeld => ?_); refine with_tabW spec_Occurrence.tab3 spec_Occurrence.bits3 (fun HT_ HW_ => ?_)
            generalize wc.drew = w32 at BK152 BK153 HB hHeld ⊢
            refine pure_ (i := 0) (N := some 26) (v := ?_) (a' := ?_) #[true, false, false, false, false, false, false, false, false, false, false, false] rfl rfl (any_of HT_.out (by kernel_rfl)) (fun _ _ _ h => h) (Or.inl ⟨by rfl, ?_⟩) ?_ ?_
            rotate_left
            · intro w'
              go_simp
              with_reducible rfl
            rotate_left
            · simp only [Act.put, List.setIfInBounds_toArray, List.set_cons_zero, List.set_cons_succ, i64_w, i32_w]
              rfl
            refine pure_ (i := 2) (N := some 28) (v := ?_) (a' := ?_) #[true, false, true, false, false, false, false, false, false, false, false, false] rfl rfl (any_of HT_.out (by kernel_rfl)) (fun _ _ _ h => h) (Or.inl ⟨by rfl, ?_⟩) ?_ ?_
            rotate_left
            · intro w'
              go_simp
              with_reducible rfl
            rotate_left
            · simp only [Act.put, List.setIfInBounds_toArray, List.set_cons_zero, List.set_cons_succ, i64_w, i32_w]
              rfl
            refine pure_ (i := 8) (N := some 34) (v := ?_) (a' := ?_) #[true, false, true, false, false, false, false, false, true, false, false, false] rfl rfl (any_of HT_.out (by kernel_rfl)) (fun _ _ _ h => h) (Or.inl ⟨by rfl, ?_⟩) ?_ ?_
            rotate_left
            · intro w'
              go_simp
              with_reducible rfl
            rotate_left
            · simp only [Act.put, List.setIfInBounds_toArray, List.set_cons_zero, List.set_cons_succ, i64_w, i32_w]
              rfl
            refine take_ (i := 1) (N := some 27) (v := ?_) (a' := ?_) #[true, true, true, false, false, false, false, false, true, false, false, false] rfl rfl (take_ofW HT_.out HW_.out (by kernel_rfl)) (fun _ _ _ h => h) (Or.inl ⟨by rfl, ?_⟩) hHeld ?_ ?_
            rotate_left
            · rintro w' ⟨s0, s1, s2⟩
              go_simp
              with_reducible rfl
            rotate_left
            · simp only [Act.put, List.setIfInBounds_toArray, List.set_cons_zero, List.set_cons_succ, i64_w, i32_w]
              rfl
            refine take_ (i := 3) (N := some 29) (v := ?_) (a' := ?_) #[true, true, true, true, false, false, false, false, true, false, false, false] rfl rfl (take_ofW HT_.out HW_.out (by kernel_rfl)) (fun _ _ _ h => h) (Or.inl ⟨by rfl, ?_⟩) hHeld ?_ ?_
            rotate_left
            · rintro w' ⟨s0, s1, s2⟩
              go_simp
              with_reducible rfl
            rotate_left
            · simp only [Act.put, List.setIfInBounds_toArray, List.set_cons_zero, List.set_cons_succ, i64_w, i32_w]
              rfl
            refine take_ (i := 7) (N := some 33) (v := ?_) (a' := ?_) #[true, true, true, true, false, false, false, true, true, false, false, false] rfl rfl (take_ofW HT_.out HW_.out (by kernel_rfl)) (fun _ _ _ h => h) (Or.inl ⟨by rfl, ?_⟩) hHeld ?_ ?_
            rotate_left
            · rintro w' ⟨s0, s1, s2⟩
              go_simp
              with_reducible rfl
            rotate_left
            · simp only [Act.put, List.setIfInBounds_toArray, List.set_cons_zero, List.set_cons_succ, i64_w, i32_w]
              rfl
            refine one_ (i := 4) (N := some 30) #[true, true, true, true, true, false, false, true, true, false, false, false] rfl rfl (one_of HT_.out (by kernel_rfl)) (by decide) (fun K hK => ?_)
            refine goes_ Try.func26 (by kernel_rfl) rfl #[.agg #[.int .i64 a0_0, .int .i64 a0_1, .slice A0_2 l0_2.length c0_2]] (by rfl) rfl rfl arr_ ?_
            with_reducible refine (spec_RoundOf.calls kj3 a0_0 a0_1 _ _ l0_2 t157 _ ?side1 ?side2 A27.out).mono ?_
            (case side1 => exact kc_ (Kd.C_below HR0_2.out HB.out))
            (case side2 => exact HC0_2.out)
            rintro e w33 ⟨rfl, hb⟩
            refine ⟨_, rfl, ?_⟩
            have n0_ := am_ (bb_ BK152.out hb)
            have n1_ := am_ (bb_ BK153.out hb)
            have n2_ := am_ (below_step (hb2_ HB.out GE152.out GE153.out) hb)
            clear BK152
            clear BK153
            clear HB
            have BK152 := n0_
            have BK153 := n1_
            have HB := n2_
            clear n0_ n1_ n2_
            (try clear hb)
            (try clear hb2)
            (try clear hk)
            (try clear hi)
            refine hK.out _ _ ⟨(blk_cell BK152.out 0).trans rfl, (blk_cell BK152.out 1).trans rfl, (blk_cell BK152.out 2).trans rfl⟩ (fun hHeld => ?_)
            clear hK K
            refine norm_ (a' := ?_) ?_ ?_
            rotate_left
            · show Act.put _ (some 30) _ = _
              simp only [Act.put, List.setIfInBounds_toArray, List.set_cons_zero, List.set_cons_succ, i64_w, i32_w]
              rfl
            refine pure_ (i := 5) (N := some 31) (v := ?_) (a' := ?_) #[true, true, true, true, true, true, false, true, true, false, false, false] rfl rfl (any_of HT_.out (by kernel_rfl)) (fun _ _ _ h => h) (Or.inl ⟨by rfl, ?_⟩) ?_ ?_
            rotate_left
            · intro w'
              go_simp
              with_reducible rfl
            rotate_left
            · simp only [Act.put, List.setIfInBounds_toArray, List.set_cons_zero, List.set_cons_succ, i64_w, i32_w]
              rfl
            refine pure_ (i := 6) (N := some 32) (v := ?_) (a' := ?_) #[true, true, true, true, true, true, true, true, true, false, false, false] rfl rfl (any_of HT_.out (by kernel_rfl)) (fun _ _ _ h => h) (Or.inl ⟨by rfl, ?_⟩) ?_ ?_
            rotate_left
            · intro w'
              go_simp
              with_reducible rfl
            rotate_left
            · simp only [Act.put, List.setIfInBounds_toArray, List.set_cons_zero, List.set_cons_succ, i64_w, i32_w]
              rfl
            refine one_ (i := 9) (N := some 35) #[true, true, true, true, true, true, true, true, true, true, false, false] rfl rfl (one_of HT_.out (by kernel_rfl)) (by decide) (fun K hK => ?_)
            refine goes_ Try.func72 (by kernel_rfl) rfl #[.agg #[.int .i64 a0_0, .int .i64 a0_1, .slice A0_2 l0_2.length c0_2], .int .i64 a1] (by rfl) rfl rfl arr_ ?_
            with_reducible refine (spec_l13Upto.calls kj3 a0_0 a0_1 _ _ l0_2 a1 t158 _ ?side1 ?side2 A28.out).mono ?_
            (case side1 => exact kc_ (Kd.C_below HR0_2.out HB.out))
            (case side2 => exact HC0_2.out)
            rintro e w34 ⟨rfl, hb⟩
            refine ⟨_, rfl, ?_⟩
            have n0_ := am_ (bb_ BK152.out hb)
            have n1_ := am_ (bb_ BK153.out hb)
            have n2_ := am_ (below_step (hb2_ HB.out GE152.out GE153.out) hb)
            clear BK152
            clear BK153
            clear HB
            have BK152 := n0_
            have BK153 := n1_
            have HB := n2_
            clear n0_ n1_ n2_
            (try clear hb)
            (try clear hb2)
            (try clear hk)
            (try clear hi)
            refine hK.out _ _ ⟨(blk_cell BK152.out 0).trans rfl, (blk_cell BK152.out 1).trans rfl, (blk_cell BK152.out 2).trans rfl⟩ (fun hHeld => ?_)
            clear hK K
            refine norm_ (a' := ?_) ?_ ?_
            rotate_left
            · show Act.put _ (some 35) _ = _
              simp only [Act.put, List.setIfInBounds_toArray, List.set_cons_zero, List.set_cons_succ, i64_w, i32_w]
              rfl
            refine pure_ (i := 10) (N := some 36) (v := ?_) (a' := ?_) #[true, true, true, true, true, true, true, true, true, true, true, false] rfl rfl (any_of HT_.out (by kernel_rfl)) (fun _ _ _ h => h) (Or.inl ⟨by rfl, ?_⟩) ?_ ?_
            rotate_left
            · intro w'
              go_simp
              with_reducible rfl
            rotate_left
            · simp only [Act.put, List.setIfInBounds_toArray, List.set_cons_zero, List.set_cons_succ, i64_w, i32_w]
              rfl
            refine pure_ (i := 11) (N := some 8) (v := ?_) (a' := ?_) #[true, true, true, true, true, true, true, true, true, true, true, true] rfl rfl (any_of HT_.out (by kernel_rfl)) (fun _ _ _ h => h) (Or.inl ⟨by rfl, ?_⟩) ?_ ?_
            rotate_left
            · intro w'
              go_simp
              with_reducible rfl
            rotate_left
            · simp only [Act.put, List.setIfInBounds_toArray, List.set_cons_zero, List.set_cons_succ, i64_w, i32_w]
              rfl
            refine done_ (done_of HT_.out (by kernel_rfl)) ?_
            have hnb35 := NB152_153.out
            have hnc35 := NB153_152.out
            have hcz36_0 := bc_ BK152.out 0 (.int .i64 a0_0) rfl
            have hcz36_1 := bc_ BK152.out 1 (.int .i64 a0_1) rfl
            have hcz36_2 := bc_ BK152.out 2 (.slice A0_2 l0_2.length c0_2) rfl
            have hfz36_0 := blk_frozen BK152.out 0
            have hfz36_1 := blk_frozen BK152.out 1
            have hfz36_2 := blk_frozen BK152.out 2
            have p159 : 0 ≤ (a1 : Int) := of_decide_eq_true (by first | (with_reducible assumption) | assumption)
            have q159 : a1 < (l0_2.length : Int) := of_decide_eq_true (by first | (with_reducible assumption) | assumption)
            obtain ⟨ad159, e159, hx159_0, hx159_1⟩ := at_T55 HR0_2.out a1 p159 q159
            cases e159
            replace hx159_0 := (HB.out.cell (World.block_lt_of_cell? w _ hx159_0)).trans hx159_0
            replace hx159_1 := (HB.out.cell (World.block_lt_of_cell? w _ hx159_1)).trans hx159_1
            replace p159 := eq_true p159
            replace q159 := eq_true q159
            try go_wp2_with (first | ((with_reducible refine gate_callee (f := 74) rfl ?_); refine goesL_ (some 46) rfl rfl Try.func74 (by kernel_rfl) rfl #[.int .i64 (wrap64 ((wrap64 (a0_0 + (wrap64 (a2 * t157)))) + t158)), .int .i64 (wrap64 ((wrap64 ((wrap64 (a0_0 + (wrap64 (a2 * t157)))) + t158)) + ((rd_T55 l0_2 a1).f1)))] rfl arr_ ?_; (with_reducible refine (spec_l1Told.calls (wrap64 ((wrap64 (a0_0 + (wrap64 (a2 * t157)))) + t158)) (wrap64 ((wrap64 ((wrap64 (a0_0 + (wrap64 (a2 * t157)))) + t158)) + ((rd_T55 l0_2 a1).f1))) t160 t161 t162 _ A31.out).mono ?_); rintro e w37 ⟨rfl, hb⟩; refine ⟨_, rfl, ?_⟩; have n0_ := am_ (bb_ BK152.out hb); have n1_ := am_ (bb_ BK153.out hb); have n2_ := am_ (below_step (hb2_ HB.out GE152.out GE153.out) hb); clear BK152; clear BK153; clear HB; have BK152 := n0_; have BK153 := n1_; have HB := n2_; clear n0_ n1_ n2_; (try clear hb); (try clear hb2); (try clear hk); (try clear hi); have hcz38_0 := bc_ BK153.out 0 (.int .i64 0) rfl; have hcz38_1 := bc_ BK153.out 1 (.int .i64 0) rfl; have hfz38_0 := blk_frozen BK153.out 0; have hfz38_1 := blk_frozen BK153.out 1))
            refine bodyPost_ret (results_ct rfl _ _ gb153 32 #[.int .i64 t160, .int .i64 t161] (0, 0) _ rfl (by (with_reducible repeat (first | refine blk_drewN ?_ _ | refine blk_drew ?_ | refine blk_alloc ?_ _)); refine blk_put (cs := #[.int .i64 t160, .int .i64 0]) ?_ 1 _ rfl; (with_reducible repeat (first | refine blk_drewN ?_ _ | refine blk_drew ?_ | refine blk_alloc ?_ _)); refine blk_put (cs := #[.int .i64 0, .int .i64 0]) ?_ 0 _ rfl; (with_reducible repeat (first | refine blk_drewN ?_ _ | refine blk_drew ?_ | refine blk_alloc ?_ _)); exact BK153.out) Try.underlying32 rfl (by kernel_rfl)) rfl ?_
            exact ⟨er_, hb2_ HB.out GE152.out GE153.out⟩
          · rw [if_neg c30] at H
            exact absurd H (by simp)
        · rw [if_neg c29] at H
          exact absurd H (by simp)
end Go.Proofs.Ytejohmompmjhnaa.P
namespace Go.Proofs.Ytejohmompmjhnaa.P
open Go.RowKit Go.Proofs.YtejohmompmjhnaaW.PrintWords Go.Proofs.YtejohmompmjhnaaW.PrintLast Go.Proofs.YtejohmompmjhnaaW.PrintMore
attribute [local go_sem] max2_int min2_int max_two min_two max_three min_three max_four min_four
set_option linter.unusedVariables false
set_option linter.unusedSimpArgs false
mutual
def spec_SlotAt.j0 : Nat → Int → Bool → Int → Int → List (S55) → Option (Int × Int × Bool)
  | 0, _, _, _, _, _ => none
  | k + 1, x1, x24, x164000, x164001, x164002 => if x24 = true then (some (0, 0, false)) else ((spec_RoundOf.f k x164000 x164001 x164002).bind fun t166 => (if t166 = 0 then (none) else (spec_SlotAt.l0 k x1 (wrap64 (Int.tdiv (wrap64 (x1 - x164000)) t166)) 0 x164000 x164001 x164002)))
def spec_SlotAt.l0 : Nat → Int → Int → Int → Int → Int → List (S55) → Option (Int × Int × Bool)
  | 0, _, _, _, _, _, _ => none
  | k + 1, x1, x7, x8, x164000, x164001, x164002 => if x8 < (x164002.length : Int) then ((spec_Occurrence.f k x164000 x164001 x164002 x8 x7).bind fun bt167 => (if bt167.2.2 = true then (if bt167.1 ≤ x1 then (if x1 < bt167.2.1 then (some (x8, x7, true)) else (spec_SlotAt.l0 k x1 x7 (wrap64 (x8 + 1)) x164000 x164001 x164002)) else (spec_SlotAt.l0 k x1 x7 (wrap64 (x8 + 1)) x164000 x164001 x164002)) else (spec_SlotAt.l0 k x1 x7 (wrap64 (x8 + 1)) x164000 x164001 x164002))) else (some (0, 0, false))
end
def spec_SlotAt.f (k : Nat) (a0_0 : Int) (a0_1 : Int) (l0_2 : List (S55)) (a1 : Int) : Option (Int × Int × Bool) := (spec_PlanOk.f k a0_0 a0_1 l0_2).bind fun t164 => (if t164 = true then ((spec_l2Time.f a1).bind fun t165 => (if t165 = true then (spec_SlotAt.j0 k a1 (decide (a1 < a0_0)) a0_0 a0_1 l0_2) else (spec_SlotAt.j0 k a1 true a0_0 a0_1 l0_2))) else (spec_SlotAt.j0 k a1 true a0_0 a0_1 l0_2))
theorem spec_SlotAt.mono_l : ∀ k, (∀ y0 y1 y2 y3 y4, LeO (spec_SlotAt.j0 k y0 y1 y2 y3 y4) (spec_SlotAt.j0 (k + 1) y0 y1 y2 y3 y4)) ∧ (∀ y0 y1 y2 y3 y4 y5, LeO (spec_SlotAt.l0 k y0 y1 y2 y3 y4 y5) (spec_SlotAt.l0 (k + 1) y0 y1 y2 y3 y4 y5))
  | 0 => ⟨fun _ _ _ _ _ r h => by simp [spec_SlotAt.j0] at h, fun _ _ _ _ _ _ r h => by simp [spec_SlotAt.l0] at h⟩
  | k + 1 => by
    obtain ⟨ih0, ih1⟩ := spec_SlotAt.mono_l k
    refine ⟨?_, ?_⟩
    · intro y0 y1 y2 y3 y4
      unfold spec_SlotAt.j0
      repeat' first
      | (with_reducible exact ih0 _ _ _ _ _)
      | (with_reducible exact ih1 _ _ _ _ _ _)
      | (with_reducible exact spec_Occurrence.mono _ _ _ _ _ _)
      | (with_reducible exact spec_PlanOk.mono _ _ _ _)
      | (with_reducible exact spec_RoundOf.mono _ _ _ _)
      | (with_reducible exact LeO.refl _)
      | (with_reducible exact LeO.none _)
      | (with_reducible refine LeO.ite ?_ ?_)
      | (with_reducible refine LeO.bind ?_ (fun _ => ?_))
      | exact ih0 _ _ _ _ _
      | exact ih1 _ _ _ _ _ _
      | exact spec_Occurrence.mono _ _ _ _ _ _
      | exact spec_PlanOk.mono _ _ _ _
      | exact spec_RoundOf.mono _ _ _ _
      | exact LeO.none _
      | refine LeO.ite ?_ ?_
      | refine LeO.bind ?_ (fun _ => ?_)
    · intro y0 y1 y2 y3 y4 y5
      unfold spec_SlotAt.l0
      repeat' first
      | (with_reducible exact ih0 _ _ _ _ _)
      | (with_reducible exact ih1 _ _ _ _ _ _)
      | (with_reducible exact spec_Occurrence.mono _ _ _ _ _ _)
      | (with_reducible exact spec_PlanOk.mono _ _ _ _)
      | (with_reducible exact spec_RoundOf.mono _ _ _ _)
      | (with_reducible exact LeO.refl _)
      | (with_reducible exact LeO.none _)
      | (with_reducible refine LeO.ite ?_ ?_)
      | (with_reducible refine LeO.bind ?_ (fun _ => ?_))
      | exact ih0 _ _ _ _ _
      | exact ih1 _ _ _ _ _ _
      | exact spec_Occurrence.mono _ _ _ _ _ _
      | exact spec_PlanOk.mono _ _ _ _
      | exact spec_RoundOf.mono _ _ _ _
      | exact LeO.none _
      | refine LeO.ite ?_ ?_
      | refine LeO.bind ?_ (fun _ => ?_)
theorem spec_SlotAt.mono : ∀ a0 a1 a2 a3 k, LeO (spec_SlotAt.f k a0 a1 a2 a3) (spec_SlotAt.f (k + 1) a0 a1 a2 a3) := by
  intro a0 a1 a2 a3 k
  obtain ⟨ih0, ih1⟩ := spec_SlotAt.mono_l k
  unfold spec_SlotAt.f
  repeat' first
      | (with_reducible exact ih0 _ _ _ _ _)
      | (with_reducible exact ih1 _ _ _ _ _ _)
      | (with_reducible exact spec_Occurrence.mono _ _ _ _ _ _)
      | (with_reducible exact spec_PlanOk.mono _ _ _ _)
      | (with_reducible exact spec_RoundOf.mono _ _ _ _)
      | (with_reducible exact LeO.refl _)
      | (with_reducible exact LeO.none _)
      | (with_reducible refine LeO.ite ?_ ?_)
      | (with_reducible refine LeO.bind ?_ (fun _ => ?_))
      | exact ih0 _ _ _ _ _
      | exact ih1 _ _ _ _ _ _
      | exact spec_Occurrence.mono _ _ _ _ _ _
      | exact spec_PlanOk.mono _ _ _ _
      | exact spec_RoundOf.mono _ _ _ _
      | exact LeO.none _
      | refine LeO.ite ?_ ?_
      | refine LeO.bind ?_ (fun _ => ?_)
def spec_SlotAt.T3 : Bool × List (List Nat × List Nat) := (true, [([], []), ([], []), ([1], [1]), ([0, 2], [0, 2]), ([], []), ([4], [4]), ([3, 5], [3, 5]), ([6, 5, 0, 1, 2, 3, 4, 5, 6], [6])])
def spec_SlotAt.B3 : List Nat := [0, 0, 2, 7, 0, 16, 63, 127]
theorem spec_SlotAt.tab3 : rtab .any (opsOf Try.f59 3) = spec_SlotAt.T3 := by kernel_rfl
theorem spec_SlotAt.bits3 : waitsOk spec_SlotAt.T3.2 spec_SlotAt.B3 = true := by kernel_rfl
set_option maxHeartbeats 8000000 in
set_option maxRecDepth 100000 in
theorem spec_SlotAt.calls (k : Nat) (a0_0 : Int) (a0_1 : Int) (A0_2 : Option Addr) (c0_2 : Nat) (l0_2 : List (S55)) (a1 : Int) (r1 : Int) (r2 : Int) (r3 : Bool) (w : World) (hr0_2 : Kd.C k55 w A0_2 l0_2.length l0_2) (hc0_2 : l0_2.length ≤ c0_2) (h : spec_SlotAt.f k a0_0 a0_1 l0_2 a1 = some (r1, r2, r3)) :
    Calls Try.prog 59 #[.agg #[.int .i64 a0_0, .int .i64 a0_1, .slice A0_2 l0_2.length c0_2], .int .i64 a1] w fun e w' => e = .returned (.tuple #[.int .i64 r1, .int .i64 r2, .bool r3]) ∧ Below w.heap.size w w' := by
  have hu38 := Try.underlying38
  have hu32 := Try.underlying32
  have HR0_2 := Aside0.mk hr0_2
  have HC0_2 := Aside0.mk hc0_2
  clear hr0_2 hc0_2
  have HB := am_ (Below.refl w.heap.size w)
  have H : ((spec_PlanOk.f k a0_0 a0_1 l0_2).bind fun t164 => (if t164 = true then ((spec_l2Time.f a1).bind fun t165 => (if t165 = true then (spec_SlotAt.j0 k a1 (decide (a1 < a0_0)) a0_0 a0_1 l0_2) else (spec_SlotAt.j0 k a1 true a0_0 a0_1 l0_2))) else (spec_SlotAt.j0 k a1 true a0_0 a0_1 l0_2))) = some (r1, r2, r3) := h
  clear h
  have HC3 := Aside0.mk H
  clear H
  go_enter Try.func59, Try.ntmps59
  go_upto_region 1 with (first | ((with_reducible refine gate_dst (N := 2) rfl ?_); refine box_event ?hg (N := 2) ?hd (cs := #[.int .i64 a0_0, .int .i64 a0_1, .slice A0_2 l0_2.length c0_2]) (t := 38) ?hr ?_; (case hd => rfl); (case hg => rfl); (case hr => first|(go_simp;done)|(go_simp;rfl)); intro gb163 hg w4 hbox hb; have n0_ := am_ (below_step (hb_ HB.out) hb); have n1_ := am_ (hbox); have n2_ := am_ (hy_ hg (hb_ HB.out) : w.heap.size ≤ gb163); have n3_ := am_ (hy_ hg (hb_ HB.out) : w.heap.size ≤ gb163); clear HB; have HB := n0_; have BK163 := n1_; have GW163 := n2_; have GE163 := n3_; clear n0_ n1_ n2_ n3_; clear hb hbox hg))
  (try simp only [Act.put, List.setIfInBounds_toArray, List.set_cons_zero, List.set_cons_succ])
  go_cut [24] (fun v24 wc => ∃ (kq : Nat) (x24_2 : Bool), v24 = .bool x24_2 ∧ Aside0 (spec_SlotAt.j0 kq a1 x24_2 a0_0 a0_1 l0_2 = some (r1, r2, r3)) ∧ Aside0 (kq ≤ k) ∧ Aside0 (wc.heap[gb163]? = some (.cells #[.int .i64 a0_0, .int .i64 a0_1, (.slice A0_2 l0_2.length c0_2)] 38 (0, 0))) ∧ Aside0 (Below w.heap.size w wc))
  case first =>
    have H := HC3.out
    clear HC3
    replace H := Option.bind_eq_some_iff.mp H
    obtain ⟨t164, A50, H⟩ := H
    replace H : (if t164 = true then ((spec_l2Time.f a1).bind fun t165 => (if t165 = true then (spec_SlotAt.j0 k a1 (decide (a1 < a0_0)) a0_0 a0_1 l0_2) else (spec_SlotAt.j0 k a1 true a0_0 a0_1 l0_2))) else (spec_SlotAt.j0 k a1 true a0_0 a0_1 l0_2)) = some (r1, r2, r3) := H
    have A5 := Aside0.mk A50
    clear A50
    by_cases c6 : t164 = true
    · subst c6
      have H1 : ((spec_l2Time.f a1).bind fun t165 => (if t165 = true then (spec_SlotAt.j0 k a1 (decide (a1 < a0_0)) a0_0 a0_1 l0_2) else (spec_SlotAt.j0 k a1 true a0_0 a0_1 l0_2))) = some (r1, r2, r3) := by rw [if_pos rfl] at H; exact H
      clear H
      have H := H1
      clear H1
      replace H := Option.bind_eq_some_iff.mp H
      obtain ⟨t165, A70, H⟩ := H
      replace H : (if t165 = true then (spec_SlotAt.j0 k a1 (decide (a1 < a0_0)) a0_0 a0_1 l0_2) else (spec_SlotAt.j0 k a1 true a0_0 a0_1 l0_2)) = some (r1, r2, r3) := H
      have A7 := Aside0.mk A70
      clear A70
      by_cases c8 : t165 = true
      · subst c8
        have H1 : (spec_SlotAt.j0 k a1 (decide (a1 < a0_0)) a0_0 a0_1 l0_2) = some (r1, r2, r3) := by rw [if_pos rfl] at H; exact H
        clear H
        have H := H1
        clear H1
        have H' := Aside0.mk H
        clear H
        have hcz9_0 := bc_ BK163.out 0 (.int .i64 a0_0) rfl
        have hcz9_1 := bc_ BK163.out 1 (.int .i64 a0_1) rfl
        have hcz9_2 := bc_ BK163.out 2 (.slice A0_2 l0_2.length c0_2) rfl
        have hfz9_0 := blk_frozen BK163.out 0
        have hfz9_1 := blk_frozen BK163.out 1
        have hfz9_2 := blk_frozen BK163.out 2
        go_wp2_with (first | ((with_reducible refine gate_callee (f := 39) rfl ?_); refine goesL_ (some 12) rfl rfl Try.func39 (by kernel_rfl) rfl #[.agg #[.int .i64 a0_0, .int .i64 a0_1, .slice A0_2 l0_2.length c0_2]] rfl arr_ ?_; (with_reducible refine (spec_PlanOk.calls k a0_0 a0_1 _ _ l0_2 true _ ?side1 ?side2 A5.out).mono ?_); (case side1 => exact kc_ (Kd.C_below HR0_2.out HB.out)); (case side2 => exact HC0_2.out); rintro e w10 ⟨rfl, hb⟩; refine ⟨_, rfl, ?_⟩; have n0_ := am_ (bb_ BK163.out hb); have n1_ := am_ (below_step (hb1_ HB.out GE163.out) hb); clear BK163; clear HB; have BK163 := n0_; have HB := n1_; clear n0_ n1_; (try clear hb); (try clear hb2); (try clear hk); (try clear hi)) | (go_at_call 67; (with_reducible refine (spec_l2Time.calls a1 true _ A7.out).mono ?_); rintro e w' ⟨rfl, ⟨nd, rfl⟩⟩; have hcz11_0 := bc_ BK163.out 0 (.int .i64 a0_0) rfl; have hcz11_1 := bc_ BK163.out 1 (.int .i64 a0_1) rfl; have hcz11_2 := bc_ BK163.out 2 (.slice A0_2 l0_2.length c0_2) rfl; have hfz11_0 := blk_frozen BK163.out 0; have hfz11_1 := blk_frozen BK163.out 1; have hfz11_2 := blk_frozen BK163.out 2))
        go_meet
        case rel => exact ⟨_, (decide (a1 < a0_0)), (by first | rfl | (simp; done) | (simp [*]; done)), H', ⟨by first | omega | exact Nat.le_refl _⟩, ⟨bk_ BK163.out⟩, ⟨hb1_ HB.out GE163.out⟩⟩
      · replace c8 := Bool.eq_false_iff.mpr c8
        subst c8
        have H1 : (spec_SlotAt.j0 k a1 true a0_0 a0_1 l0_2) = some (r1, r2, r3) := by rw [if_neg (show ¬ (false = true) by decide)] at H; exact H
        clear H
        have H := H1
        clear H1
        have H' := Aside0.mk H
        clear H
        have hcz12_0 := bc_ BK163.out 0 (.int .i64 a0_0) rfl
        have hcz12_1 := bc_ BK163.out 1 (.int .i64 a0_1) rfl
        have hcz12_2 := bc_ BK163.out 2 (.slice A0_2 l0_2.length c0_2) rfl
        have hfz12_0 := blk_frozen BK163.out 0
        have hfz12_1 := blk_frozen BK163.out 1
        have hfz12_2 := blk_frozen BK163.out 2
        go_wp2_with (first | ((with_reducible refine gate_callee (f := 39) rfl ?_); refine goesL_ (some 12) rfl rfl Try.func39 (by kernel_rfl) rfl #[.agg #[.int .i64 a0_0, .int .i64 a0_1, .slice A0_2 l0_2.length c0_2]] rfl arr_ ?_; (with_reducible refine (spec_PlanOk.calls k a0_0 a0_1 _ _ l0_2 true _ ?side1 ?side2 A5.out).mono ?_); (case side1 => exact kc_ (Kd.C_below HR0_2.out HB.out)); (case side2 => exact HC0_2.out); rintro e w13 ⟨rfl, hb⟩; refine ⟨_, rfl, ?_⟩; have n0_ := am_ (bb_ BK163.out hb); have n1_ := am_ (below_step (hb1_ HB.out GE163.out) hb); clear BK163; clear HB; have BK163 := n0_; have HB := n1_; clear n0_ n1_; (try clear hb); (try clear hb2); (try clear hk); (try clear hi)) | (go_at_call 67; (with_reducible refine (spec_l2Time.calls a1 false _ A7.out).mono ?_); rintro e w' ⟨rfl, ⟨nd, rfl⟩⟩))
        go_meet
        case rel => exact ⟨_, (true), (by first | rfl | (simp; done) | (simp [*]; done)), H', ⟨by first | omega | exact Nat.le_refl _⟩, ⟨bk_ BK163.out⟩, ⟨hb1_ HB.out GE163.out⟩⟩
    · replace c6 := Bool.eq_false_iff.mpr c6
      subst c6
      have H1 : (spec_SlotAt.j0 k a1 true a0_0 a0_1 l0_2) = some (r1, r2, r3) := by rw [if_neg (show ¬ (false = true) by decide)] at H; exact H
      clear H
      have H := H1
      clear H1
      have H' := Aside0.mk H
      clear H
      have hcz14_0 := bc_ BK163.out 0 (.int .i64 a0_0) rfl
      have hcz14_1 := bc_ BK163.out 1 (.int .i64 a0_1) rfl
      have hcz14_2 := bc_ BK163.out 2 (.slice A0_2 l0_2.length c0_2) rfl
      have hfz14_0 := blk_frozen BK163.out 0
      have hfz14_1 := blk_frozen BK163.out 1
      have hfz14_2 := blk_frozen BK163.out 2
      go_wp2_with (first | ((with_reducible refine gate_callee (f := 39) rfl ?_); refine goesL_ (some 12) rfl rfl Try.func39 (by kernel_rfl) rfl #[.agg #[.int .i64 a0_0, .int .i64 a0_1, .slice A0_2 l0_2.length c0_2]] rfl arr_ ?_; (with_reducible refine (spec_PlanOk.calls k a0_0 a0_1 _ _ l0_2 false _ ?side1 ?side2 A5.out).mono ?_); (case side1 => exact kc_ (Kd.C_below HR0_2.out HB.out)); (case side2 => exact HC0_2.out); rintro e w15 ⟨rfl, hb⟩; refine ⟨_, rfl, ?_⟩; have n0_ := am_ (bb_ BK163.out hb); have n1_ := am_ (below_step (hb1_ HB.out GE163.out) hb); clear BK163; clear HB; have BK163 := n0_; have HB := n1_; clear n0_ n1_; (try clear hb); (try clear hb2); (try clear hk); (try clear hi)))
      go_meet
      case rel => exact ⟨_, (true), (by first | rfl | (simp; done) | (simp [*]; done)), H', ⟨by first | omega | exact Nat.le_refl _⟩, ⟨bk_ BK163.out⟩, ⟨hb1_ HB.out GE163.out⟩⟩
  case rest =>
    clear HC3
    try clear p2
    try clear c3
    try clear c5
    try clear c6
    try clear c8
    try clear hcz11_0
    try clear hcz11_1
    try clear hcz11_2
    try clear hcz12_0
    try clear hcz12_1
    try clear hcz12_2
    try clear hcz14_0
    try clear hcz14_1
    try clear hcz14_2
    try clear hcz9_0
    try clear hcz9_1
    try clear hcz9_2
    try clear hfz11_0
    try clear hfz11_1
    try clear hfz11_2
    try clear hfz12_0
    try clear hfz12_1
    try clear hfz12_2
    try clear hfz14_0
    try clear hfz14_1
    try clear hfz14_2
    try clear hfz9_0
    try clear hfz9_1
    try clear hfz9_2
    obtain ⟨kq, x24_2, rfl, HA, HJ2, BK163, HB⟩ := hcut
    cases kq with
    | zero => exact absurd HA.out (by simp [spec_SlotAt.j0])
    | succ kj2 =>
      have H := HA.out
      clear HA
      simp only [spec_SlotAt.j0] at H
      by_cases c16 : x24_2 = true
      · subst c16
        have H1 : (some (0, 0, false)) = some (r1, r2, r3) := by rw [if_pos rfl] at H; exact H
        clear H
        have H := H1
        clear H1
        simp only [Option.some.injEq, Prod.mk.injEq] at H
        obtain ⟨rfl, rfl, rfl⟩ := H
        go_wp2
        go_ret3
        exact ⟨er_, hb1_ HB.out GE163.out⟩
      · replace c16 := Bool.eq_false_iff.mpr c16
        subst c16
        have H1 : ((spec_RoundOf.f kj2 a0_0 a0_1 l0_2).bind fun t166 => (if t166 = 0 then (none) else (spec_SlotAt.l0 kj2 a1 (wrap64 (Int.tdiv (wrap64 (a1 - a0_0)) t166)) 0 a0_0 a0_1 l0_2))) = some (r1, r2, r3) := by rw [if_neg (show ¬ (false = true) by decide)] at H; exact H
        clear H
        have H := H1
        clear H1
        replace H := Option.bind_eq_some_iff.mp H
        obtain ⟨t166, A170, H⟩ := H
        replace H : (if t166 = 0 then (none) else (spec_SlotAt.l0 kj2 a1 (wrap64 (Int.tdiv (wrap64 (a1 - a0_0)) t166)) 0 a0_0 a0_1 l0_2)) = some (r1, r2, r3) := H
        have A17 := Aside0.mk A170
        clear A170
        by_cases c18 : t166 = 0
        · rw [if_pos c18] at H
          exact absurd H (by simp)
        · rw [if_neg c18] at H
          have c18b0 : (t166 == 0) = false := beq_eq_false_iff_ne.mpr c18
          have c18b1 : (t166 != 0) = true := bne_iff_ne.mpr c18
          have H' := Aside0.mk H
          clear H
          try go_wp2
          have n0_ := am_ (blk_drew BK163.out)
          have n1_ := am_ (below_drew1 HB.out)
          clear BK163
          clear HB
          have BK163 := n0_
          have HB := n1_
          clear n0_ n1_
          refine start_ (n := 8) (S := fun w' => w'.cell? ⟨gb163, 0, none⟩ = some (.int .i64 a0_0) ∧ w'.cell? ⟨gb163, 1, none⟩ = some (.int .i64 a0_1) ∧ w'.cell? ⟨gb163, 2, none⟩ = some (.slice A0_2 l0_2.length c0_2)) (ds := []) #[false, false, false, false, false, false, false, false] (by kernel_rfl) rfl rfl ⟨(blk_cell BK163.out 0).trans rfl, (blk_cell BK163.out 1).trans rfl, (blk_cell BK163.out 2).trans rfl⟩ (fun hHeld => ?_); refine with_tabW spec_SlotAt.tab3 spec_SlotAt.bits3 (fun HT_ HW_ => ?_)
          generalize wc.drew = w19 at BK163 HB hHeld ⊢
          refine pure_ (i := 0) (N := some 25) (v := ?_) (a' := ?_) #[true, false, false, false, false, false, false, false] rfl rfl (any_of HT_.out (by kernel_rfl)) (fun _ _ _ h => h) (Or.inl ⟨by rfl, ?_⟩) ?_ ?_
          rotate_left
          · intro w'
            go_simp
            with_reducible rfl
          rotate_left
          · simp only [Act.put, List.setIfInBounds_toArray, List.set_cons_zero, List.set_cons_succ, i64_w, i32_w]
            rfl
          refine pure_ (i := 1) (N := some 26) (v := ?_) (a' := ?_) #[true, true, false, false, false, false, false, false] rfl rfl (any_of HT_.out (by kernel_rfl)) (fun _ _ _ h => h) (Or.inl ⟨by rfl, ?_⟩) ?_ ?_
          rotate_left
          · intro w'
            go_simp
            with_reducible rfl
          rotate_left
          · simp only [Act.put, List.setIfInBounds_toArray, List.set_cons_zero, List.set_cons_succ, i64_w, i32_w]
            rfl
          refine take_ (i := 2) (N := some 27) (v := ?_) (a' := ?_) #[true, true, true, false, false, false, false, false] rfl rfl (take_ofW HT_.out HW_.out (by kernel_rfl)) (fun _ _ _ h => h) (Or.inl ⟨by rfl, ?_⟩) hHeld ?_ ?_
          rotate_left
          · rintro w' ⟨s0, s1, s2⟩
            go_simp
            with_reducible rfl
          rotate_left
          · simp only [Act.put, List.setIfInBounds_toArray, List.set_cons_zero, List.set_cons_succ, i64_w, i32_w]
            rfl
          refine pure_ (i := 3) (N := some 28) (v := ?_) (a' := ?_) #[true, true, true, true, false, false, false, false] rfl rfl (any_of HT_.out (by kernel_rfl)) (fun _ _ _ h => h) (Or.inl ⟨by rfl, ?_⟩) ?_ ?_
          rotate_left
          · intro w'
            go_simp
            with_reducible rfl
          rotate_left
          · simp only [Act.put, List.setIfInBounds_toArray, List.set_cons_zero, List.set_cons_succ, i64_w, i32_w]
            rfl
          refine take_ (i := 4) (N := some 29) (v := ?_) (a' := ?_) #[true, true, true, true, true, false, false, false] rfl rfl (take_ofW HT_.out HW_.out (by kernel_rfl)) (fun _ _ _ h => h) (Or.inl ⟨by rfl, ?_⟩) hHeld ?_ ?_
          rotate_left
          · rintro w' ⟨s0, s1, s2⟩
            go_simp
            with_reducible rfl
          rotate_left
          · simp only [Act.put, List.setIfInBounds_toArray, List.set_cons_zero, List.set_cons_succ, i64_w, i32_w]
            rfl
          refine one_ (i := 5) (N := some 30) #[true, true, true, true, true, true, false, false] rfl rfl (one_of HT_.out (by kernel_rfl)) (by decide) (fun K hK => ?_)
          refine goes_ Try.func26 (by kernel_rfl) rfl #[.agg #[.int .i64 a0_0, .int .i64 a0_1, .slice A0_2 l0_2.length c0_2]] (by rfl) rfl rfl arr_ ?_
          with_reducible refine (spec_RoundOf.calls kj2 a0_0 a0_1 _ _ l0_2 t166 _ ?side1 ?side2 A17.out).mono ?_
          (case side1 => exact kc_ (Kd.C_below HR0_2.out HB.out))
          (case side2 => exact HC0_2.out)
          rintro e w20 ⟨rfl, hb⟩
          refine ⟨_, rfl, ?_⟩
          have n0_ := am_ (bb_ BK163.out hb)
          have n1_ := am_ (below_step (hb1_ HB.out GE163.out) hb)
          clear BK163
          clear HB
          have BK163 := n0_
          have HB := n1_
          clear n0_ n1_
          (try clear hb)
          (try clear hb2)
          (try clear hk)
          (try clear hi)
          refine hK.out _ _ ⟨(blk_cell BK163.out 0).trans rfl, (blk_cell BK163.out 1).trans rfl, (blk_cell BK163.out 2).trans rfl⟩ (fun hHeld => ?_)
          clear hK K
          refine norm_ (a' := ?_) ?_ ?_
          rotate_left
          · show Act.put _ (some 30) _ = _
            simp only [Act.put, List.setIfInBounds_toArray, List.set_cons_zero, List.set_cons_succ, i64_w, i32_w]
            rfl
          refine pure_ (i := 6) (N := some 31) (v := ?_) (a' := ?_) #[true, true, true, true, true, true, true, false] rfl rfl (any_of HT_.out (by kernel_rfl)) (fun _ _ _ h => h) (Or.inl ⟨by rfl, ?_⟩) ?_ ?_
          rotate_left
          · intro w'
            go_simp
            with_reducible rfl
          rotate_left
          · simp only [Act.put, List.setIfInBounds_toArray, List.set_cons_zero, List.set_cons_succ, i64_w, i32_w]
            rfl
          refine pure_ (i := 7) (N := some 7) (v := ?_) (a' := ?_) #[true, true, true, true, true, true, true, true] rfl rfl (any_of HT_.out (by kernel_rfl)) (fun _ _ _ h => h) (Or.inl ⟨by rfl, ?_⟩) ?_ ?_
          rotate_left
          · intro w'
            go_simp
            with_reducible rfl
          rotate_left
          · simp only [Act.put, List.setIfInBounds_toArray, List.set_cons_zero, List.set_cons_succ, i64_w, i32_w]
            rfl
          refine done_ (done_of HT_.out (by kernel_rfl)) ?_
          try go_wp2
          go_loopg [8] kj2 (fun kq v8 w' => ∃ (x8_2 : Int), v8 = .int .i64 x8_2 ∧ Aside0 (spec_SlotAt.l0 kq a1 (wrap64 (Int.tdiv (wrap64 (a1 - a0_0)) t166)) x8_2 a0_0 a0_1 l0_2 = some (r1, r2, r3)) ∧ Aside0 (kq ≤ kj2) ∧ Aside0 (w'.heap[gb163]? = some (.cells #[.int .i64 a0_0, .int .i64 a0_1, (.slice A0_2 l0_2.length c0_2)] 38 (0, 0))) ∧ Aside0 (Below w.heap.size w w'))
          case atStart => exact ⟨(0), (by first | rfl | (simp; done) | (simp [*]; done)), H', ⟨Nat.le_refl _⟩, ⟨bk_ BK163.out⟩, ⟨hb1_ HB.out GE163.out⟩⟩
          case round =>
            clear H'
            try clear c1
            try clear c2
            try clear p2
            try clear c3
            try clear c5
            try clear c6
            try clear p6
            try clear c8
            try clear c16
            try clear c18
            try clear c18b0
            try clear c18b1
            try clear hcz11_0
            try clear hcz11_1
            try clear hcz11_2
            try clear hcz12_0
            try clear hcz12_1
            try clear hcz12_2
            try clear hcz14_0
            try clear hcz14_1
            try clear hcz14_2
            try clear hcz9_0
            try clear hcz9_1
            try clear hcz9_2
            try clear hfz11_0
            try clear hfz11_1
            try clear hfz11_2
            try clear hfz12_0
            try clear hfz12_1
            try clear hfz12_2
            try clear hfz14_0
            try clear hfz14_1
            try clear hfz14_2
            try clear hfz9_0
            try clear hfz9_1
            try clear hfz9_2
            try clear p2
            obtain ⟨x8_2, rfl, HA, HK2, BK163, HB⟩ := hrel
            cases gk with
            | zero => exact absurd HA.out (by simp [spec_SlotAt.l0])
            | succ k2 =>
              have H := HA.out
              clear HA
              simp only [spec_SlotAt.l0] at H
              by_cases c21 : x8_2 < (l0_2.length : Int)
              · rw [if_pos c21] at H
                have c21b0 : decide (x8_2 < (l0_2.length : Int)) = true := decide_eq_true c21
                clear c21
                replace H := Option.bind_eq_some_iff.mp H
                obtain ⟨⟨t167, t168, t169⟩, A220, H⟩ := H
                replace H : (if t169 = true then (if t167 ≤ a1 then (if a1 < t168 then (some (x8_2, (wrap64 (Int.tdiv (wrap64 (a1 - a0_0)) t166)), true)) else (spec_SlotAt.l0 k2 a1 (wrap64 (Int.tdiv (wrap64 (a1 - a0_0)) t166)) (wrap64 (x8_2 + 1)) a0_0 a0_1 l0_2)) else (spec_SlotAt.l0 k2 a1 (wrap64 (Int.tdiv (wrap64 (a1 - a0_0)) t166)) (wrap64 (x8_2 + 1)) a0_0 a0_1 l0_2)) else (spec_SlotAt.l0 k2 a1 (wrap64 (Int.tdiv (wrap64 (a1 - a0_0)) t166)) (wrap64 (x8_2 + 1)) a0_0 a0_1 l0_2)) = some (r1, r2, r3) := H
                have A22 := Aside0.mk A220
                clear A220
                by_cases c23 : t169 = true
                · subst c23
                  have H1 : (if t167 ≤ a1 then (if a1 < t168 then (some (x8_2, (wrap64 (Int.tdiv (wrap64 (a1 - a0_0)) t166)), true)) else (spec_SlotAt.l0 k2 a1 (wrap64 (Int.tdiv (wrap64 (a1 - a0_0)) t166)) (wrap64 (x8_2 + 1)) a0_0 a0_1 l0_2)) else (spec_SlotAt.l0 k2 a1 (wrap64 (Int.tdiv (wrap64 (a1 - a0_0)) t166)) (wrap64 (x8_2 + 1)) a0_0 a0_1 l0_2)) = some (r1, r2, r3) := by rw [if_pos rfl] at H; exact H
                  clear H
                  have H := H1
                  clear H1
                  by_cases c24 : t167 ≤ a1
                  · rw [if_pos c24] at H
                    have c24b0 : decide (t167 ≤ a1) = true := decide_eq_true c24
                    clear c24
                    by_cases c25 : a1 < t168
                    · rw [if_pos c25] at H
                      have c25b0 : decide (a1 < t168) = true := decide_eq_true c25
                      clear c25
                      simp only [Option.some.injEq, Prod.mk.injEq] at H
                      obtain ⟨rfl, rfl, rfl⟩ := H
                      have hcz26_0 := bc_ BK163.out 0 (.int .i64 a0_0) rfl
                      have hcz26_1 := bc_ BK163.out 1 (.int .i64 a0_1) rfl
                      have hcz26_2 := bc_ BK163.out 2 (.slice A0_2 l0_2.length c0_2) rfl
                      have hfz26_0 := blk_frozen BK163.out 0
                      have hfz26_1 := blk_frozen BK163.out 1
                      have hfz26_2 := blk_frozen BK163.out 2
                      go_wp2_with (first | ((with_reducible refine gate_callee (f := 27) rfl ?_); refine goesL_ (some 43) rfl rfl Try.func27 (by kernel_rfl) rfl #[.agg #[.int .i64 a0_0, .int .i64 a0_1, .slice A0_2 l0_2.length c0_2], .int .i64 x8_2, .int .i64 (wrap64 (Int.tdiv (wrap64 (a1 - a0_0)) t166))] rfl arr_ ?_; (with_reducible refine (spec_Occurrence.calls k2 a0_0 a0_1 _ _ l0_2 x8_2 (wrap64 (Int.tdiv (wrap64 (a1 - a0_0)) t166)) t167 t168 true _ ?side1 ?side2 A22.out).mono ?_); (case side1 => exact kc_ (Kd.C_below HR0_2.out HB.out)); (case side2 => exact HC0_2.out); rintro e w27 ⟨rfl, hb⟩; refine ⟨_, rfl, ?_⟩; have n0_ := am_ (bb_ BK163.out hb); have n1_ := am_ (below_step (hb1_ HB.out GE163.out) hb); clear BK163; clear HB; have BK163 := n0_; have HB := n1_; clear n0_ n1_; (try clear hb); (try clear hb2); (try clear hk); (try clear hi)) | ((with_reducible refine gate_dst (N := 9) rfl ?_); refine box_event ?hg (N := 9) ?hd (cs := #[.int .i64 0, .int .i64 0]) (t := 32) ?hr ?_; (case hd => rfl); (case hg => rfl); (case hr => first|(go_simp;done)|(go_simp;rfl)); intro gb170 hg w28 hbox hb; have n0_ := am_ (bb_ BK163.out hb); have n1_ := am_ (below_step (hb1_ HB.out GE163.out) hb); have n2_ := am_ (hbox); have n3_ := am_ (hy_ hg (hb1_ HB.out GE163.out) : w.heap.size ≤ gb170); have n4_ := am_ (hy_ hg (hb1_ HB.out GE163.out) : w.heap.size ≤ gb170); have n5_ := am_ ((bl_ hg BK163.out : gb163 ≠ gb170)); have n6_ := am_ ((bg_ hg BK163.out : gb170 ≠ gb163)); clear BK163; clear HB; have BK163 := n0_; have HB := n1_; have BK170 := n2_; have GW170 := n3_; have GE170 := n4_; have NB163_170 := n5_; have NB170_163 := n6_; clear n0_ n1_ n2_ n3_ n4_ n5_ n6_; clear hb hbox hg; have hnb29 := NB170_163.out; have hnc29 := NB163_170.out; have hcz30_0 := bc_ BK170.out 0 (.int .i64 0) rfl; have hcz30_1 := bc_ BK170.out 1 (.int .i64 0) rfl; have hfz30_0 := blk_frozen BK170.out 0; have hfz30_1 := blk_frozen BK170.out 1))
                      go_ret3
                      exact ⟨er_, hb2_ HB.out GE163.out GE170.out⟩
                    · rw [if_neg c25] at H
                      have c25b0 : decide (a1 < t168) = false := decide_eq_false c25
                      clear c25
                      have H' := Aside0.mk H
                      clear H
                      have hcz31_0 := bc_ BK163.out 0 (.int .i64 a0_0) rfl
                      have hcz31_1 := bc_ BK163.out 1 (.int .i64 a0_1) rfl
                      have hcz31_2 := bc_ BK163.out 2 (.slice A0_2 l0_2.length c0_2) rfl
                      have hfz31_0 := blk_frozen BK163.out 0
                      have hfz31_1 := blk_frozen BK163.out 1
                      have hfz31_2 := blk_frozen BK163.out 2
                      go_wp2_with (first | ((with_reducible refine gate_callee (f := 27) rfl ?_); refine goesL_ (some 43) rfl rfl Try.func27 (by kernel_rfl) rfl #[.agg #[.int .i64 a0_0, .int .i64 a0_1, .slice A0_2 l0_2.length c0_2], .int .i64 x8_2, .int .i64 (wrap64 (Int.tdiv (wrap64 (a1 - a0_0)) t166))] rfl arr_ ?_; (with_reducible refine (spec_Occurrence.calls k2 a0_0 a0_1 _ _ l0_2 x8_2 (wrap64 (Int.tdiv (wrap64 (a1 - a0_0)) t166)) t167 t168 true _ ?side1 ?side2 A22.out).mono ?_); (case side1 => exact kc_ (Kd.C_below HR0_2.out HB.out)); (case side2 => exact HC0_2.out); rintro e w32 ⟨rfl, hb⟩; refine ⟨_, rfl, ?_⟩; have n0_ := am_ (bb_ BK163.out hb); have n1_ := am_ (below_step (hb1_ HB.out GE163.out) hb); clear BK163; clear HB; have BK163 := n0_; have HB := n1_; clear n0_ n1_; (try clear hb); (try clear hb2); (try clear hk); (try clear hi)) | ((with_reducible refine gate_dst (N := 9) rfl ?_); refine box_event ?hg (N := 9) ?hd (cs := #[.int .i64 0, .int .i64 0]) (t := 32) ?hr ?_; (case hd => rfl); (case hg => rfl); (case hr => first|(go_simp;done)|(go_simp;rfl)); intro gb170 hg w33 hbox hb; have n0_ := am_ (bb_ BK163.out hb); have n1_ := am_ (below_step (hb1_ HB.out GE163.out) hb); have n2_ := am_ (hbox); have n3_ := am_ (hy_ hg (hb1_ HB.out GE163.out) : w.heap.size ≤ gb170); have n4_ := am_ (hy_ hg (hb1_ HB.out GE163.out) : w.heap.size ≤ gb170); have n5_ := am_ ((bl_ hg BK163.out : gb163 ≠ gb170)); have n6_ := am_ ((bg_ hg BK163.out : gb170 ≠ gb163)); clear BK163; clear HB; have BK163 := n0_; have HB := n1_; have BK170 := n2_; have GW170 := n3_; have GE170 := n4_; have NB163_170 := n5_; have NB170_163 := n6_; clear n0_ n1_ n2_ n3_ n4_ n5_ n6_; clear hb hbox hg; have hnb34 := NB170_163.out; have hnc34 := NB163_170.out; have hcz35_0 := bc_ BK170.out 0 (.int .i64 0) rfl; have hcz35_1 := bc_ BK170.out 1 (.int .i64 0) rfl; have hfz35_0 := blk_frozen BK170.out 0; have hfz35_1 := blk_frozen BK170.out 1))
                      go_roundg k2
                      case measure => have := HJ2.out; have := HK2.out; omega
                      case rel => exact ⟨(wrap64 (x8_2 + 1)), (by first | rfl | (simp; done) | (simp [*]; done)), H', ⟨by have := HJ2.out; have := HK2.out; omega⟩, ⟨by (with_reducible repeat (first | refine blk_drewN ?_ _ | refine blk_drew ?_ | refine blk_alloc ?_ _)); refine blk_far ?_ NB163_170.out _; (with_reducible repeat (first | refine blk_drewN ?_ _ | refine blk_drew ?_ | refine blk_alloc ?_ _)); refine blk_far ?_ NB163_170.out _; (with_reducible repeat (first | refine blk_drewN ?_ _ | refine blk_drew ?_ | refine blk_alloc ?_ _)); exact BK163.out⟩, ⟨hb2_ HB.out GE163.out GE170.out⟩⟩
                  · rw [if_neg c24] at H
                    have c24b0 : decide (t167 ≤ a1) = false := decide_eq_false c24
                    clear c24
                    have H' := Aside0.mk H
                    clear H
                    have hcz36_0 := bc_ BK163.out 0 (.int .i64 a0_0) rfl
                    have hcz36_1 := bc_ BK163.out 1 (.int .i64 a0_1) rfl
                    have hcz36_2 := bc_ BK163.out 2 (.slice A0_2 l0_2.length c0_2) rfl
                    have hfz36_0 := blk_frozen BK163.out 0
                    have hfz36_1 := blk_frozen BK163.out 1
                    have hfz36_2 := blk_frozen BK163.out 2
                    go_wp2_with (first | ((with_reducible refine gate_callee (f := 27) rfl ?_); refine goesL_ (some 43) rfl rfl Try.func27 (by kernel_rfl) rfl #[.agg #[.int .i64 a0_0, .int .i64 a0_1, .slice A0_2 l0_2.length c0_2], .int .i64 x8_2, .int .i64 (wrap64 (Int.tdiv (wrap64 (a1 - a0_0)) t166))] rfl arr_ ?_; (with_reducible refine (spec_Occurrence.calls k2 a0_0 a0_1 _ _ l0_2 x8_2 (wrap64 (Int.tdiv (wrap64 (a1 - a0_0)) t166)) t167 t168 true _ ?side1 ?side2 A22.out).mono ?_); (case side1 => exact kc_ (Kd.C_below HR0_2.out HB.out)); (case side2 => exact HC0_2.out); rintro e w37 ⟨rfl, hb⟩; refine ⟨_, rfl, ?_⟩; have n0_ := am_ (bb_ BK163.out hb); have n1_ := am_ (below_step (hb1_ HB.out GE163.out) hb); clear BK163; clear HB; have BK163 := n0_; have HB := n1_; clear n0_ n1_; (try clear hb); (try clear hb2); (try clear hk); (try clear hi)) | ((with_reducible refine gate_dst (N := 9) rfl ?_); refine box_event ?hg (N := 9) ?hd (cs := #[.int .i64 0, .int .i64 0]) (t := 32) ?hr ?_; (case hd => rfl); (case hg => rfl); (case hr => first|(go_simp;done)|(go_simp;rfl)); intro gb170 hg w38 hbox hb; have n0_ := am_ (bb_ BK163.out hb); have n1_ := am_ (below_step (hb1_ HB.out GE163.out) hb); have n2_ := am_ (hbox); have n3_ := am_ (hy_ hg (hb1_ HB.out GE163.out) : w.heap.size ≤ gb170); have n4_ := am_ (hy_ hg (hb1_ HB.out GE163.out) : w.heap.size ≤ gb170); have n5_ := am_ ((bl_ hg BK163.out : gb163 ≠ gb170)); have n6_ := am_ ((bg_ hg BK163.out : gb170 ≠ gb163)); clear BK163; clear HB; have BK163 := n0_; have HB := n1_; have BK170 := n2_; have GW170 := n3_; have GE170 := n4_; have NB163_170 := n5_; have NB170_163 := n6_; clear n0_ n1_ n2_ n3_ n4_ n5_ n6_; clear hb hbox hg; have hnb39 := NB170_163.out; have hnc39 := NB163_170.out; have hcz40_0 := bc_ BK170.out 0 (.int .i64 0) rfl; have hcz40_1 := bc_ BK170.out 1 (.int .i64 0) rfl; have hfz40_0 := blk_frozen BK170.out 0; have hfz40_1 := blk_frozen BK170.out 1))
                    go_roundg k2
                    case measure => have := HJ2.out; have := HK2.out; omega
                    case rel => exact ⟨(wrap64 (x8_2 + 1)), (by first | rfl | (simp; done) | (simp [*]; done)), H', ⟨by have := HJ2.out; have := HK2.out; omega⟩, ⟨by (with_reducible repeat (first | refine blk_drewN ?_ _ | refine blk_drew ?_ | refine blk_alloc ?_ _)); refine blk_far ?_ NB163_170.out _; (with_reducible repeat (first | refine blk_drewN ?_ _ | refine blk_drew ?_ | refine blk_alloc ?_ _)); refine blk_far ?_ NB163_170.out _; (with_reducible repeat (first | refine blk_drewN ?_ _ | refine blk_drew ?_ | refine blk_alloc ?_ _)); exact BK163.out⟩, ⟨hb2_ HB.out GE163.out GE170.out⟩⟩
                · replace c23 := Bool.eq_false_iff.mpr c23
                  subst c23
                  have H1 : (spec_SlotAt.l0 k2 a1 (wrap64 (Int.tdiv (wrap64 (a1 - a0_0)) t166)) (wrap64 (x8_2 + 1)) a0_0 a0_1 l0_2) = some (r1, r2, r3) := by rw [if_neg (show ¬ (false = true) by decide)] at H; exact H
                  clear H
                  have H := H1
                  clear H1
                  have H' := Aside0.mk H
                  clear H
                  have hcz41_0 := bc_ BK163.out 0 (.int .i64 a0_0) rfl
                  have hcz41_1 := bc_ BK163.out 1 (.int .i64 a0_1) rfl
                  have hcz41_2 := bc_ BK163.out 2 (.slice A0_2 l0_2.length c0_2) rfl
                  have hfz41_0 := blk_frozen BK163.out 0
                  have hfz41_1 := blk_frozen BK163.out 1
                  have hfz41_2 := blk_frozen BK163.out 2
                  go_wp2_with (first | ((with_reducible refine gate_callee (f := 27) rfl ?_); refine goesL_ (some 43) rfl rfl Try.func27 (by kernel_rfl) rfl #[.agg #[.int .i64 a0_0, .int .i64 a0_1, .slice A0_2 l0_2.length c0_2], .int .i64 x8_2, .int .i64 (wrap64 (Int.tdiv (wrap64 (a1 - a0_0)) t166))] rfl arr_ ?_; (with_reducible refine (spec_Occurrence.calls k2 a0_0 a0_1 _ _ l0_2 x8_2 (wrap64 (Int.tdiv (wrap64 (a1 - a0_0)) t166)) t167 t168 false _ ?side1 ?side2 A22.out).mono ?_); (case side1 => exact kc_ (Kd.C_below HR0_2.out HB.out)); (case side2 => exact HC0_2.out); rintro e w42 ⟨rfl, hb⟩; refine ⟨_, rfl, ?_⟩; have n0_ := am_ (bb_ BK163.out hb); have n1_ := am_ (below_step (hb1_ HB.out GE163.out) hb); clear BK163; clear HB; have BK163 := n0_; have HB := n1_; clear n0_ n1_; (try clear hb); (try clear hb2); (try clear hk); (try clear hi)) | ((with_reducible refine gate_dst (N := 9) rfl ?_); refine box_event ?hg (N := 9) ?hd (cs := #[.int .i64 0, .int .i64 0]) (t := 32) ?hr ?_; (case hd => rfl); (case hg => rfl); (case hr => first|(go_simp;done)|(go_simp;rfl)); intro gb170 hg w43 hbox hb; have n0_ := am_ (bb_ BK163.out hb); have n1_ := am_ (below_step (hb1_ HB.out GE163.out) hb); have n2_ := am_ (hbox); have n3_ := am_ (hy_ hg (hb1_ HB.out GE163.out) : w.heap.size ≤ gb170); have n4_ := am_ (hy_ hg (hb1_ HB.out GE163.out) : w.heap.size ≤ gb170); have n5_ := am_ ((bl_ hg BK163.out : gb163 ≠ gb170)); have n6_ := am_ ((bg_ hg BK163.out : gb170 ≠ gb163)); clear BK163; clear HB; have BK163 := n0_; have HB := n1_; have BK170 := n2_; have GW170 := n3_; have GE170 := n4_; have NB163_170 := n5_; have NB170_163 := n6_; clear n0_ n1_ n2_ n3_ n4_ n5_ n6_; clear hb hbox hg; have hnb44 := NB170_163.out; have hnc44 := NB163_170.out; have hcz45_0 := bc_ BK170.out 0 (.int .i64 0) rfl; have hcz45_1 := bc_ BK170.out 1 (.int .i64 0) rfl; have hfz45_0 := blk_frozen BK170.out 0; have hfz45_1 := blk_frozen BK170.out 1))
                  go_roundg k2
                  case measure => have := HJ2.out; have := HK2.out; omega
                  case rel => exact ⟨(wrap64 (x8_2 + 1)), (by first | rfl | (simp; done) | (simp [*]; done)), H', ⟨by have := HJ2.out; have := HK2.out; omega⟩, ⟨by (with_reducible repeat (first | refine blk_drewN ?_ _ | refine blk_drew ?_ | refine blk_alloc ?_ _)); refine blk_far ?_ NB163_170.out _; (with_reducible repeat (first | refine blk_drewN ?_ _ | refine blk_drew ?_ | refine blk_alloc ?_ _)); refine blk_far ?_ NB163_170.out _; (with_reducible repeat (first | refine blk_drewN ?_ _ | refine blk_drew ?_ | refine blk_alloc ?_ _)); exact BK163.out⟩, ⟨hb2_ HB.out GE163.out GE170.out⟩⟩
              · rw [if_neg c21] at H
                have c21b0 : decide (x8_2 < (l0_2.length : Int)) = false := decide_eq_false c21
                clear c21
                simp only [Option.some.injEq, Prod.mk.injEq] at H
                obtain ⟨rfl, rfl, rfl⟩ := H
                have hcz46_0 := bc_ BK163.out 0 (.int .i64 a0_0) rfl
                have hcz46_1 := bc_ BK163.out 1 (.int .i64 a0_1) rfl
                have hcz46_2 := bc_ BK163.out 2 (.slice A0_2 l0_2.length c0_2) rfl
                have hfz46_0 := blk_frozen BK163.out 0
                have hfz46_1 := blk_frozen BK163.out 1
                have hfz46_2 := blk_frozen BK163.out 2
                go_wp2
                go_ret3
                exact ⟨er_, hb1_ HB.out GE163.out⟩
end Go.Proofs.Ytejohmompmjhnaa.P

namespace Go.Proofs.Ytejohmompmjhnaa.P
open Go.RowKit Go.Proofs.YtejohmompmjhnaaW.PrintWords Go.Proofs.YtejohmompmjhnaaW.PrintLast Go.Proofs.YtejohmompmjhnaaW.PrintMore
attribute [local go_sem] max2_int min2_int max_two min_two max_three min_three max_four min_four
set_option linter.unusedVariables false
set_option linter.unusedSimpArgs false
def spec_InSlot.j0 : Nat → Int → Int → Int → Bool → Int → Int → List (S55) → Option (Int × Int × Bool)
  | 0, _, _, _, _, _, _, _ => none
  | k + 1, x3, x11, x12, x39, x172000, x172001, x172002 => if x39 = true then (some (0, 0, false)) else ((spec_Occurrence.f k x172000 x172001 x172002 x11 x12).bind fun bt176 => (if x3 > bt176.2.1 then (some (0, 0, false)) else (some (x11, x12, true))))
def spec_InSlot.f (k : Nat) (a0_0 : Int) (a0_1 : Int) (l0_2 : List (S55)) (a1 : Int) (a2 : Int) (a3 : Int) : Option (Int × Int × Bool) := (spec_SlotAt.f k a0_0 a0_1 l0_2 a2).bind fun bt172 => (if bt172.2.2 = true then (if 0 ≤ bt172.1 then (if bt172.1 < (l0_2.length : Int) then (if ((rd_T55 l0_2 bt172.1).f0) = a1 then (spec_InSlot.j0 k a3 bt172.1 bt172.2.1 (decide (a2 > a3)) a0_0 a0_1 l0_2) else (spec_InSlot.j0 k a3 bt172.1 bt172.2.1 true a0_0 a0_1 l0_2)) else (none)) else (none)) else (spec_InSlot.j0 k a3 bt172.1 bt172.2.1 true a0_0 a0_1 l0_2))
theorem spec_InSlot.mono_l : ∀ k, (∀ y0 y1 y2 y3 y4 y5 y6, LeO (spec_InSlot.j0 k y0 y1 y2 y3 y4 y5 y6) (spec_InSlot.j0 (k + 1) y0 y1 y2 y3 y4 y5 y6))
  | 0 => fun _ _ _ _ _ _ _ r h => by simp [spec_InSlot.j0] at h
  | k + 1 => by
    have ih0 := spec_InSlot.mono_l k
    · intro y0 y1 y2 y3 y4 y5 y6
      unfold spec_InSlot.j0
      repeat' first
      | (with_reducible exact ih0 _ _ _ _ _ _ _)
      | (with_reducible exact spec_Occurrence.mono _ _ _ _ _ _)
      | (with_reducible exact spec_SlotAt.mono _ _ _ _ _)
      | (with_reducible exact LeO.refl _)
      | (with_reducible exact LeO.none _)
      | (with_reducible refine LeO.ite ?_ ?_)
      | (with_reducible refine LeO.bind ?_ (fun _ => ?_))
      | exact ih0 _ _ _ _ _ _ _
      | exact spec_Occurrence.mono _ _ _ _ _ _
      | exact spec_SlotAt.mono _ _ _ _ _
      | exact LeO.none _
      | refine LeO.ite ?_ ?_
      | refine LeO.bind ?_ (fun _ => ?_)
theorem spec_InSlot.mono : ∀ a0 a1 a2 a3 a4 a5 k, LeO (spec_InSlot.f k a0 a1 a2 a3 a4 a5) (spec_InSlot.f (k + 1) a0 a1 a2 a3 a4 a5) := by
  intro a0 a1 a2 a3 a4 a5 k
  have ih0 := spec_InSlot.mono_l k
  unfold spec_InSlot.f
  repeat' first
      | (with_reducible exact ih0 _ _ _ _ _ _ _)
      | (with_reducible exact spec_Occurrence.mono _ _ _ _ _ _)
      | (with_reducible exact spec_SlotAt.mono _ _ _ _ _)
      | (with_reducible exact LeO.refl _)
      | (with_reducible exact LeO.none _)
      | (with_reducible refine LeO.ite ?_ ?_)
      | (with_reducible refine LeO.bind ?_ (fun _ => ?_))
      | exact ih0 _ _ _ _ _ _ _
      | exact spec_Occurrence.mono _ _ _ _ _ _
      | exact spec_SlotAt.mono _ _ _ _ _
      | exact LeO.none _
      | refine LeO.ite ?_ ?_
      | refine LeO.bind ?_ (fun _ => ?_)
set_option maxHeartbeats 8000000 in
set_option maxRecDepth 100000 in
theorem spec_InSlot.calls (k : Nat) (a0_0 : Int) (a0_1 : Int) (A0_2 : Option Addr) (c0_2 : Nat) (l0_2 : List (S55)) (a1 : Int) (a2 : Int) (a3 : Int) (r1 : Int) (r2 : Int) (r3 : Bool) (w : World) (hr0_2 : Kd.C k55 w A0_2 l0_2.length l0_2) (hc0_2 : l0_2.length ≤ c0_2) (h : spec_InSlot.f k a0_0 a0_1 l0_2 a1 a2 a3 = some (r1, r2, r3)) :
    Calls Try.prog 41 #[.agg #[.int .i64 a0_0, .int .i64 a0_1, .slice A0_2 l0_2.length c0_2], .int .i64 a1, .int .i64 a2, .int .i64 a3] w fun e w' => e = .returned (.tuple #[.int .i64 r1, .int .i64 r2, .bool r3]) ∧ Below w.heap.size w w' := by
  have hu38 := Try.underlying38
  have hu32 := Try.underlying32
  have HR0_2 := Aside0.mk hr0_2
  have HC0_2 := Aside0.mk hc0_2
  clear hr0_2 hc0_2
  have HB := am_ (Below.refl w.heap.size w)
  have H : ((spec_SlotAt.f k a0_0 a0_1 l0_2 a2).bind fun bt172 => (if bt172.2.2 = true then (if 0 ≤ bt172.1 then (if bt172.1 < (l0_2.length : Int) then (if ((rd_T55 l0_2 bt172.1).f0) = a1 then (spec_InSlot.j0 k a3 bt172.1 bt172.2.1 (decide (a2 > a3)) a0_0 a0_1 l0_2) else (spec_InSlot.j0 k a3 bt172.1 bt172.2.1 true a0_0 a0_1 l0_2)) else (none)) else (none)) else (spec_InSlot.j0 k a3 bt172.1 bt172.2.1 true a0_0 a0_1 l0_2))) = some (r1, r2, r3) := h
  clear h
  replace H := Option.bind_eq_some_iff.mp H
  obtain ⟨⟨t172, t173, t174⟩, A50, H⟩ := H
  replace H : (if t174 = true then (if 0 ≤ t172 then (if t172 < (l0_2.length : Int) then (if ((rd_T55 l0_2 t172).f0) = a1 then (spec_InSlot.j0 k a3 t172 t173 (decide (a2 > a3)) a0_0 a0_1 l0_2) else (spec_InSlot.j0 k a3 t172 t173 true a0_0 a0_1 l0_2)) else (none)) else (none)) else (spec_InSlot.j0 k a3 t172 t173 true a0_0 a0_1 l0_2)) = some (r1, r2, r3) := H
  have A5 := Aside0.mk A50
  clear A50
  have HC6 := Aside0.mk H
  clear H
  go_enter Try.func41, Try.ntmps41
  go_upto_region 2 with (first | ((with_reducible refine gate_dst (N := 4) rfl ?_); refine box_event ?hg (N := 4) ?hd (cs := #[.int .i64 a0_0, .int .i64 a0_1, .slice A0_2 l0_2.length c0_2]) (t := 38) ?hr ?_; (case hd => rfl); (case hg => rfl); (case hr => first|(go_simp;done)|(go_simp;rfl)); intro gb171 hg w7 hbox hb; have n0_ := am_ (below_step (hb_ HB.out) hb); have n1_ := am_ (hbox); have n2_ := am_ (hy_ hg (hb_ HB.out) : w.heap.size ≤ gb171); have n3_ := am_ (hy_ hg (hb_ HB.out) : w.heap.size ≤ gb171); clear HB; have HB := n0_; have BK171 := n1_; have GW171 := n2_; have GE171 := n3_; clear n0_ n1_ n2_ n3_; clear hb hbox hg; have hcz8_0 := bc_ BK171.out 0 (.int .i64 a0_0) rfl; have hcz8_1 := bc_ BK171.out 1 (.int .i64 a0_1) rfl; have hcz8_2 := bc_ BK171.out 2 (.slice A0_2 l0_2.length c0_2) rfl; have hfz8_0 := blk_frozen BK171.out 0; have hfz8_1 := blk_frozen BK171.out 1; have hfz8_2 := blk_frozen BK171.out 2) | ((with_reducible refine gate_callee (f := 59) rfl ?_); refine goesL_ (some 19) rfl rfl Try.func59 (by kernel_rfl) rfl #[.agg #[.int .i64 a0_0, .int .i64 a0_1, .slice A0_2 l0_2.length c0_2], .int .i64 a2] rfl arr_ ?_; (with_reducible refine (spec_SlotAt.calls k a0_0 a0_1 _ _ l0_2 a2 t172 t173 t174 _ ?side1 ?side2 A5.out).mono ?_); (case side1 => exact kc_ (Kd.C_below HR0_2.out HB.out)); (case side2 => exact HC0_2.out); rintro e w9 ⟨rfl, hb⟩; refine ⟨_, rfl, ?_⟩; have n0_ := am_ (bb_ BK171.out hb); have n1_ := am_ (below_step (hb1_ HB.out GE171.out) hb); clear BK171; clear HB; have BK171 := n0_; have HB := n1_; clear n0_ n1_; (try clear hb); (try clear hb2); (try clear hk); (try clear hi)))
  (try simp only [Act.put, List.setIfInBounds_toArray, List.set_cons_zero, List.set_cons_succ])
  go_cut [39] (fun v39 wc => ∃ (kq : Nat) (x39_5 : Bool), v39 = .bool x39_5 ∧ Aside0 (spec_InSlot.j0 kq a3 t172 t173 x39_5 a0_0 a0_1 l0_2 = some (r1, r2, r3)) ∧ Aside0 (kq ≤ k) ∧ Aside0 (wc.heap[gb171]? = some (.cells #[.int .i64 a0_0, .int .i64 a0_1, (.slice A0_2 l0_2.length c0_2)] 38 (0, 0))) ∧ Aside0 (Below w.heap.size w wc))
  case first =>
    have H := HC6.out
    clear HC6
    by_cases c10 : t174 = true
    · subst c10
      have H1 : (if 0 ≤ t172 then (if t172 < (l0_2.length : Int) then (if ((rd_T55 l0_2 t172).f0) = a1 then (spec_InSlot.j0 k a3 t172 t173 (decide (a2 > a3)) a0_0 a0_1 l0_2) else (spec_InSlot.j0 k a3 t172 t173 true a0_0 a0_1 l0_2)) else (none)) else (none)) = some (r1, r2, r3) := by rw [if_pos rfl] at H; exact H
      clear H
      have H := H1
      clear H1
      by_cases c11 : 0 ≤ t172
      · rw [if_pos c11] at H
        have c11b0 : decide (0 ≤ t172) = true := decide_eq_true c11
        clear c11
        (first | rw [c11b0] | (simp only [i64_w, i32_w]; rw [c11b0]) | skip)
        by_cases c12 : t172 < (l0_2.length : Int)
        · rw [if_pos c12] at H
          have c12b0 : decide (t172 < (l0_2.length : Int)) = true := decide_eq_true c12
          clear c12
          by_cases c13 : ((rd_T55 l0_2 t172).f0) = a1
          · rw [if_pos c13] at H
            have c13b0 : (((rd_T55 l0_2 t172).f0) == a1) = true := beq_iff_eq.mpr c13
            have c13b1 : (((rd_T55 l0_2 t172).f0) != a1) = false := bne_eq_false_iff_eq.mpr c13
            clear c13
            have H' := Aside0.mk H
            clear H
            have hcz14_0 := bc_ BK171.out 0 (.int .i64 a0_0) rfl
            have hcz14_1 := bc_ BK171.out 1 (.int .i64 a0_1) rfl
            have hcz14_2 := bc_ BK171.out 2 (.slice A0_2 l0_2.length c0_2) rfl
            have hfz14_0 := blk_frozen BK171.out 0
            have hfz14_1 := blk_frozen BK171.out 1
            have hfz14_2 := blk_frozen BK171.out 2
            have p175 : 0 ≤ (t172 : Int) := of_decide_eq_true (by first | (with_reducible assumption) | assumption)
            have q175 : t172 < (l0_2.length : Int) := of_decide_eq_true (by first | (with_reducible assumption) | assumption)
            obtain ⟨ad175, e175, hx175_0, hx175_1⟩ := at_T55 HR0_2.out t172 p175 q175
            cases e175
            replace hx175_0 := (HB.out.cell (World.block_lt_of_cell? w _ hx175_0)).trans hx175_0
            replace hx175_1 := (HB.out.cell (World.block_lt_of_cell? w _ hx175_1)).trans hx175_1
            replace p175 := eq_true p175
            replace q175 := eq_true q175
            go_wp2
            go_meet
            case rel => exact ⟨_, (decide (a2 > a3)), (by first | rfl | (simp; done) | (simp [*]; done)), H', ⟨by first | omega | exact Nat.le_refl _⟩, ⟨bk_ BK171.out⟩, ⟨hb1_ HB.out GE171.out⟩⟩
          · rw [if_neg c13] at H
            have c13b0 : (((rd_T55 l0_2 t172).f0) == a1) = false := beq_eq_false_iff_ne.mpr c13
            have c13b1 : (((rd_T55 l0_2 t172).f0) != a1) = true := bne_iff_ne.mpr c13
            have H' := Aside0.mk H
            clear H
            have hcz15_0 := bc_ BK171.out 0 (.int .i64 a0_0) rfl
            have hcz15_1 := bc_ BK171.out 1 (.int .i64 a0_1) rfl
            have hcz15_2 := bc_ BK171.out 2 (.slice A0_2 l0_2.length c0_2) rfl
            have hfz15_0 := blk_frozen BK171.out 0
            have hfz15_1 := blk_frozen BK171.out 1
            have hfz15_2 := blk_frozen BK171.out 2
            have p175 : 0 ≤ (t172 : Int) := of_decide_eq_true (by first | (with_reducible assumption) | assumption)
            have q175 : t172 < (l0_2.length : Int) := of_decide_eq_true (by first | (with_reducible assumption) | assumption)
            obtain ⟨ad175, e175, hx175_0, hx175_1⟩ := at_T55 HR0_2.out t172 p175 q175
            cases e175
            replace hx175_0 := (HB.out.cell (World.block_lt_of_cell? w _ hx175_0)).trans hx175_0
            replace hx175_1 := (HB.out.cell (World.block_lt_of_cell? w _ hx175_1)).trans hx175_1
            replace p175 := eq_true p175
            replace q175 := eq_true q175
            go_wp2
            go_meet
            case rel => exact ⟨_, (true), (by first | rfl | (simp; done) | (simp [*]; done)), H', ⟨by first | omega | exact Nat.le_refl _⟩, ⟨bk_ BK171.out⟩, ⟨hb1_ HB.out GE171.out⟩⟩
        · rw [if_neg c12] at H
          exact absurd H (by simp)
      · rw [if_neg c11] at H
        exact absurd H (by simp)
    · replace c10 := Bool.eq_false_iff.mpr c10
      subst c10
      have H1 : (spec_InSlot.j0 k a3 t172 t173 true a0_0 a0_1 l0_2) = some (r1, r2, r3) := by rw [if_neg (show ¬ (false = true) by decide)] at H; exact H
      clear H
      have H := H1
      clear H1
      have H' := Aside0.mk H
      clear H
      go_wp2
      go_meet
      case rel => exact ⟨_, (true), (by first | rfl | (simp; done) | (simp [*]; done)), H', ⟨by first | omega | exact Nat.le_refl _⟩, ⟨bk_ BK171.out⟩, ⟨hb1_ HB.out GE171.out⟩⟩
  case rest =>
    clear HC6
    try clear c1
    try clear p1
    try clear q1
    try clear hx1
    try clear p2
    try clear c4
    try clear c5
    try clear c10
    try clear c11
    try clear c11b0
    try clear c12
    try clear c12b0
    try clear c13
    try clear c13b0
    try clear c13b1
    try clear hcz14_0
    try clear hcz14_1
    try clear hcz14_2
    try clear hcz15_0
    try clear hcz15_1
    try clear hcz15_2
    try clear hcz8_0
    try clear hcz8_1
    try clear hcz8_2
    try clear hfz14_0
    try clear hfz14_1
    try clear hfz14_2
    try clear hfz15_0
    try clear hfz15_1
    try clear hfz15_2
    try clear hfz8_0
    try clear hfz8_1
    try clear hfz8_2
    try clear hx175_0
    try clear hx175_1
    try clear p175
    try clear q175
    obtain ⟨kq, x39_5, rfl, HA, HJ5, BK171, HB⟩ := hcut
    cases kq with
    | zero => exact absurd HA.out (by simp [spec_InSlot.j0])
    | succ kj5 =>
      have H := HA.out
      clear HA
      simp only [spec_InSlot.j0] at H
      by_cases c16 : x39_5 = true
      · subst c16
        have H1 : (some (0, 0, false)) = some (r1, r2, r3) := by rw [if_pos rfl] at H; exact H
        clear H
        have H := H1
        clear H1
        simp only [Option.some.injEq, Prod.mk.injEq] at H
        obtain ⟨rfl, rfl, rfl⟩ := H
        go_wp2
        go_ret3
        exact ⟨er_, hb1_ HB.out GE171.out⟩
      · replace c16 := Bool.eq_false_iff.mpr c16
        subst c16
        have H1 : ((spec_Occurrence.f kj5 a0_0 a0_1 l0_2 t172 t173).bind fun bt176 => (if a3 > bt176.2.1 then (some (0, 0, false)) else (some (t172, t173, true)))) = some (r1, r2, r3) := by rw [if_neg (show ¬ (false = true) by decide)] at H; exact H
        clear H
        have H := H1
        clear H1
        replace H := Option.bind_eq_some_iff.mp H
        obtain ⟨⟨t176, t177, t178⟩, A170, H⟩ := H
        replace H : (if a3 > t177 then (some (0, 0, false)) else (some (t172, t173, true))) = some (r1, r2, r3) := H
        have A17 := Aside0.mk A170
        clear A170
        by_cases c18 : a3 > t177
        · rw [if_pos c18] at H
          have c18b0 : decide (t177 < a3) = true := decide_eq_true c18
          clear c18
          simp only [Option.some.injEq, Prod.mk.injEq] at H
          obtain ⟨rfl, rfl, rfl⟩ := H
          have hcz19_0 := bc_ BK171.out 0 (.int .i64 a0_0) rfl
          have hcz19_1 := bc_ BK171.out 1 (.int .i64 a0_1) rfl
          have hcz19_2 := bc_ BK171.out 2 (.slice A0_2 l0_2.length c0_2) rfl
          have hfz19_0 := blk_frozen BK171.out 0
          have hfz19_1 := blk_frozen BK171.out 1
          have hfz19_2 := blk_frozen BK171.out 2
          go_wp2_with (first | ((with_reducible refine gate_callee (f := 27) rfl ?_); refine goesL_ (some 44) rfl rfl Try.func27 (by kernel_rfl) rfl #[.agg #[.int .i64 a0_0, .int .i64 a0_1, .slice A0_2 l0_2.length c0_2], .int .i64 t172, .int .i64 t173] rfl arr_ ?_; (with_reducible refine (spec_Occurrence.calls kj5 a0_0 a0_1 _ _ l0_2 t172 t173 t176 t177 t178 _ ?side1 ?side2 A17.out).mono ?_); (case side1 => exact kc_ (Kd.C_below HR0_2.out HB.out)); (case side2 => exact HC0_2.out); rintro e w20 ⟨rfl, hb⟩; refine ⟨_, rfl, ?_⟩; have n0_ := am_ (bb_ BK171.out hb); have n1_ := am_ (below_step (hb1_ HB.out GE171.out) hb); clear BK171; clear HB; have BK171 := n0_; have HB := n1_; clear n0_ n1_; (try clear hb); (try clear hb2); (try clear hk); (try clear hi)) | ((with_reducible refine gate_dst (N := 14) rfl ?_); refine box_event ?hg (N := 14) ?hd (cs := #[.int .i64 0, .int .i64 0]) (t := 32) ?hr ?_; (case hd => rfl); (case hg => rfl); (case hr => first|(go_simp;done)|(go_simp;rfl)); intro gb179 hg w21 hbox hb; have n0_ := am_ (bb_ BK171.out hb); have n1_ := am_ (below_step (hb1_ HB.out GE171.out) hb); have n2_ := am_ (hbox); have n3_ := am_ (hy_ hg (hb1_ HB.out GE171.out) : w.heap.size ≤ gb179); have n4_ := am_ (hy_ hg (hb1_ HB.out GE171.out) : w.heap.size ≤ gb179); have n5_ := am_ ((bl_ hg BK171.out : gb171 ≠ gb179)); have n6_ := am_ ((bg_ hg BK171.out : gb179 ≠ gb171)); clear BK171; clear HB; have BK171 := n0_; have HB := n1_; have BK179 := n2_; have GW179 := n3_; have GE179 := n4_; have NB171_179 := n5_; have NB179_171 := n6_; clear n0_ n1_ n2_ n3_ n4_ n5_ n6_; clear hb hbox hg; have hnb22 := NB179_171.out; have hnc22 := NB171_179.out; have hcz23_0 := bc_ BK179.out 0 (.int .i64 0) rfl; have hcz23_1 := bc_ BK179.out 1 (.int .i64 0) rfl; have hfz23_0 := blk_frozen BK179.out 0; have hfz23_1 := blk_frozen BK179.out 1))
          go_ret3
          exact ⟨er_, hb2_ HB.out GE171.out GE179.out⟩
        · rw [if_neg c18] at H
          have c18b0 : decide (t177 < a3) = false := decide_eq_false c18
          clear c18
          simp only [Option.some.injEq, Prod.mk.injEq] at H
          obtain ⟨rfl, rfl, rfl⟩ := H
          have hcz24_0 := bc_ BK171.out 0 (.int .i64 a0_0) rfl
          have hcz24_1 := bc_ BK171.out 1 (.int .i64 a0_1) rfl
          have hcz24_2 := bc_ BK171.out 2 (.slice A0_2 l0_2.length c0_2) rfl
          have hfz24_0 := blk_frozen BK171.out 0
          have hfz24_1 := blk_frozen BK171.out 1
          have hfz24_2 := blk_frozen BK171.out 2
          go_wp2_with (first | ((with_reducible refine gate_callee (f := 27) rfl ?_); refine goesL_ (some 44) rfl rfl Try.func27 (by kernel_rfl) rfl #[.agg #[.int .i64 a0_0, .int .i64 a0_1, .slice A0_2 l0_2.length c0_2], .int .i64 t172, .int .i64 t173] rfl arr_ ?_; (with_reducible refine (spec_Occurrence.calls kj5 a0_0 a0_1 _ _ l0_2 t172 t173 t176 t177 t178 _ ?side1 ?side2 A17.out).mono ?_); (case side1 => exact kc_ (Kd.C_below HR0_2.out HB.out)); (case side2 => exact HC0_2.out); rintro e w25 ⟨rfl, hb⟩; refine ⟨_, rfl, ?_⟩; have n0_ := am_ (bb_ BK171.out hb); have n1_ := am_ (below_step (hb1_ HB.out GE171.out) hb); clear BK171; clear HB; have BK171 := n0_; have HB := n1_; clear n0_ n1_; (try clear hb); (try clear hb2); (try clear hk); (try clear hi)) | ((with_reducible refine gate_dst (N := 14) rfl ?_); refine box_event ?hg (N := 14) ?hd (cs := #[.int .i64 0, .int .i64 0]) (t := 32) ?hr ?_; (case hd => rfl); (case hg => rfl); (case hr => first|(go_simp;done)|(go_simp;rfl)); intro gb179 hg w26 hbox hb; have n0_ := am_ (bb_ BK171.out hb); have n1_ := am_ (below_step (hb1_ HB.out GE171.out) hb); have n2_ := am_ (hbox); have n3_ := am_ (hy_ hg (hb1_ HB.out GE171.out) : w.heap.size ≤ gb179); have n4_ := am_ (hy_ hg (hb1_ HB.out GE171.out) : w.heap.size ≤ gb179); have n5_ := am_ ((bl_ hg BK171.out : gb171 ≠ gb179)); have n6_ := am_ ((bg_ hg BK171.out : gb179 ≠ gb171)); clear BK171; clear HB; have BK171 := n0_; have HB := n1_; have BK179 := n2_; have GW179 := n3_; have GE179 := n4_; have NB171_179 := n5_; have NB179_171 := n6_; clear n0_ n1_ n2_ n3_ n4_ n5_ n6_; clear hb hbox hg; have hnb27 := NB179_171.out; have hnc27 := NB171_179.out; have hcz28_0 := bc_ BK179.out 0 (.int .i64 0) rfl; have hcz28_1 := bc_ BK179.out 1 (.int .i64 0) rfl; have hfz28_0 := blk_frozen BK179.out 0; have hfz28_1 := blk_frozen BK179.out 1))
          go_ret3
          exact ⟨er_, hb2_ HB.out GE171.out GE179.out⟩
end Go.Proofs.Ytejohmompmjhnaa.P
