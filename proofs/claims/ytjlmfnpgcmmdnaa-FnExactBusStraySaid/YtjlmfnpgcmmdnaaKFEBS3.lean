/- Texts of the seat's proofs, part 3: functions of the program told as plain functions, with their contracts, and what is shown of them. No condition. -/
import Derived.Test.YtjlmfnpgcmmdnaaUKFEBS
import Derived.Test.YtjlmfnpgcmmdnaaKFEBS1
import Derived.Test.YtjlmfnpgcmmdnaaKFEBS2
set_option linter.unusedVariables false
set_option linter.unusedSimpArgs false
namespace Go.Proofs.Ytjlmfnpgcmmdnaa.P
open Go.RowKit Go.Proofs.YtjlmfnpgcmmdnaaW.PrintWords Go.Proofs.YtjlmfnpgcmmdnaaW.PrintLast Go.Proofs.YtjlmfnpgcmmdnaaW.PrintMore
attribute [local go_sem] max2_int min2_int max_two min_two max_three min_three max_four min_four
set_option linter.unusedVariables false
set_option linter.unusedSimpArgs false
def impl_Occurrence.j0 : Nat → Int → Int → Bool → Int → Int → List (S90) → Option (Int × Int × Bool)
  | 0, _, _, _, _, _, _ => none
  | k + 1, x1, x2, x20, x766000, x766001, x766002 => if x20 = true then (some (0, 0, false)) else ((impl_Plan_round.f k x766000 x766001 x766002).bind fun t770 => ((impl_Plan_from.f k x766000 x766001 x766002 x1).bind fun t771 => (if 0 ≤ x1 then (if x1 < (x766002.length : Int) then ((impl_ival.f (wrap64 ((wrap64 (x766000 + (wrap64 (x2 * t770)))) + t771)) (wrap64 ((wrap64 ((wrap64 (x766000 + (wrap64 (x2 * t770)))) + t771)) + ((rd_T90 x766002 x1).f1)))).bind fun bt773 => (some (bt773.1, bt773.2.1, bt773.2.2))) else (none)) else (none))))
def impl_Occurrence.f (k : Nat) (a0_0 : Int) (a0_1 : Int) (l0_2 : List (S90)) (a1 : Int) (a2 : Int) : Option (Int × Int × Bool) := (impl_isSlot.f k a0_0 a0_1 l0_2 a1).bind fun t767 => (if t767 = true then ((impl_Plan_round.f k a0_0 a0_1 l0_2).bind fun t768 => (if t768 = 0 then (none) else ((impl_in.f a2 0 (wrap64 (Int.tdiv (1000000000000 : Int) t768))).bind fun t769 => (impl_Occurrence.j0 k a1 a2 (!t769) a0_0 a0_1 l0_2)))) else (impl_Occurrence.j0 k a1 a2 true a0_0 a0_1 l0_2))
def impl_Occurrence.T3 : Bool × List (List Nat × List Nat) := (true, [([], []), ([0], [0]), ([], []), ([], []), ([3], [3]), ([2, 4], [2, 4]), ([1, 5], [1, 5]), ([], []), ([], []), ([7, 8, 4], [7, 8]), ([6, 9], [6, 9]), ([10, 9, 0, 1, 2, 3, 4, 5, 6, 7, 8, 9, 10], [10])])
def impl_Occurrence.B3 : List Nat := [0, 1, 0, 0, 8, 28, 63, 0, 0, 408, 1023, 2047]
theorem impl_Occurrence.tab3 : rtab .any (opsOf Try.f96 3) = impl_Occurrence.T3 := by kernel_rfl
theorem impl_Occurrence.bits3 : waitsOk impl_Occurrence.T3.2 impl_Occurrence.B3 = true := by kernel_rfl
set_option maxHeartbeats 8000000 in
set_option maxRecDepth 100000 in
theorem impl_Occurrence.calls (k : Nat) (a0_0 : Int) (a0_1 : Int) (A0_2 : Option Addr) (c0_2 : Nat) (l0_2 : List (S90)) (a1 : Int) (a2 : Int) (r1 : Int) (r2 : Int) (r3 : Bool) (w : World) (hr0_2 : Kd.C k90 w A0_2 l0_2.length l0_2) (hc0_2 : l0_2.length ≤ c0_2) (h : impl_Occurrence.f k a0_0 a0_1 l0_2 a1 a2 = some (r1, r2, r3)) :
    Calls Try.prog 96 #[.agg #[.int .i64 a0_0, .int .i64 a0_1, .slice A0_2 l0_2.length c0_2], .int .i64 a1, .int .i64 a2] w fun e w' => e = .returned (.tuple #[.agg #[.int .i64 r1, .int .i64 r2], .bool r3]) ∧ Below w.heap.size w w' := by
  have hu59 := Try.underlying59
  have hu43 := Try.underlying43
  have HR0_2 := Aside0.mk hr0_2
  have HC0_2 := Aside0.mk hc0_2
  clear hr0_2 hc0_2
  have HB := Aside0.mk (Below.refl w.heap.size w)
  have H : ((impl_isSlot.f k a0_0 a0_1 l0_2 a1).bind fun t767 => (if t767 = true then ((impl_Plan_round.f k a0_0 a0_1 l0_2).bind fun t768 => (if t768 = 0 then (none) else ((impl_in.f a2 0 (wrap64 (Int.tdiv (1000000000000 : Int) t768))).bind fun t769 => (impl_Occurrence.j0 k a1 a2 (!t769) a0_0 a0_1 l0_2)))) else (impl_Occurrence.j0 k a1 a2 true a0_0 a0_1 l0_2))) = some (r1, r2, r3) := h
  clear h
  have HC4 := Aside0.mk H
  clear H
  go_enter Try.func96, Try.ntmps96
  go_upto_region 1 with (first | ((with_reducible refine gate_dst (N := 3) rfl ?_); refine box_event ?hg (N := 3) ?hd (cs := #[.int .i64 a0_0, .int .i64 a0_1, .slice A0_2 l0_2.length c0_2]) (t := 59) ?hr ?_; (case hd => rfl); (case hg => rfl); (case hr => first | (go_simp; done) | (go_simp; rfl)); intro gb765 hg w5 hbox hb; have n0_ := Aside0.mk (below_step (hb_ HB.out) hb); have n1_ := Aside0.mk (hbox); have n2_ := Aside0.mk ((by rw [hg]; exact (below_size (hb_ HB.out)) : w.heap.size ≤ gb765)); have n3_ := Aside0.mk ((by rw [hg]; exact (below_size (hb_ HB.out)) : w.heap.size ≤ gb765)); clear HB; have HB := n0_; have BK765 := n1_; have GW765 := n2_; have GE765 := n3_; clear n0_ n1_ n2_ n3_; clear hb hbox hg) | ((with_reducible refine gate_dst (N := 6) rfl ?_); refine box_event ?hg (N := 6) ?hd (cs := #[.int .i64 0, .int .i64 0]) (t := 43) ?hr ?_; (case hd => rfl); (case hg => rfl); (case hr => first | (go_simp; done) | (go_simp; rfl)); intro gb766 hg w6 hbox hb; have n0_ := Aside0.mk (bb_ BK765.out hb); have n1_ := Aside0.mk (below_step (hb1_ HB.out GE765.out) hb); have n2_ := Aside0.mk (hbox); have n3_ := Aside0.mk ((by rw [hg]; exact (below_size (hb1_ HB.out GE765.out)) : w.heap.size ≤ gb766)); have n4_ := Aside0.mk ((by rw [hg]; exact (below_size (hb1_ HB.out GE765.out)) : w.heap.size ≤ gb766)); have n5_ := Aside0.mk ((bl_ hg BK765.out : gb765 ≠ gb766)); have n6_ := Aside0.mk ((bg_ hg BK765.out : gb766 ≠ gb765)); clear BK765; clear HB; have BK765 := n0_; have HB := n1_; have BK766 := n2_; have GW766 := n3_; have GE766 := n4_; have NB765_766 := n5_; have NB766_765 := n6_; clear n0_ n1_ n2_ n3_ n4_ n5_ n6_; clear hb hbox hg))
  (try simp only [Act.put, List.setIfInBounds_toArray, List.set_cons_zero, List.set_cons_succ])
  go_cut [20] (fun v20 wc => ∃ (kq : Nat) (x20_3 : Bool), v20 = .bool x20_3 ∧ Aside0 (impl_Occurrence.j0 kq a1 a2 x20_3 a0_0 a0_1 l0_2 = some (r1, r2, r3)) ∧ Aside0 (kq ≤ k) ∧ Aside0 (wc.heap[gb765]? = some (.cells #[.int .i64 a0_0, .int .i64 a0_1, (.slice A0_2 l0_2.length c0_2)] 59 (0, 0))) ∧ Aside0 (wc.heap[gb766]? = some (.cells #[.int .i64 0, .int .i64 0] 43 (0, 0))) ∧ Aside0 (Below w.heap.size w wc))
  case first =>
    have H := HC4.out
    clear HC4
    replace H := Option.bind_eq_some_iff.mp H
    obtain ⟨t767, A70, H⟩ := H
    replace H : (if t767 = true then ((impl_Plan_round.f k a0_0 a0_1 l0_2).bind fun t768 => (if t768 = 0 then (none) else ((impl_in.f a2 0 (wrap64 (Int.tdiv (1000000000000 : Int) t768))).bind fun t769 => (impl_Occurrence.j0 k a1 a2 (!t769) a0_0 a0_1 l0_2)))) else (impl_Occurrence.j0 k a1 a2 true a0_0 a0_1 l0_2)) = some (r1, r2, r3) := H
    have A7 := Aside0.mk A70
    clear A70
    by_cases c8 : t767 = true
    · subst c8
      have H1 : ((impl_Plan_round.f k a0_0 a0_1 l0_2).bind fun t768 => (if t768 = 0 then (none) else ((impl_in.f a2 0 (wrap64 (Int.tdiv (1000000000000 : Int) t768))).bind fun t769 => (impl_Occurrence.j0 k a1 a2 (!t769) a0_0 a0_1 l0_2)))) = some (r1, r2, r3) := by rw [if_pos rfl] at H; exact H
      clear H
      have H := H1
      clear H1
      replace H := Option.bind_eq_some_iff.mp H
      obtain ⟨t768, A90, H⟩ := H
      replace H : (if t768 = 0 then (none) else ((impl_in.f a2 0 (wrap64 (Int.tdiv (1000000000000 : Int) t768))).bind fun t769 => (impl_Occurrence.j0 k a1 a2 (!t769) a0_0 a0_1 l0_2))) = some (r1, r2, r3) := H
      have A9 := Aside0.mk A90
      clear A90
      by_cases c10 : t768 = 0
      · rw [if_pos c10] at H
        exact absurd H (by simp)
      · rw [if_neg c10] at H
        have c10b0 : (t768 == 0) = false := beq_eq_false_iff_ne.mpr c10
        have c10b1 : (t768 != 0) = true := bne_iff_ne.mpr c10
        (first | rw [c10b0] | (simp only [i64_w, i32_w]; rw [c10b0]) | skip)
        replace H := Option.bind_eq_some_iff.mp H
        obtain ⟨t769, A110, H⟩ := H
        replace H : (impl_Occurrence.j0 k a1 a2 (!t769) a0_0 a0_1 l0_2) = some (r1, r2, r3) := H
        have A11 := Aside0.mk A110
        clear A110
        have H' := Aside0.mk H
        clear H
        have hnb12 := NB765_766.out
        have hnc12 := NB766_765.out
        have hcz13_0 := bc_ BK765.out 0 (.int .i64 a0_0) rfl
        have hcz13_1 := bc_ BK765.out 1 (.int .i64 a0_1) rfl
        have hcz13_2 := bc_ BK765.out 2 (.slice A0_2 l0_2.length c0_2) rfl
        have hfz13_0 := blk_frozen BK765.out 0
        have hfz13_1 := blk_frozen BK765.out 1
        have hfz13_2 := blk_frozen BK765.out 2
        go_wp2_with (first | ((with_reducible refine gate_callee (f := 106) rfl ?_); refine goesL_ (some 11) rfl rfl Try.func106 (by kernel_rfl) rfl #[.agg #[.int .i64 a0_0, .int .i64 a0_1, .slice A0_2 l0_2.length c0_2], .int .i64 a1] rfl arr_ ?_; (with_reducible refine (impl_isSlot.calls k a0_0 a0_1 _ _ l0_2 a1 true _ ?side1 ?side2 A7.out).mono ?_); (case side1 => exact kc_ (Kd.C_below HR0_2.out HB.out)); (case side2 => exact HC0_2.out); rintro e w14 ⟨rfl, hb⟩; refine ⟨_, rfl, ?_⟩; have n0_ := Aside0.mk (bb_ BK765.out hb); have n1_ := Aside0.mk (bb_ BK766.out hb); have n2_ := Aside0.mk (below_step (hb2_ HB.out GE765.out GE766.out) hb); clear BK765; clear BK766; clear HB; have BK765 := n0_; have BK766 := n1_; have HB := n2_; clear n0_ n1_ n2_; (try clear hb); (try clear hb2); (try clear hk); (try clear hi); have hcz15_0 := bc_ BK765.out 0 (.int .i64 a0_0) rfl; have hcz15_1 := bc_ BK765.out 1 (.int .i64 a0_1) rfl; have hcz15_2 := bc_ BK765.out 2 (.slice A0_2 l0_2.length c0_2) rfl; have hfz15_0 := blk_frozen BK765.out 0; have hfz15_1 := blk_frozen BK765.out 1; have hfz15_2 := blk_frozen BK765.out 2) | (go_at_call 104; (with_reducible refine (impl_Plan_round.calls k a0_0 a0_1 _ _ l0_2 t768 _ ?side1 ?side2 A9.out).mono ?_); (case side1 => exact kc_ (Kd.C_below HR0_2.out HB.out)); (case side2 => exact HC0_2.out); rintro e w16 ⟨rfl, hb⟩; have n0_ := Aside0.mk (bb_ BK765.out hb); have n1_ := Aside0.mk (bb_ BK766.out hb); have n2_ := Aside0.mk (below_step (hb2_ HB.out GE765.out GE766.out) hb); clear BK765; clear BK766; clear HB; have BK765 := n0_; have BK766 := n1_; have HB := n2_; clear n0_ n1_ n2_; (try clear hb); (try clear hb2); (try clear hk); (try clear hi)) | (go_at_call 85; (with_reducible refine (impl_in.calls a2 0 (wrap64 (Int.tdiv (1000000000000 : Int) t768)) t769 _ A11.out).mono ?_); rintro e w' ⟨rfl, ⟨nd, rfl⟩⟩))
        go_meet
        case rel => exact ⟨_, (!t769), (by first | rfl | (simp; done) | (simp [*]; done)), H', ⟨by first | omega | exact Nat.le_refl _⟩, ⟨bk_ BK765.out⟩, ⟨bk_ BK766.out⟩, ⟨hb2_ HB.out GE765.out GE766.out⟩⟩
    · replace c8 := Bool.eq_false_iff.mpr c8
      subst c8
      have H1 : (impl_Occurrence.j0 k a1 a2 true a0_0 a0_1 l0_2) = some (r1, r2, r3) := by rw [if_neg (show ¬ (false = true) by decide)] at H; exact H
      clear H
      have H := H1
      clear H1
      have H' := Aside0.mk H
      clear H
      have hnb17 := NB765_766.out
      have hnc17 := NB766_765.out
      have hcz18_0 := bc_ BK765.out 0 (.int .i64 a0_0) rfl
      have hcz18_1 := bc_ BK765.out 1 (.int .i64 a0_1) rfl
      have hcz18_2 := bc_ BK765.out 2 (.slice A0_2 l0_2.length c0_2) rfl
      have hfz18_0 := blk_frozen BK765.out 0
      have hfz18_1 := blk_frozen BK765.out 1
      have hfz18_2 := blk_frozen BK765.out 2
      go_wp2_with (first | ((with_reducible refine gate_callee (f := 106) rfl ?_); refine goesL_ (some 11) rfl rfl Try.func106 (by kernel_rfl) rfl #[.agg #[.int .i64 a0_0, .int .i64 a0_1, .slice A0_2 l0_2.length c0_2], .int .i64 a1] rfl arr_ ?_; (with_reducible refine (impl_isSlot.calls k a0_0 a0_1 _ _ l0_2 a1 false _ ?side1 ?side2 A7.out).mono ?_); (case side1 => exact kc_ (Kd.C_below HR0_2.out HB.out)); (case side2 => exact HC0_2.out); rintro e w19 ⟨rfl, hb⟩; refine ⟨_, rfl, ?_⟩; have n0_ := Aside0.mk (bb_ BK765.out hb); have n1_ := Aside0.mk (bb_ BK766.out hb); have n2_ := Aside0.mk (below_step (hb2_ HB.out GE765.out GE766.out) hb); clear BK765; clear BK766; clear HB; have BK765 := n0_; have BK766 := n1_; have HB := n2_; clear n0_ n1_ n2_; (try clear hb); (try clear hb2); (try clear hk); (try clear hi)))
      go_meet
      case rel => exact ⟨_, (true), (by first | rfl | (simp; done) | (simp [*]; done)), H', ⟨by first | omega | exact Nat.le_refl _⟩, ⟨bk_ BK765.out⟩, ⟨bk_ BK766.out⟩, ⟨hb2_ HB.out GE765.out GE766.out⟩⟩
  case rest =>
    clear HC4
    try clear c1
    try clear p2
    try clear p6
    try clear c8
    try clear c9
    try clear c10
    try clear c10b0
    try clear c10b1
    try clear c12
    try clear c17
    try clear hcz13_0
    try clear hcz13_1
    try clear hcz13_2
    try clear hcz15_0
    try clear hcz15_1
    try clear hcz15_2
    try clear hcz18_0
    try clear hcz18_1
    try clear hcz18_2
    try clear hfz13_0
    try clear hfz13_1
    try clear hfz13_2
    try clear hfz15_0
    try clear hfz15_1
    try clear hfz15_2
    try clear hfz18_0
    try clear hfz18_1
    try clear hfz18_2
    obtain ⟨kq, x20_3, rfl, HA, HJ3, BK765, BK766, HB⟩ := hcut
    cases kq with
    | zero => exact absurd HA.out (by simp [impl_Occurrence.j0])
    | succ kj3 =>
      have H := HA.out
      clear HA
      simp only [impl_Occurrence.j0] at H
      by_cases c20 : x20_3 = true
      · subst c20
        have H1 : (some (0, 0, false)) = some (r1, r2, r3) := by rw [if_pos rfl] at H; exact H
        clear H
        have H := H1
        clear H1
        simp only [Option.some.injEq, Prod.mk.injEq] at H
        obtain ⟨rfl, rfl, rfl⟩ := H
        have hnb21 := NB766_765.out
        have hnc21 := NB765_766.out
        have hcz22_0 := bc_ BK766.out 0 (.int .i64 0) rfl
        have hcz22_1 := bc_ BK766.out 1 (.int .i64 0) rfl
        have hfz22_0 := blk_frozen BK766.out 0
        have hfz22_1 := blk_frozen BK766.out 1
        go_wp2
        refine bodyPost_ret (results_ct rfl _ _ gb766 43 #[.int .i64 0, .int .i64 0] (0, 0) _ rfl (by (with_reducible repeat (first | refine blk_drewN ?_ _ | refine blk_drew ?_ | refine blk_alloc ?_ _)); refine blk_put (cs := #[.int .i64 0, .int .i64 0]) ?_ 1 _ rfl; (with_reducible repeat (first | refine blk_drewN ?_ _ | refine blk_drew ?_ | refine blk_alloc ?_ _)); refine blk_put (cs := #[.int .i64 0, .int .i64 0]) ?_ 0 _ rfl; (with_reducible repeat (first | refine blk_drewN ?_ _ | refine blk_drew ?_ | refine blk_alloc ?_ _)); exact BK766.out) Try.underlying43 rfl (by kernel_rfl)) rfl ?_
        exact ⟨er_, hb2_ HB.out GE765.out GE766.out⟩
      · replace c20 := Bool.eq_false_iff.mpr c20
        subst c20
        have H1 : ((impl_Plan_round.f kj3 a0_0 a0_1 l0_2).bind fun t770 => ((impl_Plan_from.f kj3 a0_0 a0_1 l0_2 a1).bind fun t771 => (if 0 ≤ a1 then (if a1 < (l0_2.length : Int) then ((impl_ival.f (wrap64 ((wrap64 (a0_0 + (wrap64 (a2 * t770)))) + t771)) (wrap64 ((wrap64 ((wrap64 (a0_0 + (wrap64 (a2 * t770)))) + t771)) + ((rd_T90 l0_2 a1).f1)))).bind fun bt773 => (some (bt773.1, bt773.2.1, bt773.2.2))) else (none)) else (none)))) = some (r1, r2, r3) := by rw [if_neg (show ¬ (false = true) by decide)] at H; exact H
        clear H
        have H := H1
        clear H1
        replace H := Option.bind_eq_some_iff.mp H
        obtain ⟨t770, A230, H⟩ := H
        replace H : ((impl_Plan_from.f kj3 a0_0 a0_1 l0_2 a1).bind fun t771 => (if 0 ≤ a1 then (if a1 < (l0_2.length : Int) then ((impl_ival.f (wrap64 ((wrap64 (a0_0 + (wrap64 (a2 * t770)))) + t771)) (wrap64 ((wrap64 ((wrap64 (a0_0 + (wrap64 (a2 * t770)))) + t771)) + ((rd_T90 l0_2 a1).f1)))).bind fun bt773 => (some (bt773.1, bt773.2.1, bt773.2.2))) else (none)) else (none))) = some (r1, r2, r3) := H
        have A23 := Aside0.mk A230
        clear A230
        replace H := Option.bind_eq_some_iff.mp H
        obtain ⟨t771, A240, H⟩ := H
        replace H : (if 0 ≤ a1 then (if a1 < (l0_2.length : Int) then ((impl_ival.f (wrap64 ((wrap64 (a0_0 + (wrap64 (a2 * t770)))) + t771)) (wrap64 ((wrap64 ((wrap64 (a0_0 + (wrap64 (a2 * t770)))) + t771)) + ((rd_T90 l0_2 a1).f1)))).bind fun bt773 => (some (bt773.1, bt773.2.1, bt773.2.2))) else (none)) else (none)) = some (r1, r2, r3) := H
        have A24 := Aside0.mk A240
        clear A240
        by_cases c25 : 0 ≤ a1
        · rw [if_pos c25] at H
          have c25b0 : decide (0 ≤ a1) = true := decide_eq_true c25
          clear c25
          by_cases c26 : a1 < (l0_2.length : Int)
          · rw [if_pos c26] at H
            have c26b0 : decide (a1 < (l0_2.length : Int)) = true := decide_eq_true c26
            clear c26
            replace H := Option.bind_eq_some_iff.mp H
            obtain ⟨⟨t773, t774, t775⟩, A270, H⟩ := H
            replace H : (some (t773, t774, t775)) = some (r1, r2, r3) := H
            have A27 := Aside0.mk A270
            clear A270
            simp only [Option.some.injEq, Prod.mk.injEq] at H
            obtain ⟨rfl, rfl, rfl⟩ := H
            try go_wp2
            have n0_ := Aside0.mk (blk_drew BK765.out)
            have n1_ := Aside0.mk (blk_drew BK766.out)
            have n2_ := Aside0.mk (below_drew1 HB.out)
            clear BK765
            clear BK766
            clear HB
            have BK765 := n0_
            have BK766 := n1_
            have HB := n2_
            clear n0_ n1_ n2_
            refine start_ (n := 12) (S := fun w' => w'.cell? ⟨gb765, 0, none⟩ = some (.int .i64 a0_0) ∧ w'.cell? ⟨gb765, 1, none⟩ = some (.int .i64 a0_1) ∧ w'.cell? ⟨gb765, 2, none⟩ = some (.slice A0_2 l0_2.length c0_2)) (ds := []) #[false, false, false, false, false, false, false, false, false, false, false, false] (by kernel_rfl) rfl rfl ⟨(blk_cell BK765.out 0).trans rfl, (blk_cell BK765.out 1).trans rfl, (blk_cell BK765.out 2).trans rfl⟩ (fun hHeld => ?_); refine with_tabW impl_Occurrence.tab3 impl_Occurrence.bits3 (fun HT_ HW_ => ?_)
            generalize wc.drew = w28 at BK765 BK766 HB hHeld ⊢
            refine pure_ (i := 0) (N := some 22) (v := ?_) (a' := ?_) #[true, false, false, false, false, false, false, false, false, false, false, false] rfl rfl (any_of HT_.out (by kernel_rfl)) (fun _ _ _ h => h) (Or.inl ⟨by rfl, ?_⟩) ?_ ?_
            rotate_left
            · intro w'
              go_simp
              with_reducible rfl
            rotate_left
            · simp only [Act.put, List.setIfInBounds_toArray, List.set_cons_zero, List.set_cons_succ, i64_w, i32_w]
              rfl
            refine pure_ (i := 2) (N := some 24) (v := ?_) (a' := ?_) #[true, false, true, false, false, false, false, false, false, false, false, false] rfl rfl (any_of HT_.out (by kernel_rfl)) (fun _ _ _ h => h) (Or.inl ⟨by rfl, ?_⟩) ?_ ?_
            rotate_left
            · intro w'
              go_simp
              with_reducible rfl
            rotate_left
            · simp only [Act.put, List.setIfInBounds_toArray, List.set_cons_zero, List.set_cons_succ, i64_w, i32_w]
              rfl
            refine pure_ (i := 8) (N := some 30) (v := ?_) (a' := ?_) #[true, false, true, false, false, false, false, false, true, false, false, false] rfl rfl (any_of HT_.out (by kernel_rfl)) (fun _ _ _ h => h) (Or.inl ⟨by rfl, ?_⟩) ?_ ?_
            rotate_left
            · intro w'
              go_simp
              with_reducible rfl
            rotate_left
            · simp only [Act.put, List.setIfInBounds_toArray, List.set_cons_zero, List.set_cons_succ, i64_w, i32_w]
              rfl
            refine take_ (i := 1) (N := some 23) (v := ?_) (a' := ?_) #[true, true, true, false, false, false, false, false, true, false, false, false] rfl rfl (take_ofW HT_.out HW_.out (by kernel_rfl)) (fun _ _ _ h => h) (Or.inl ⟨by rfl, ?_⟩) hHeld ?_ ?_
            rotate_left
            · rintro w' ⟨s0, s1, s2⟩
              go_simp
              with_reducible rfl
            rotate_left
            · simp only [Act.put, List.setIfInBounds_toArray, List.set_cons_zero, List.set_cons_succ, i64_w, i32_w]
              rfl
            refine take_ (i := 3) (N := some 25) (v := ?_) (a' := ?_) #[true, true, true, true, false, false, false, false, true, false, false, false] rfl rfl (take_ofW HT_.out HW_.out (by kernel_rfl)) (fun _ _ _ h => h) (Or.inl ⟨by rfl, ?_⟩) hHeld ?_ ?_
            rotate_left
            · rintro w' ⟨s0, s1, s2⟩
              go_simp
              with_reducible rfl
            rotate_left
            · simp only [Act.put, List.setIfInBounds_toArray, List.set_cons_zero, List.set_cons_succ, i64_w, i32_w]
              rfl
            refine take_ (i := 7) (N := some 29) (v := ?_) (a' := ?_) #[true, true, true, true, false, false, false, true, true, false, false, false] rfl rfl (take_ofW HT_.out HW_.out (by kernel_rfl)) (fun _ _ _ h => h) (Or.inl ⟨by rfl, ?_⟩) hHeld ?_ ?_
            rotate_left
            · rintro w' ⟨s0, s1, s2⟩
              go_simp
              with_reducible rfl
            rotate_left
            · simp only [Act.put, List.setIfInBounds_toArray, List.set_cons_zero, List.set_cons_succ, i64_w, i32_w]
              rfl
            refine one_ (i := 4) (N := some 26) #[true, true, true, true, true, false, false, true, true, false, false, false] rfl rfl (one_of HT_.out (by kernel_rfl)) (by decide) (fun K hK => ?_)
            refine goes_ Try.func104 (by kernel_rfl) rfl #[.agg #[.int .i64 a0_0, .int .i64 a0_1, .slice A0_2 l0_2.length c0_2]] (by rfl) rfl rfl arr_ ?_
            with_reducible refine (impl_Plan_round.calls kj3 a0_0 a0_1 _ _ l0_2 t770 _ ?side1 ?side2 A23.out).mono ?_
            (case side1 => exact kc_ (Kd.C_below HR0_2.out HB.out))
            (case side2 => exact HC0_2.out)
            rintro e w29 ⟨rfl, hb⟩
            refine ⟨_, rfl, ?_⟩
            have n0_ := Aside0.mk (bb_ BK765.out hb)
            have n1_ := Aside0.mk (bb_ BK766.out hb)
            have n2_ := Aside0.mk (below_step (hb2_ HB.out GE765.out GE766.out) hb)
            clear BK765
            clear BK766
            clear HB
            have BK765 := n0_
            have BK766 := n1_
            have HB := n2_
            clear n0_ n1_ n2_
            (try clear hb)
            (try clear hb2)
            (try clear hk)
            (try clear hi)
            refine hK.out _ _ ⟨(blk_cell BK765.out 0).trans rfl, (blk_cell BK765.out 1).trans rfl, (blk_cell BK765.out 2).trans rfl⟩ (fun hHeld => ?_)
            clear hK K
            refine norm_ (a' := ?_) ?_ ?_
            rotate_left
            · show Act.put _ (some 26) _ = _
              simp only [Act.put, List.setIfInBounds_toArray, List.set_cons_zero, List.set_cons_succ, i64_w, i32_w]
              rfl
            refine pure_ (i := 5) (N := some 27) (v := ?_) (a' := ?_) #[true, true, true, true, true, true, false, true, true, false, false, false] rfl rfl (any_of HT_.out (by kernel_rfl)) (fun _ _ _ h => h) (Or.inl ⟨by rfl, ?_⟩) ?_ ?_
            rotate_left
            · intro w'
              go_simp
              with_reducible rfl
            rotate_left
            · simp only [Act.put, List.setIfInBounds_toArray, List.set_cons_zero, List.set_cons_succ, i64_w, i32_w]
              rfl
            refine pure_ (i := 6) (N := some 28) (v := ?_) (a' := ?_) #[true, true, true, true, true, true, true, true, true, false, false, false] rfl rfl (any_of HT_.out (by kernel_rfl)) (fun _ _ _ h => h) (Or.inl ⟨by rfl, ?_⟩) ?_ ?_
            rotate_left
            · intro w'
              go_simp
              with_reducible rfl
            rotate_left
            · simp only [Act.put, List.setIfInBounds_toArray, List.set_cons_zero, List.set_cons_succ, i64_w, i32_w]
              rfl
            refine one_ (i := 9) (N := some 31) #[true, true, true, true, true, true, true, true, true, true, false, false] rfl rfl (one_of HT_.out (by kernel_rfl)) (by decide) (fun K hK => ?_)
            refine goes_ Try.func105 (by kernel_rfl) rfl #[.agg #[.int .i64 a0_0, .int .i64 a0_1, .slice A0_2 l0_2.length c0_2], .int .i64 a1] (by rfl) rfl rfl arr_ ?_
            with_reducible refine (impl_Plan_from.calls kj3 a0_0 a0_1 _ _ l0_2 a1 t771 _ ?side1 ?side2 A24.out).mono ?_
            (case side1 => exact kc_ (Kd.C_below HR0_2.out HB.out))
            (case side2 => exact HC0_2.out)
            rintro e w30 ⟨rfl, hb⟩
            refine ⟨_, rfl, ?_⟩
            have n0_ := Aside0.mk (bb_ BK765.out hb)
            have n1_ := Aside0.mk (bb_ BK766.out hb)
            have n2_ := Aside0.mk (below_step (hb2_ HB.out GE765.out GE766.out) hb)
            clear BK765
            clear BK766
            clear HB
            have BK765 := n0_
            have BK766 := n1_
            have HB := n2_
            clear n0_ n1_ n2_
            (try clear hb)
            (try clear hb2)
            (try clear hk)
            (try clear hi)
            refine hK.out _ _ ⟨(blk_cell BK765.out 0).trans rfl, (blk_cell BK765.out 1).trans rfl, (blk_cell BK765.out 2).trans rfl⟩ (fun hHeld => ?_)
            clear hK K
            refine norm_ (a' := ?_) ?_ ?_
            rotate_left
            · show Act.put _ (some 31) _ = _
              simp only [Act.put, List.setIfInBounds_toArray, List.set_cons_zero, List.set_cons_succ, i64_w, i32_w]
              rfl
            refine pure_ (i := 10) (N := some 32) (v := ?_) (a' := ?_) #[true, true, true, true, true, true, true, true, true, true, true, false] rfl rfl (any_of HT_.out (by kernel_rfl)) (fun _ _ _ h => h) (Or.inl ⟨by rfl, ?_⟩) ?_ ?_
            rotate_left
            · intro w'
              go_simp
              with_reducible rfl
            rotate_left
            · simp only [Act.put, List.setIfInBounds_toArray, List.set_cons_zero, List.set_cons_succ, i64_w, i32_w]
              rfl
            refine pure_ (i := 11) (N := some 8) (v := ?_) (a' := ?_) #[true, true, true, true, true, true, true, true, true, true, true, true] rfl rfl (any_of HT_.out (by kernel_rfl)) (fun _ _ _ h => h) (Or.inl ⟨by rfl, ?_⟩) ?_ ?_
            rotate_left
            · intro w'
              go_simp
              with_reducible rfl
            rotate_left
            · simp only [Act.put, List.setIfInBounds_toArray, List.set_cons_zero, List.set_cons_succ, i64_w, i32_w]
              rfl
            refine done_ (done_of HT_.out (by kernel_rfl)) ?_
            have hnb31 := NB765_766.out
            have hnc31 := NB766_765.out
            have hcz32_0 := bc_ BK765.out 0 (.int .i64 a0_0) rfl
            have hcz32_1 := bc_ BK765.out 1 (.int .i64 a0_1) rfl
            have hcz32_2 := bc_ BK765.out 2 (.slice A0_2 l0_2.length c0_2) rfl
            have hfz32_0 := blk_frozen BK765.out 0
            have hfz32_1 := blk_frozen BK765.out 1
            have hfz32_2 := blk_frozen BK765.out 2
            have p772 : 0 ≤ (a1 : Int) := of_decide_eq_true (by first | (with_reducible assumption) | assumption)
            have q772 : a1 < (l0_2.length : Int) := of_decide_eq_true (by first | (with_reducible assumption) | assumption)
            obtain ⟨ad772, e772, hx772_0, hx772_1⟩ := at_T90 HR0_2.out a1 p772 q772
            cases e772
            replace hx772_0 := (HB.out.cell (World.block_lt_of_cell? w _ hx772_0)).trans hx772_0
            replace hx772_1 := (HB.out.cell (World.block_lt_of_cell? w _ hx772_1)).trans hx772_1
            replace p772 := eq_true p772
            replace q772 := eq_true q772
            try go_wp2_with (first | ((with_reducible refine gate_callee (f := 107) rfl ?_); refine goesL_ (some 42) rfl rfl Try.func107 (by kernel_rfl) rfl #[.int .i64 (wrap64 ((wrap64 (a0_0 + (wrap64 (a2 * t770)))) + t771)), .int .i64 (wrap64 ((wrap64 ((wrap64 (a0_0 + (wrap64 (a2 * t770)))) + t771)) + ((rd_T90 l0_2 a1).f1)))] rfl arr_ ?_; (with_reducible refine (impl_ival.calls (wrap64 ((wrap64 (a0_0 + (wrap64 (a2 * t770)))) + t771)) (wrap64 ((wrap64 ((wrap64 (a0_0 + (wrap64 (a2 * t770)))) + t771)) + ((rd_T90 l0_2 a1).f1))) t773 t774 t775 _ A27.out).mono ?_); rintro e w33 ⟨rfl, hb⟩; refine ⟨_, rfl, ?_⟩; have n0_ := Aside0.mk (bb_ BK765.out hb); have n1_ := Aside0.mk (bb_ BK766.out hb); have n2_ := Aside0.mk (below_step (hb2_ HB.out GE765.out GE766.out) hb); clear BK765; clear BK766; clear HB; have BK765 := n0_; have BK766 := n1_; have HB := n2_; clear n0_ n1_ n2_; (try clear hb); (try clear hb2); (try clear hk); (try clear hi); have hcz34_0 := bc_ BK766.out 0 (.int .i64 0) rfl; have hcz34_1 := bc_ BK766.out 1 (.int .i64 0) rfl; have hfz34_0 := blk_frozen BK766.out 0; have hfz34_1 := blk_frozen BK766.out 1))
            refine bodyPost_ret (results_ct rfl _ _ gb766 43 #[.int .i64 t773, .int .i64 t774] (0, 0) _ rfl (by (with_reducible repeat (first | refine blk_drewN ?_ _ | refine blk_drew ?_ | refine blk_alloc ?_ _)); refine blk_put (cs := #[.int .i64 t773, .int .i64 0]) ?_ 1 _ rfl; (with_reducible repeat (first | refine blk_drewN ?_ _ | refine blk_drew ?_ | refine blk_alloc ?_ _)); refine blk_put (cs := #[.int .i64 0, .int .i64 0]) ?_ 0 _ rfl; (with_reducible repeat (first | refine blk_drewN ?_ _ | refine blk_drew ?_ | refine blk_alloc ?_ _)); exact BK766.out) Try.underlying43 rfl (by kernel_rfl)) rfl ?_
            exact ⟨er_, hb2_ HB.out GE765.out GE766.out⟩
          · rw [if_neg c26] at H
            exact absurd H (by simp)
        · rw [if_neg c25] at H
          exact absurd H (by simp)
end Go.Proofs.Ytjlmfnpgcmmdnaa.P
namespace Go.Proofs.Ytjlmfnpgcmmdnaa.P
open Go.RowKit Go.Proofs.YtjlmfnpgcmmdnaaW.PrintWords Go.Proofs.YtjlmfnpgcmmdnaaW.PrintLast Go.Proofs.YtjlmfnpgcmmdnaaW.PrintMore
attribute [local go_sem] max2_int min2_int max_two min_two max_three min_three max_four min_four
set_option linter.unusedVariables false
set_option linter.unusedSimpArgs false
mutual
def impl_SlotAt.j0 : Nat → Int → Bool → Int → Int → List (S90) → Option (Int × Int × Bool)
  | 0, _, _, _, _, _ => none
  | k + 1, x1, x26, x777000, x777001, x777002 => if x26 = true then (some (0, 0, false)) else ((impl_Plan_round.f k x777000 x777001 x777002).bind fun t779 => (if t779 = 0 then (none) else ((impl_Plan_round.f k x777000 x777001 x777002).bind fun t780 => (if t780 = 0 then (none) else (impl_SlotAt.l0 k (wrap64 (Int.tdiv (wrap64 (x1 - x777000)) t779)) (Int.tmod (wrap64 (x1 - x777000)) t780) x777002 (x777002.length : Int) 0 x777000 x777001 x777002)))))
def impl_SlotAt.l0 : Nat → Int → Int → List (S90) → Int → Int → Int → Int → List (S90) → Option (Int × Int × Bool)
  | 0, _, _, _, _, _, _, _, _ => none
  | k + 1, x7, x8, x42, x43, x44, x777000, x777001, x777002 => if x44 < x43 then (if 0 ≤ x44 then (if x44 < (x42.length : Int) then ((impl_Plan_from.f k x777000 x777001 x777002 x44).bind fun t783 => ((impl_Plan_from.f k x777000 x777001 x777002 x44).bind fun t784 => ((impl_in.f x8 t783 (wrap64 ((wrap64 (t784 + ((rd_T90 x42 x44).f1))) - 1))).bind fun t785 => (if t785 = true then ((impl_Occurrence.f k x777000 x777001 x777002 x44 x7).bind fun bt786 => (if bt786.2.2 = true then (some (x44, x7, true)) else (some (0, 0, false)))) else (impl_SlotAt.l0 k x7 x8 x42 x43 (wrap64 (x44 + 1)) x777000 x777001 x777002))))) else (none)) else (none)) else (some (0, 0, false))
end
def impl_SlotAt.f (k : Nat) (a0_0 : Int) (a0_1 : Int) (l0_2 : List (S90)) (a1 : Int) : Option (Int × Int × Bool) := (impl_PlanOk.f k a0_0 a0_1 l0_2).bind fun t777 => (if t777 = true then ((impl_isTime.f a1).bind fun t778 => (if t778 = true then (impl_SlotAt.j0 k a1 (decide (a1 < a0_0)) a0_0 a0_1 l0_2) else (impl_SlotAt.j0 k a1 true a0_0 a0_1 l0_2))) else (impl_SlotAt.j0 k a1 true a0_0 a0_1 l0_2))
def impl_SlotAt.T3 : Bool × List (List Nat × List Nat) := (true, [([], []), ([], []), ([1], [1]), ([0, 2], [0, 2]), ([], []), ([4], [4]), ([3, 5], [3, 5]), ([], []), ([], []), ([8], [8]), ([7, 9], [7, 9]), ([], []), ([11, 5], [11]), ([10, 12], [10, 12]), ([6, 12, 0, 1, 2, 3, 4, 5, 6], [6]), ([13, 14, 0, 1, 2, 3, 4, 5, 6, 7, 8, 9, 10, 11, 12, 13, 14], [13])])
def impl_SlotAt.B3 : List Nat := [0, 0, 2, 7, 0, 16, 63, 0, 0, 256, 896, 0, 2096, 8112, 6271, 32767]
theorem impl_SlotAt.tab3 : rtab .any (opsOf Try.f95 3) = impl_SlotAt.T3 := by kernel_rfl
theorem impl_SlotAt.bits3 : waitsOk impl_SlotAt.T3.2 impl_SlotAt.B3 = true := by kernel_rfl
def impl_SlotAt.T7 : Bool × List (List Nat × List Nat) := (true, [([], []), ([], []), ([], []), ([1, 2], [1, 2]), ([], []), ([], []), ([4, 5, 3], [4, 5]), ([], []), ([7], [7]), ([6, 8], [6, 8]), ([9], [9]), ([0, 3, 10, 6], [0, 3, 10])])
def impl_SlotAt.B7 : List Nat := [0, 0, 0, 6, 0, 0, 62, 0, 128, 510, 1022, 2047]
theorem impl_SlotAt.tab7 : rtab .any (opsOf Try.f95 7) = impl_SlotAt.T7 := by kernel_rfl
theorem impl_SlotAt.bits7 : waitsOk impl_SlotAt.T7.2 impl_SlotAt.B7 = true := by kernel_rfl
set_option maxHeartbeats 8000000 in
set_option maxRecDepth 100000 in
theorem impl_SlotAt.calls (k : Nat) (a0_0 : Int) (a0_1 : Int) (A0_2 : Option Addr) (c0_2 : Nat) (l0_2 : List (S90)) (a1 : Int) (r1 : Int) (r2 : Int) (r3 : Bool) (w : World) (hr0_2 : Kd.C k90 w A0_2 l0_2.length l0_2) (hc0_2 : l0_2.length ≤ c0_2) (h : impl_SlotAt.f k a0_0 a0_1 l0_2 a1 = some (r1, r2, r3)) :
    Calls Try.prog 95 #[.agg #[.int .i64 a0_0, .int .i64 a0_1, .slice A0_2 l0_2.length c0_2], .int .i64 a1] w fun e w' => e = .returned (.tuple #[.int .i64 r1, .int .i64 r2, .bool r3]) ∧ Below w.heap.size w w' := by
  have hu59 := Try.underlying59
  have hu90 := Try.underlying90
  have hu43 := Try.underlying43
  have HR0_2 := Aside0.mk hr0_2
  have HC0_2 := Aside0.mk hc0_2
  clear hr0_2 hc0_2
  have HB := Aside0.mk (Below.refl w.heap.size w)
  have H : ((impl_PlanOk.f k a0_0 a0_1 l0_2).bind fun t777 => (if t777 = true then ((impl_isTime.f a1).bind fun t778 => (if t778 = true then (impl_SlotAt.j0 k a1 (decide (a1 < a0_0)) a0_0 a0_1 l0_2) else (impl_SlotAt.j0 k a1 true a0_0 a0_1 l0_2))) else (impl_SlotAt.j0 k a1 true a0_0 a0_1 l0_2))) = some (r1, r2, r3) := h
  clear h
  have HC3 := Aside0.mk H
  clear H
  go_enter Try.func95, Try.ntmps95
  go_upto_region 1 with (first | ((with_reducible refine gate_dst (N := 2) rfl ?_); refine box_event ?hg (N := 2) ?hd (cs := #[.int .i64 a0_0, .int .i64 a0_1, .slice A0_2 l0_2.length c0_2]) (t := 59) ?hr ?_; (case hd => rfl); (case hg => rfl); (case hr => first | (go_simp; done) | (go_simp; rfl)); intro gb776 hg w4 hbox hb; have n0_ := Aside0.mk (below_step (hb_ HB.out) hb); have n1_ := Aside0.mk (hbox); have n2_ := Aside0.mk ((by rw [hg]; exact (below_size (hb_ HB.out)) : w.heap.size ≤ gb776)); have n3_ := Aside0.mk ((by rw [hg]; exact (below_size (hb_ HB.out)) : w.heap.size ≤ gb776)); clear HB; have HB := n0_; have BK776 := n1_; have GW776 := n2_; have GE776 := n3_; clear n0_ n1_ n2_ n3_; clear hb hbox hg))
  (try simp only [Act.put, List.setIfInBounds_toArray, List.set_cons_zero, List.set_cons_succ])
  go_cut [26] (fun v26 wc => ∃ (kq : Nat) (x26_2 : Bool), v26 = .bool x26_2 ∧ Aside0 (impl_SlotAt.j0 kq a1 x26_2 a0_0 a0_1 l0_2 = some (r1, r2, r3)) ∧ Aside0 (kq ≤ k) ∧ Aside0 (wc.heap[gb776]? = some (.cells #[.int .i64 a0_0, .int .i64 a0_1, (.slice A0_2 l0_2.length c0_2)] 59 (0, 0))) ∧ Aside0 (Below w.heap.size w wc))
  case first =>
    have H := HC3.out
    clear HC3
    replace H := Option.bind_eq_some_iff.mp H
    obtain ⟨t777, A50, H⟩ := H
    replace H : (if t777 = true then ((impl_isTime.f a1).bind fun t778 => (if t778 = true then (impl_SlotAt.j0 k a1 (decide (a1 < a0_0)) a0_0 a0_1 l0_2) else (impl_SlotAt.j0 k a1 true a0_0 a0_1 l0_2))) else (impl_SlotAt.j0 k a1 true a0_0 a0_1 l0_2)) = some (r1, r2, r3) := H
    have A5 := Aside0.mk A50
    clear A50
    by_cases c6 : t777 = true
    · subst c6
      have H1 : ((impl_isTime.f a1).bind fun t778 => (if t778 = true then (impl_SlotAt.j0 k a1 (decide (a1 < a0_0)) a0_0 a0_1 l0_2) else (impl_SlotAt.j0 k a1 true a0_0 a0_1 l0_2))) = some (r1, r2, r3) := by rw [if_pos rfl] at H; exact H
      clear H
      have H := H1
      clear H1
      replace H := Option.bind_eq_some_iff.mp H
      obtain ⟨t778, A70, H⟩ := H
      replace H : (if t778 = true then (impl_SlotAt.j0 k a1 (decide (a1 < a0_0)) a0_0 a0_1 l0_2) else (impl_SlotAt.j0 k a1 true a0_0 a0_1 l0_2)) = some (r1, r2, r3) := H
      have A7 := Aside0.mk A70
      clear A70
      by_cases c8 : t778 = true
      · subst c8
        have H1 : (impl_SlotAt.j0 k a1 (decide (a1 < a0_0)) a0_0 a0_1 l0_2) = some (r1, r2, r3) := by rw [if_pos rfl] at H; exact H
        clear H
        have H := H1
        clear H1
        have H' := Aside0.mk H
        clear H
        have hcz9_0 := bc_ BK776.out 0 (.int .i64 a0_0) rfl
        have hcz9_1 := bc_ BK776.out 1 (.int .i64 a0_1) rfl
        have hcz9_2 := bc_ BK776.out 2 (.slice A0_2 l0_2.length c0_2) rfl
        have hfz9_0 := blk_frozen BK776.out 0
        have hfz9_1 := blk_frozen BK776.out 1
        have hfz9_2 := blk_frozen BK776.out 2
        go_wp2_with (first | ((with_reducible refine gate_callee (f := 71) rfl ?_); refine goesL_ (some 14) rfl rfl Try.func71 (by kernel_rfl) rfl #[.agg #[.int .i64 a0_0, .int .i64 a0_1, .slice A0_2 l0_2.length c0_2]] rfl arr_ ?_; (with_reducible refine (impl_PlanOk.calls k a0_0 a0_1 _ _ l0_2 true _ ?side1 ?side2 A5.out).mono ?_); (case side1 => exact kc_ (Kd.C_below HR0_2.out HB.out)); (case side2 => exact HC0_2.out); rintro e w10 ⟨rfl, hb⟩; refine ⟨_, rfl, ?_⟩; have n0_ := Aside0.mk (bb_ BK776.out hb); have n1_ := Aside0.mk (below_step (hb1_ HB.out GE776.out) hb); clear BK776; clear HB; have BK776 := n0_; have HB := n1_; clear n0_ n1_; (try clear hb); (try clear hb2); (try clear hk); (try clear hi)) | (go_at_call 86; (with_reducible refine (impl_isTime.calls a1 true _ A7.out).mono ?_); rintro e w' ⟨rfl, ⟨nd, rfl⟩⟩; have hcz11_0 := bc_ BK776.out 0 (.int .i64 a0_0) rfl; have hcz11_1 := bc_ BK776.out 1 (.int .i64 a0_1) rfl; have hcz11_2 := bc_ BK776.out 2 (.slice A0_2 l0_2.length c0_2) rfl; have hfz11_0 := blk_frozen BK776.out 0; have hfz11_1 := blk_frozen BK776.out 1; have hfz11_2 := blk_frozen BK776.out 2))
        go_meet
        case rel => exact ⟨_, (decide (a1 < a0_0)), (by first | rfl | (simp; done) | (simp [*]; done)), H', ⟨by first | omega | exact Nat.le_refl _⟩, ⟨bk_ BK776.out⟩, ⟨hb1_ HB.out GE776.out⟩⟩
      · replace c8 := Bool.eq_false_iff.mpr c8
        subst c8
        have H1 : (impl_SlotAt.j0 k a1 true a0_0 a0_1 l0_2) = some (r1, r2, r3) := by rw [if_neg (show ¬ (false = true) by decide)] at H; exact H
        clear H
        have H := H1
        clear H1
        have H' := Aside0.mk H
        clear H
        have hcz12_0 := bc_ BK776.out 0 (.int .i64 a0_0) rfl
        have hcz12_1 := bc_ BK776.out 1 (.int .i64 a0_1) rfl
        have hcz12_2 := bc_ BK776.out 2 (.slice A0_2 l0_2.length c0_2) rfl
        have hfz12_0 := blk_frozen BK776.out 0
        have hfz12_1 := blk_frozen BK776.out 1
        have hfz12_2 := blk_frozen BK776.out 2
        go_wp2_with (first | ((with_reducible refine gate_callee (f := 71) rfl ?_); refine goesL_ (some 14) rfl rfl Try.func71 (by kernel_rfl) rfl #[.agg #[.int .i64 a0_0, .int .i64 a0_1, .slice A0_2 l0_2.length c0_2]] rfl arr_ ?_; (with_reducible refine (impl_PlanOk.calls k a0_0 a0_1 _ _ l0_2 true _ ?side1 ?side2 A5.out).mono ?_); (case side1 => exact kc_ (Kd.C_below HR0_2.out HB.out)); (case side2 => exact HC0_2.out); rintro e w13 ⟨rfl, hb⟩; refine ⟨_, rfl, ?_⟩; have n0_ := Aside0.mk (bb_ BK776.out hb); have n1_ := Aside0.mk (below_step (hb1_ HB.out GE776.out) hb); clear BK776; clear HB; have BK776 := n0_; have HB := n1_; clear n0_ n1_; (try clear hb); (try clear hb2); (try clear hk); (try clear hi)) | (go_at_call 86; (with_reducible refine (impl_isTime.calls a1 false _ A7.out).mono ?_); rintro e w' ⟨rfl, ⟨nd, rfl⟩⟩))
        go_meet
        case rel => exact ⟨_, (true), (by first | rfl | (simp; done) | (simp [*]; done)), H', ⟨by first | omega | exact Nat.le_refl _⟩, ⟨bk_ BK776.out⟩, ⟨hb1_ HB.out GE776.out⟩⟩
    · replace c6 := Bool.eq_false_iff.mpr c6
      subst c6
      have H1 : (impl_SlotAt.j0 k a1 true a0_0 a0_1 l0_2) = some (r1, r2, r3) := by rw [if_neg (show ¬ (false = true) by decide)] at H; exact H
      clear H
      have H := H1
      clear H1
      have H' := Aside0.mk H
      clear H
      have hcz14_0 := bc_ BK776.out 0 (.int .i64 a0_0) rfl
      have hcz14_1 := bc_ BK776.out 1 (.int .i64 a0_1) rfl
      have hcz14_2 := bc_ BK776.out 2 (.slice A0_2 l0_2.length c0_2) rfl
      have hfz14_0 := blk_frozen BK776.out 0
      have hfz14_1 := blk_frozen BK776.out 1
      have hfz14_2 := blk_frozen BK776.out 2
      go_wp2_with (first | ((with_reducible refine gate_callee (f := 71) rfl ?_); refine goesL_ (some 14) rfl rfl Try.func71 (by kernel_rfl) rfl #[.agg #[.int .i64 a0_0, .int .i64 a0_1, .slice A0_2 l0_2.length c0_2]] rfl arr_ ?_; (with_reducible refine (impl_PlanOk.calls k a0_0 a0_1 _ _ l0_2 false _ ?side1 ?side2 A5.out).mono ?_); (case side1 => exact kc_ (Kd.C_below HR0_2.out HB.out)); (case side2 => exact HC0_2.out); rintro e w15 ⟨rfl, hb⟩; refine ⟨_, rfl, ?_⟩; have n0_ := Aside0.mk (bb_ BK776.out hb); have n1_ := Aside0.mk (below_step (hb1_ HB.out GE776.out) hb); clear BK776; clear HB; have BK776 := n0_; have HB := n1_; clear n0_ n1_; (try clear hb); (try clear hb2); (try clear hk); (try clear hi)))
      go_meet
      case rel => exact ⟨_, (true), (by first | rfl | (simp; done) | (simp [*]; done)), H', ⟨by first | omega | exact Nat.le_refl _⟩, ⟨bk_ BK776.out⟩, ⟨hb1_ HB.out GE776.out⟩⟩
  case rest =>
    clear HC3
    try clear p2
    try clear c6
    try clear c7
    try clear c8
    try clear c9
    try clear hcz11_0
    try clear hcz11_1
    try clear hcz11_2
    try clear hcz12_0
    try clear hcz12_1
    try clear hcz12_2
    try clear hcz14_0
    try clear hcz14_1
    try clear hcz14_2
    try clear hcz9_0
    try clear hcz9_1
    try clear hcz9_2
    try clear hfz11_0
    try clear hfz11_1
    try clear hfz11_2
    try clear hfz12_0
    try clear hfz12_1
    try clear hfz12_2
    try clear hfz14_0
    try clear hfz14_1
    try clear hfz14_2
    try clear hfz9_0
    try clear hfz9_1
    try clear hfz9_2
    obtain ⟨kq, x26_2, rfl, HA, HJ2, BK776, HB⟩ := hcut
    cases kq with
    | zero => exact absurd HA.out (by simp [impl_SlotAt.j0])
    | succ kj2 =>
      have H := HA.out
      clear HA
      simp only [impl_SlotAt.j0] at H
      by_cases c16 : x26_2 = true
      · subst c16
        have H1 : (some (0, 0, false)) = some (r1, r2, r3) := by rw [if_pos rfl] at H; exact H
        clear H
        have H := H1
        clear H1
        simp only [Option.some.injEq, Prod.mk.injEq] at H
        obtain ⟨rfl, rfl, rfl⟩ := H
        go_wp2
        go_ret3
        exact ⟨er_, hb1_ HB.out GE776.out⟩
      · replace c16 := Bool.eq_false_iff.mpr c16
        subst c16
        have H1 : ((impl_Plan_round.f kj2 a0_0 a0_1 l0_2).bind fun t779 => (if t779 = 0 then (none) else ((impl_Plan_round.f kj2 a0_0 a0_1 l0_2).bind fun t780 => (if t780 = 0 then (none) else (impl_SlotAt.l0 kj2 (wrap64 (Int.tdiv (wrap64 (a1 - a0_0)) t779)) (Int.tmod (wrap64 (a1 - a0_0)) t780) l0_2 (l0_2.length : Int) 0 a0_0 a0_1 l0_2))))) = some (r1, r2, r3) := by rw [if_neg (show ¬ (false = true) by decide)] at H; exact H
        clear H
        have H := H1
        clear H1
        replace H := Option.bind_eq_some_iff.mp H
        obtain ⟨t779, A170, H⟩ := H
        replace H : (if t779 = 0 then (none) else ((impl_Plan_round.f kj2 a0_0 a0_1 l0_2).bind fun t780 => (if t780 = 0 then (none) else (impl_SlotAt.l0 kj2 (wrap64 (Int.tdiv (wrap64 (a1 - a0_0)) t779)) (Int.tmod (wrap64 (a1 - a0_0)) t780) l0_2 (l0_2.length : Int) 0 a0_0 a0_1 l0_2)))) = some (r1, r2, r3) := H
        have A17 := Aside0.mk A170
        clear A170
        by_cases c18 : t779 = 0
        · rw [if_pos c18] at H
          exact absurd H (by simp)
        · rw [if_neg c18] at H
          have c18b0 : (t779 == 0) = false := beq_eq_false_iff_ne.mpr c18
          have c18b1 : (t779 != 0) = true := bne_iff_ne.mpr c18
          replace H := Option.bind_eq_some_iff.mp H
          obtain ⟨t780, A190, H⟩ := H
          replace H : (if t780 = 0 then (none) else (impl_SlotAt.l0 kj2 (wrap64 (Int.tdiv (wrap64 (a1 - a0_0)) t779)) (Int.tmod (wrap64 (a1 - a0_0)) t780) l0_2 (l0_2.length : Int) 0 a0_0 a0_1 l0_2)) = some (r1, r2, r3) := H
          have A19 := Aside0.mk A190
          clear A190
          by_cases c20 : t780 = 0
          · rw [if_pos c20] at H
            exact absurd H (by simp)
          · rw [if_neg c20] at H
            have c20b0 : (t780 == 0) = false := beq_eq_false_iff_ne.mpr c20
            have c20b1 : (t780 != 0) = true := bne_iff_ne.mpr c20
            have H' := Aside0.mk H
            clear H
            try go_wp2
            have n0_ := Aside0.mk (blk_drew BK776.out)
            have n1_ := Aside0.mk (below_drew1 HB.out)
            clear BK776
            clear HB
            have BK776 := n0_
            have HB := n1_
            clear n0_ n1_
            refine start_ (n := 16) (S := fun w' => w'.cell? ⟨gb776, 0, none⟩ = some (.int .i64 a0_0) ∧ w'.cell? ⟨gb776, 1, none⟩ = some (.int .i64 a0_1) ∧ w'.cell? ⟨gb776, 2, none⟩ = some (.slice A0_2 l0_2.length c0_2)) (ds := []) #[false, false, false, false, false, false, false, false, false, false, false, false, false, false, false, false] (by kernel_rfl) rfl rfl ⟨(blk_cell BK776.out 0).trans rfl, (blk_cell BK776.out 1).trans rfl, (blk_cell BK776.out 2).trans rfl⟩ (fun hHeld => ?_); refine with_tabW impl_SlotAt.tab3 impl_SlotAt.bits3 (fun HT_ HW_ => ?_)
            generalize wc.drew = w21 at BK776 HB hHeld ⊢
            refine pure_ (i := 0) (N := some 27) (v := ?_) (a' := ?_) #[true, false, false, false, false, false, false, false, false, false, false, false, false, false, false, false] rfl rfl (any_of HT_.out (by kernel_rfl)) (fun _ _ _ h => h) (Or.inl ⟨by rfl, ?_⟩) ?_ ?_
            rotate_left
            · intro w'
              go_simp
              with_reducible rfl
            rotate_left
            · simp only [Act.put, List.setIfInBounds_toArray, List.set_cons_zero, List.set_cons_succ, i64_w, i32_w]
              rfl
            refine pure_ (i := 1) (N := some 28) (v := ?_) (a' := ?_) #[true, true, false, false, false, false, false, false, false, false, false, false, false, false, false, false] rfl rfl (any_of HT_.out (by kernel_rfl)) (fun _ _ _ h => h) (Or.inl ⟨by rfl, ?_⟩) ?_ ?_
            rotate_left
            · intro w'
              go_simp
              with_reducible rfl
            rotate_left
            · simp only [Act.put, List.setIfInBounds_toArray, List.set_cons_zero, List.set_cons_succ, i64_w, i32_w]
              rfl
            refine pure_ (i := 7) (N := some 34) (v := ?_) (a' := ?_) #[true, true, false, false, false, false, false, true, false, false, false, false, false, false, false, false] rfl rfl (any_of HT_.out (by kernel_rfl)) (fun _ _ _ h => h) (Or.inl ⟨by rfl, ?_⟩) ?_ ?_
            rotate_left
            · intro w'
              go_simp
              with_reducible rfl
            rotate_left
            · simp only [Act.put, List.setIfInBounds_toArray, List.set_cons_zero, List.set_cons_succ, i64_w, i32_w]
              rfl
            refine pure_ (i := 8) (N := some 35) (v := ?_) (a' := ?_) #[true, true, false, false, false, false, false, true, true, false, false, false, false, false, false, false] rfl rfl (any_of HT_.out (by kernel_rfl)) (fun _ _ _ h => h) (Or.inl ⟨by rfl, ?_⟩) ?_ ?_
            rotate_left
            · intro w'
              go_simp
              with_reducible rfl
            rotate_left
            · simp only [Act.put, List.setIfInBounds_toArray, List.set_cons_zero, List.set_cons_succ, i64_w, i32_w]
              rfl
            refine take_ (i := 2) (N := some 29) (v := ?_) (a' := ?_) #[true, true, true, false, false, false, false, true, true, false, false, false, false, false, false, false] rfl rfl (take_ofW HT_.out HW_.out (by kernel_rfl)) (fun _ _ _ h => h) (Or.inl ⟨by rfl, ?_⟩) hHeld ?_ ?_
            rotate_left
            · rintro w' ⟨s0, s1, s2⟩
              go_simp
              with_reducible rfl
            rotate_left
            · simp only [Act.put, List.setIfInBounds_toArray, List.set_cons_zero, List.set_cons_succ, i64_w, i32_w]
              rfl
            refine pure_ (i := 3) (N := some 30) (v := ?_) (a' := ?_) #[true, true, true, true, false, false, false, true, true, false, false, false, false, false, false, false] rfl rfl (any_of HT_.out (by kernel_rfl)) (fun _ _ _ h => h) (Or.inl ⟨by rfl, ?_⟩) ?_ ?_
            rotate_left
            · intro w'
              go_simp
              with_reducible rfl
            rotate_left
            · simp only [Act.put, List.setIfInBounds_toArray, List.set_cons_zero, List.set_cons_succ, i64_w, i32_w]
              rfl
            refine take_ (i := 4) (N := some 31) (v := ?_) (a' := ?_) #[true, true, true, true, true, false, false, true, true, false, false, false, false, false, false, false] rfl rfl (take_ofW HT_.out HW_.out (by kernel_rfl)) (fun _ _ _ h => h) (Or.inl ⟨by rfl, ?_⟩) hHeld ?_ ?_
            rotate_left
            · rintro w' ⟨s0, s1, s2⟩
              go_simp
              with_reducible rfl
            rotate_left
            · simp only [Act.put, List.setIfInBounds_toArray, List.set_cons_zero, List.set_cons_succ, i64_w, i32_w]
              rfl
            refine take_ (i := 9) (N := some 36) (v := ?_) (a' := ?_) #[true, true, true, true, true, false, false, true, true, true, false, false, false, false, false, false] rfl rfl (take_ofW HT_.out HW_.out (by kernel_rfl)) (fun _ _ _ h => h) (Or.inl ⟨by rfl, ?_⟩) hHeld ?_ ?_
            rotate_left
            · rintro w' ⟨s0, s1, s2⟩
              go_simp
              with_reducible rfl
            rotate_left
            · simp only [Act.put, List.setIfInBounds_toArray, List.set_cons_zero, List.set_cons_succ, i64_w, i32_w]
              rfl
            refine pure_ (i := 10) (N := some 37) (v := ?_) (a' := ?_) #[true, true, true, true, true, false, false, true, true, true, true, false, false, false, false, false] rfl rfl (any_of HT_.out (by kernel_rfl)) (fun _ _ _ h => h) (Or.inl ⟨by rfl, ?_⟩) ?_ ?_
            rotate_left
            · intro w'
              go_simp
              with_reducible rfl
            rotate_left
            · simp only [Act.put, List.setIfInBounds_toArray, List.set_cons_zero, List.set_cons_succ, i64_w, i32_w]
              rfl
            refine take_ (i := 11) (N := some 38) (v := ?_) (a' := ?_) #[true, true, true, true, true, false, false, true, true, true, true, true, false, false, false, false] rfl rfl (take_ofW HT_.out HW_.out (by kernel_rfl)) (fun _ _ _ h => h) (Or.inl ⟨by rfl, ?_⟩) hHeld ?_ ?_
            rotate_left
            · rintro w' ⟨s0, s1, s2⟩
              go_simp
              with_reducible rfl
            rotate_left
            · simp only [Act.put, List.setIfInBounds_toArray, List.set_cons_zero, List.set_cons_succ, i64_w, i32_w]
              rfl
            refine one_ (i := 5) (N := some 32) #[true, true, true, true, true, true, false, true, true, true, true, true, false, false, false, false] rfl rfl (one_of HT_.out (by kernel_rfl)) (by decide) (fun K hK => ?_)
            refine goes_ Try.func104 (by kernel_rfl) rfl #[.agg #[.int .i64 a0_0, .int .i64 a0_1, .slice A0_2 l0_2.length c0_2]] (by rfl) rfl rfl arr_ ?_
            with_reducible refine (impl_Plan_round.calls kj2 a0_0 a0_1 _ _ l0_2 t779 _ ?side1 ?side2 A17.out).mono ?_
            (case side1 => exact kc_ (Kd.C_below HR0_2.out HB.out))
            (case side2 => exact HC0_2.out)
            rintro e w22 ⟨rfl, hb⟩
            refine ⟨_, rfl, ?_⟩
            have n0_ := Aside0.mk (bb_ BK776.out hb)
            have n1_ := Aside0.mk (below_step (hb1_ HB.out GE776.out) hb)
            clear BK776
            clear HB
            have BK776 := n0_
            have HB := n1_
            clear n0_ n1_
            (try clear hb)
            (try clear hb2)
            (try clear hk)
            (try clear hi)
            refine hK.out _ _ ⟨(blk_cell BK776.out 0).trans rfl, (blk_cell BK776.out 1).trans rfl, (blk_cell BK776.out 2).trans rfl⟩ (fun hHeld => ?_)
            clear hK K
            refine norm_ (a' := ?_) ?_ ?_
            rotate_left
            · show Act.put _ (some 32) _ = _
              simp only [Act.put, List.setIfInBounds_toArray, List.set_cons_zero, List.set_cons_succ, i64_w, i32_w]
              rfl
            refine pure_ (i := 6) (N := some 33) (v := ?_) (a' := ?_) #[true, true, true, true, true, true, true, true, true, true, true, true, false, false, false, false] rfl rfl (any_of HT_.out (by kernel_rfl)) (fun _ _ _ h => h) (Or.inl ⟨by rfl, ?_⟩) ?_ ?_
            rotate_left
            · intro w'
              go_simp
              with_reducible rfl
            rotate_left
            · simp only [Act.put, List.setIfInBounds_toArray, List.set_cons_zero, List.set_cons_succ, i64_w, i32_w]
              rfl
            refine one_ (i := 12) (N := some 39) #[true, true, true, true, true, true, true, true, true, true, true, true, true, false, false, false] rfl rfl (one_of HT_.out (by kernel_rfl)) (by decide) (fun K hK => ?_)
            refine goes_ Try.func104 (by kernel_rfl) rfl #[.agg #[.int .i64 a0_0, .int .i64 a0_1, .slice A0_2 l0_2.length c0_2]] (by rfl) rfl rfl arr_ ?_
            with_reducible refine (impl_Plan_round.calls kj2 a0_0 a0_1 _ _ l0_2 t780 _ ?side1 ?side2 A19.out).mono ?_
            (case side1 => exact kc_ (Kd.C_below HR0_2.out HB.out))
            (case side2 => exact HC0_2.out)
            rintro e w23 ⟨rfl, hb⟩
            refine ⟨_, rfl, ?_⟩
            have n0_ := Aside0.mk (bb_ BK776.out hb)
            have n1_ := Aside0.mk (below_step (hb1_ HB.out GE776.out) hb)
            clear BK776
            clear HB
            have BK776 := n0_
            have HB := n1_
            clear n0_ n1_
            (try clear hb)
            (try clear hb2)
            (try clear hk)
            (try clear hi)
            refine hK.out _ _ ⟨(blk_cell BK776.out 0).trans rfl, (blk_cell BK776.out 1).trans rfl, (blk_cell BK776.out 2).trans rfl⟩ (fun hHeld => ?_)
            clear hK K
            refine norm_ (a' := ?_) ?_ ?_
            rotate_left
            · show Act.put _ (some 39) _ = _
              simp only [Act.put, List.setIfInBounds_toArray, List.set_cons_zero, List.set_cons_succ, i64_w, i32_w]
              rfl
            refine pure_ (i := 13) (N := some 40) (v := ?_) (a' := ?_) #[true, true, true, true, true, true, true, true, true, true, true, true, true, true, false, false] rfl rfl (any_of HT_.out (by kernel_rfl)) (fun _ _ _ h => h) (Or.inl ⟨by rfl, ?_⟩) ?_ ?_
            rotate_left
            · intro w'
              go_simp
              with_reducible rfl
            rotate_left
            · simp only [Act.put, List.setIfInBounds_toArray, List.set_cons_zero, List.set_cons_succ, i64_w, i32_w]
              rfl
            refine pure_ (i := 14) (N := some 7) (v := ?_) (a' := ?_) #[true, true, true, true, true, true, true, true, true, true, true, true, true, true, true, false] rfl rfl (any_of HT_.out (by kernel_rfl)) (fun _ _ _ h => h) (Or.inl ⟨by rfl, ?_⟩) ?_ ?_
            rotate_left
            · intro w'
              go_simp
              with_reducible rfl
            rotate_left
            · simp only [Act.put, List.setIfInBounds_toArray, List.set_cons_zero, List.set_cons_succ, i64_w, i32_w]
              rfl
            refine pure_ (i := 15) (N := some 8) (v := ?_) (a' := ?_) #[true, true, true, true, true, true, true, true, true, true, true, true, true, true, true, true] rfl rfl (any_of HT_.out (by kernel_rfl)) (fun _ _ _ h => h) (Or.inl ⟨by rfl, ?_⟩) ?_ ?_
            rotate_left
            · intro w'
              go_simp
              with_reducible rfl
            rotate_left
            · simp only [Act.put, List.setIfInBounds_toArray, List.set_cons_zero, List.set_cons_succ, i64_w, i32_w]
              rfl
            refine done_ (done_of HT_.out (by kernel_rfl)) ?_
            have hcz24_0 := bc_ BK776.out 0 (.int .i64 a0_0) rfl
            have hcz24_1 := bc_ BK776.out 1 (.int .i64 a0_1) rfl
            have hcz24_2 := bc_ BK776.out 2 (.slice A0_2 l0_2.length c0_2) rfl
            have hfz24_0 := blk_frozen BK776.out 0
            have hfz24_1 := blk_frozen BK776.out 1
            have hfz24_2 := blk_frozen BK776.out 2
            try go_wp2
            go_loopg [44] kj2 (fun kq v44 w' => ∃ (x44_2 : Int), v44 = .int .i64 x44_2 ∧ Aside0 (impl_SlotAt.l0 kq (wrap64 (Int.tdiv (wrap64 (a1 - a0_0)) t779)) (Int.tmod (wrap64 (a1 - a0_0)) t780) l0_2 (l0_2.length : Int) x44_2 a0_0 a0_1 l0_2 = some (r1, r2, r3)) ∧ Aside0 (kq ≤ kj2) ∧ Aside0 (w'.heap[gb776]? = some (.cells #[.int .i64 a0_0, .int .i64 a0_1, (.slice A0_2 l0_2.length c0_2)] 59 (0, 0))) ∧ Aside0 (Below w.heap.size w w'))
            case atStart => exact ⟨(0), (by first | rfl | (simp; done) | (simp [*]; done)), H', ⟨Nat.le_refl _⟩, ⟨bk_ BK776.out⟩, ⟨hb1_ HB.out GE776.out⟩⟩
            case round =>
              clear H'
              try clear c1
              try clear c2
              try clear p2
              try clear c6
              try clear p6
              try clear c7
              try clear c8
              try clear c9
              try clear c10
              try clear c16
              try clear c18
              try clear c18b0
              try clear c18b1
              try clear c20
              try clear c20b0
              try clear c20b1
              try clear hcz11_0
              try clear hcz11_1
              try clear hcz11_2
              try clear hcz12_0
              try clear hcz12_1
              try clear hcz12_2
              try clear hcz14_0
              try clear hcz14_1
              try clear hcz14_2
              try clear hcz24_0
              try clear hcz24_1
              try clear hcz24_2
              try clear hcz9_0
              try clear hcz9_1
              try clear hcz9_2
              try clear hfz11_0
              try clear hfz11_1
              try clear hfz11_2
              try clear hfz12_0
              try clear hfz12_1
              try clear hfz12_2
              try clear hfz14_0
              try clear hfz14_1
              try clear hfz14_2
              try clear hfz24_0
              try clear hfz24_1
              try clear hfz24_2
              try clear hfz9_0
              try clear hfz9_1
              try clear hfz9_2
              try clear p2
              obtain ⟨x44_2, rfl, HA, HK2, BK776, HB⟩ := hrel
              cases gk with
              | zero => exact absurd HA.out (by simp [impl_SlotAt.l0])
              | succ k2 =>
                have H := HA.out
                clear HA
                simp only [impl_SlotAt.l0] at H
                by_cases c25 : x44_2 < (l0_2.length : Int)
                · rw [if_pos c25] at H
                  have c25b0 : decide (x44_2 < (l0_2.length : Int)) = true := decide_eq_true c25
                  clear c25
                  by_cases c26 : 0 ≤ x44_2
                  · rw [if_pos c26] at H
                    have c26b0 : decide (0 ≤ x44_2) = true := decide_eq_true c26
                    clear c26
                    by_cases c27 : x44_2 < (l0_2.length : Int)
                    · rw [if_pos c27] at H
                      have c27b0 : decide (x44_2 < (l0_2.length : Int)) = true := decide_eq_true c27
                      clear c27
                      replace H := Option.bind_eq_some_iff.mp H
                      obtain ⟨t783, A280, H⟩ := H
                      replace H : ((impl_Plan_from.f k2 a0_0 a0_1 l0_2 x44_2).bind fun t784 => ((impl_in.f (Int.tmod (wrap64 (a1 - a0_0)) t780) t783 (wrap64 ((wrap64 (t784 + ((rd_T90 l0_2 x44_2).f1))) - 1))).bind fun t785 => (if t785 = true then ((impl_Occurrence.f k2 a0_0 a0_1 l0_2 x44_2 (wrap64 (Int.tdiv (wrap64 (a1 - a0_0)) t779))).bind fun bt786 => (if bt786.2.2 = true then (some (x44_2, (wrap64 (Int.tdiv (wrap64 (a1 - a0_0)) t779)), true)) else (some (0, 0, false)))) else (impl_SlotAt.l0 k2 (wrap64 (Int.tdiv (wrap64 (a1 - a0_0)) t779)) (Int.tmod (wrap64 (a1 - a0_0)) t780) l0_2 (l0_2.length : Int) (wrap64 (x44_2 + 1)) a0_0 a0_1 l0_2)))) = some (r1, r2, r3) := H
                      have A28 := Aside0.mk A280
                      clear A280
                      replace H := Option.bind_eq_some_iff.mp H
                      obtain ⟨t784, A290, H⟩ := H
                      replace H : ((impl_in.f (Int.tmod (wrap64 (a1 - a0_0)) t780) t783 (wrap64 ((wrap64 (t784 + ((rd_T90 l0_2 x44_2).f1))) - 1))).bind fun t785 => (if t785 = true then ((impl_Occurrence.f k2 a0_0 a0_1 l0_2 x44_2 (wrap64 (Int.tdiv (wrap64 (a1 - a0_0)) t779))).bind fun bt786 => (if bt786.2.2 = true then (some (x44_2, (wrap64 (Int.tdiv (wrap64 (a1 - a0_0)) t779)), true)) else (some (0, 0, false)))) else (impl_SlotAt.l0 k2 (wrap64 (Int.tdiv (wrap64 (a1 - a0_0)) t779)) (Int.tmod (wrap64 (a1 - a0_0)) t780) l0_2 (l0_2.length : Int) (wrap64 (x44_2 + 1)) a0_0 a0_1 l0_2))) = some (r1, r2, r3) := H
                      have A29 := Aside0.mk A290
                      clear A290
                      replace H := Option.bind_eq_some_iff.mp H
                      obtain ⟨t785, A300, H⟩ := H
                      replace H : (if t785 = true then ((impl_Occurrence.f k2 a0_0 a0_1 l0_2 x44_2 (wrap64 (Int.tdiv (wrap64 (a1 - a0_0)) t779))).bind fun bt786 => (if bt786.2.2 = true then (some (x44_2, (wrap64 (Int.tdiv (wrap64 (a1 - a0_0)) t779)), true)) else (some (0, 0, false)))) else (impl_SlotAt.l0 k2 (wrap64 (Int.tdiv (wrap64 (a1 - a0_0)) t779)) (Int.tmod (wrap64 (a1 - a0_0)) t780) l0_2 (l0_2.length : Int) (wrap64 (x44_2 + 1)) a0_0 a0_1 l0_2)) = some (r1, r2, r3) := H
                      have A30 := Aside0.mk A300
                      clear A300
                      by_cases c31 : t785 = true
                      · subst c31
                        have H1 : ((impl_Occurrence.f k2 a0_0 a0_1 l0_2 x44_2 (wrap64 (Int.tdiv (wrap64 (a1 - a0_0)) t779))).bind fun bt786 => (if bt786.2.2 = true then (some (x44_2, (wrap64 (Int.tdiv (wrap64 (a1 - a0_0)) t779)), true)) else (some (0, 0, false)))) = some (r1, r2, r3) := by rw [if_pos rfl] at H; exact H
                        clear H
                        have H := H1
                        clear H1
                        replace H := Option.bind_eq_some_iff.mp H
                        obtain ⟨⟨t786, t787, t788⟩, A320, H⟩ := H
                        replace H : (if t788 = true then (some (x44_2, (wrap64 (Int.tdiv (wrap64 (a1 - a0_0)) t779)), true)) else (some (0, 0, false))) = some (r1, r2, r3) := H
                        have A32 := Aside0.mk A320
                        clear A320
                        by_cases c33 : t788 = true
                        · subst c33
                          have H1 : (some (x44_2, (wrap64 (Int.tdiv (wrap64 (a1 - a0_0)) t779)), true)) = some (r1, r2, r3) := by rw [if_pos rfl] at H; exact H
                          clear H
                          have H := H1
                          clear H1
                          simp only [Option.some.injEq, Prod.mk.injEq] at H
                          obtain ⟨rfl, rfl, rfl⟩ := H
                          have p781 : 0 ≤ (x44_2 : Int) := of_decide_eq_true (by first | (with_reducible assumption) | assumption)
                          have q781 : x44_2 < (l0_2.length : Int) := of_decide_eq_true (by first | (with_reducible assumption) | assumption)
                          obtain ⟨ad781, e781, hx781_0, hx781_1⟩ := at_T90 HR0_2.out x44_2 p781 q781
                          cases e781
                          replace hx781_0 := (HB.out.cell (World.block_lt_of_cell? w _ hx781_0)).trans hx781_0
                          replace hx781_1 := (HB.out.cell (World.block_lt_of_cell? w _ hx781_1)).trans hx781_1
                          replace p781 := eq_true p781
                          replace q781 := eq_true q781
                          try go_wp2_with (first | ((with_reducible refine gate_dst (N := 10) rfl ?_); refine box_event ?hg (N := 10) ?hd (cs := #[.int .i64 0, .int .i64 0]) (t := 90) ?hr ?_; (case hd => rfl); (case hg => rfl); (case hr => first | (go_simp; done) | (go_simp; rfl)); intro gb782 hg w34 hbox hb; have n0_ := Aside0.mk (bb_ BK776.out hb); have n1_ := Aside0.mk (below_step (hb1_ HB.out GE776.out) hb); have n2_ := Aside0.mk (hbox); have n3_ := Aside0.mk ((by rw [hg]; exact (below_size (hb1_ HB.out GE776.out)) : w.heap.size ≤ gb782)); have n4_ := Aside0.mk ((by rw [hg]; exact (below_size (hb1_ HB.out GE776.out)) : w.heap.size ≤ gb782)); have n5_ := Aside0.mk ((bl_ hg BK776.out : gb776 ≠ gb782)); have n6_ := Aside0.mk ((bg_ hg BK776.out : gb782 ≠ gb776)); clear BK776; clear HB; have BK776 := n0_; have HB := n1_; have BK782 := n2_; have GW782 := n3_; have GE782 := n4_; have NB776_782 := n5_; have NB782_776 := n6_; clear n0_ n1_ n2_ n3_ n4_ n5_ n6_; clear hb hbox hg; have hnb35 := NB782_776.out; have hnc35 := NB776_782.out; have hcz36_0 := bc_ BK782.out 0 (.int .i64 0) rfl; have hcz36_1 := bc_ BK782.out 1 (.int .i64 0) rfl; have hfz36_0 := blk_frozen BK782.out 0; have hfz36_1 := blk_frozen BK782.out 1))
                          have n0_ : Aside0 (((w34.setCell ⟨gb782, 0, none⟩ (.int .i64 ((rd_T90 l0_2 x44_2).f0))).setCell ⟨gb782, 1, none⟩ (.int .i64 ((rd_T90 l0_2 x44_2).f1))).heap[gb776]? = some (.cells #[.int .i64 a0_0, .int .i64 a0_1, .slice (some ad781) l0_2.length c0_2] 59 (0, 0))) := ⟨by (with_reducible repeat (first | refine blk_drewN ?_ _ | refine blk_drew ?_ | refine blk_alloc ?_ _)); refine blk_far ?_ NB776_782.out _; (with_reducible repeat (first | refine blk_drewN ?_ _ | refine blk_drew ?_ | refine blk_alloc ?_ _)); refine blk_far ?_ NB776_782.out _; (with_reducible repeat (first | refine blk_drewN ?_ _ | refine blk_drew ?_ | refine blk_alloc ?_ _)); exact BK776.out⟩
                          have n1_ : Aside0 (((w34.setCell ⟨gb782, 0, none⟩ (.int .i64 ((rd_T90 l0_2 x44_2).f0))).setCell ⟨gb782, 1, none⟩ (.int .i64 ((rd_T90 l0_2 x44_2).f1))).heap[gb782]? = some (.cells #[.int .i64 ((rd_T90 l0_2 x44_2).f0), .int .i64 ((rd_T90 l0_2 x44_2).f1)] 90 (0, 0))) := ⟨by (with_reducible repeat (first | refine blk_drewN ?_ _ | refine blk_drew ?_ | refine blk_alloc ?_ _)); refine blk_put (cs := #[.int .i64 ((rd_T90 l0_2 x44_2).f0), .int .i64 0]) ?_ 1 _ rfl; (with_reducible repeat (first | refine blk_drewN ?_ _ | refine blk_drew ?_ | refine blk_alloc ?_ _)); refine blk_put (cs := #[.int .i64 0, .int .i64 0]) ?_ 0 _ rfl; (with_reducible repeat (first | refine blk_drewN ?_ _ | refine blk_drew ?_ | refine blk_alloc ?_ _)); exact BK782.out⟩
                          have n2_ : Aside0 (Below w.heap.size w ((w34.setCell ⟨gb782, 0, none⟩ (.int .i64 ((rd_T90 l0_2 x44_2).f0))).setCell ⟨gb782, 1, none⟩ (.int .i64 ((rd_T90 l0_2 x44_2).f1)))) := ⟨hb2_ HB.out GE776.out GE782.out⟩
                          (try clear BK776)
                          (try clear BK782)
                          (try clear HB)
                          generalize ((w34.setCell ⟨gb782, 0, none⟩ (.int .i64 ((rd_T90 l0_2 x44_2).f0))).setCell ⟨gb782, 1, none⟩ (.int .i64 ((rd_T90 l0_2 x44_2).f1))) = w37 at n0_ n1_ n2_ ⊢
                          have BK776 := n0_
                          have BK782 := n1_
                          have HB := n2_
                          clear n0_ n1_ n2_
                          have n0_ := Aside0.mk (blk_drew BK776.out)
                          have n1_ := Aside0.mk (blk_drew BK782.out)
                          have n2_ := Aside0.mk (below_drew1 HB.out)
                          clear BK776
                          clear BK782
                          clear HB
                          have BK776 := n0_
                          have BK782 := n1_
                          have HB := n2_
                          clear n0_ n1_ n2_
                          refine start_ (n := 12) (S := fun w' => w'.cell? ⟨gb776, 0, none⟩ = some (.int .i64 a0_0) ∧ w'.cell? ⟨gb776, 1, none⟩ = some (.int .i64 a0_1) ∧ w'.cell? ⟨gb776, 2, none⟩ = some (.slice (some ad781) l0_2.length c0_2) ∧ w'.cell? ⟨gb782, 0, none⟩ = some (.int .i64 ((rd_T90 l0_2 x44_2).f0)) ∧ w'.cell? ⟨gb782, 1, none⟩ = some (.int .i64 ((rd_T90 l0_2 x44_2).f1))) (ds := []) #[false, false, false, false, false, false, false, false, false, false, false, false] (by kernel_rfl) rfl rfl ⟨(blk_cell BK776.out 0).trans rfl, (blk_cell BK776.out 1).trans rfl, (blk_cell BK776.out 2).trans rfl, (blk_cell BK782.out 0).trans rfl, (blk_cell BK782.out 1).trans rfl⟩ (fun hHeld => ?_); refine with_tabW impl_SlotAt.tab7 impl_SlotAt.bits7 (fun HT_ HW_ => ?_)
                          generalize w37.drew = w38 at BK776 BK782 HB hHeld ⊢
                          refine pure_ (i := 0) (N := some 49) (v := ?_) (a' := ?_) #[true, false, false, false, false, false, false, false, false, false, false, false] rfl rfl (any_of HT_.out (by kernel_rfl)) (fun _ _ _ h => h) (Or.inl ⟨by rfl, ?_⟩) ?_ ?_
                          rotate_left
                          · intro w'
                            go_simp
                            with_reducible rfl
                          rotate_left
                          · simp only [Act.put, List.setIfInBounds_toArray, List.set_cons_zero, List.set_cons_succ, i64_w, i32_w]
                            rfl
                          refine pure_ (i := 2) (N := some 51) (v := ?_) (a' := ?_) #[true, false, true, false, false, false, false, false, false, false, false, false] rfl rfl (any_of HT_.out (by kernel_rfl)) (fun _ _ _ h => h) (Or.inl ⟨by rfl, ?_⟩) ?_ ?_
                          rotate_left
                          · intro w'
                            go_simp
                            with_reducible rfl
                          rotate_left
                          · simp only [Act.put, List.setIfInBounds_toArray, List.set_cons_zero, List.set_cons_succ, i64_w, i32_w]
                            rfl
                          refine pure_ (i := 5) (N := some 54) (v := ?_) (a' := ?_) #[true, false, true, false, false, true, false, false, false, false, false, false] rfl rfl (any_of HT_.out (by kernel_rfl)) (fun _ _ _ h => h) (Or.inl ⟨by rfl, ?_⟩) ?_ ?_
                          rotate_left
                          · intro w'
                            go_simp
                            with_reducible rfl
                          rotate_left
                          · simp only [Act.put, List.setIfInBounds_toArray, List.set_cons_zero, List.set_cons_succ, i64_w, i32_w]
                            rfl
                          refine pure_ (i := 7) (N := some 56) (v := ?_) (a' := ?_) #[true, false, true, false, false, true, false, true, false, false, false, false] rfl rfl (any_of HT_.out (by kernel_rfl)) (fun _ _ _ h => h) (Or.inl ⟨by rfl, ?_⟩) ?_ ?_
                          rotate_left
                          · intro w'
                            go_simp
                            with_reducible rfl
                          rotate_left
                          · simp only [Act.put, List.setIfInBounds_toArray, List.set_cons_zero, List.set_cons_succ, i64_w, i32_w]
                            rfl
                          refine take_ (i := 1) (N := some 50) (v := ?_) (a' := ?_) #[true, true, true, false, false, true, false, true, false, false, false, false] rfl rfl (take_ofW HT_.out HW_.out (by kernel_rfl)) (fun _ _ _ h => h) (Or.inl ⟨by rfl, ?_⟩) hHeld ?_ ?_
                          rotate_left
                          · rintro w' ⟨s0, s1, s2, s3, s4⟩
                            go_simp
                            with_reducible rfl
                          rotate_left
                          · simp only [Act.put, List.setIfInBounds_toArray, List.set_cons_zero, List.set_cons_succ, i64_w, i32_w]
                            rfl
                          refine take_ (i := 4) (N := some 53) (v := ?_) (a' := ?_) #[true, true, true, false, true, true, false, true, false, false, false, false] rfl rfl (take_ofW HT_.out HW_.out (by kernel_rfl)) (fun _ _ _ h => h) (Or.inl ⟨by rfl, ?_⟩) hHeld ?_ ?_
                          rotate_left
                          · rintro w' ⟨s0, s1, s2, s3, s4⟩
                            go_simp
                            with_reducible rfl
                          rotate_left
                          · simp only [Act.put, List.setIfInBounds_toArray, List.set_cons_zero, List.set_cons_succ, i64_w, i32_w]
                            rfl
                          refine take_ (i := 8) (N := some 57) (v := ?_) (a' := ?_) #[true, true, true, false, true, true, false, true, true, false, false, false] rfl rfl (take_ofW HT_.out HW_.out (by kernel_rfl)) (fun _ _ _ h => h) (Or.inl ⟨by rfl, ?_⟩) hHeld ?_ ?_
                          rotate_left
                          · rintro w' ⟨s0, s1, s2, s3, s4⟩
                            go_simp
                            with_reducible rfl
                          rotate_left
                          · simp only [Act.put, List.setIfInBounds_toArray, List.set_cons_zero, List.set_cons_succ, i64_w, i32_w]
                            rfl
                          refine one_ (i := 3) (N := some 52) #[true, true, true, true, true, true, false, true, true, false, false, false] rfl rfl (one_of HT_.out (by kernel_rfl)) (by decide) (fun K hK => ?_)
                          refine goes_ Try.func105 (by kernel_rfl) rfl #[.agg #[.int .i64 a0_0, .int .i64 a0_1, .slice (some ad781) l0_2.length c0_2], .int .i64 x44_2] (by rfl) rfl rfl arr_ ?_
                          with_reducible refine (impl_Plan_from.calls k2 a0_0 a0_1 _ _ l0_2 x44_2 t783 _ ?side1 ?side2 A28.out).mono ?_
                          (case side1 => exact kc_ (Kd.C_below HR0_2.out HB.out))
                          (case side2 => exact HC0_2.out)
                          rintro e w39 ⟨rfl, hb⟩
                          refine ⟨_, rfl, ?_⟩
                          have n0_ := Aside0.mk (bb_ BK776.out hb)
                          have n1_ := Aside0.mk (bb_ BK782.out hb)
                          have n2_ := Aside0.mk (below_step (hb2_ HB.out GE776.out GE782.out) hb)
                          clear BK776
                          clear BK782
                          clear HB
                          have BK776 := n0_
                          have BK782 := n1_
                          have HB := n2_
                          clear n0_ n1_ n2_
                          (try clear hb)
                          (try clear hb2)
                          (try clear hk)
                          (try clear hi)
                          refine hK.out _ _ ⟨(blk_cell BK776.out 0).trans rfl, (blk_cell BK776.out 1).trans rfl, (blk_cell BK776.out 2).trans rfl, (blk_cell BK782.out 0).trans rfl, (blk_cell BK782.out 1).trans rfl⟩ (fun hHeld => ?_)
                          clear hK K
                          refine norm_ (a' := ?_) ?_ ?_
                          rotate_left
                          · show Act.put _ (some 52) _ = _
                            simp only [Act.put, List.setIfInBounds_toArray, List.set_cons_zero, List.set_cons_succ, i64_w, i32_w]
                            rfl
                          refine one_ (i := 6) (N := some 55) #[true, true, true, true, true, true, true, true, true, false, false, false] rfl rfl (one_of HT_.out (by kernel_rfl)) (by decide) (fun K hK => ?_)
                          refine goes_ Try.func105 (by kernel_rfl) rfl #[.agg #[.int .i64 a0_0, .int .i64 a0_1, .slice (some ad781) l0_2.length c0_2], .int .i64 x44_2] (by rfl) rfl rfl arr_ ?_
                          with_reducible refine (impl_Plan_from.calls k2 a0_0 a0_1 _ _ l0_2 x44_2 t784 _ ?side1 ?side2 A29.out).mono ?_
                          (case side1 => exact kc_ (Kd.C_below HR0_2.out HB.out))
                          (case side2 => exact HC0_2.out)
                          rintro e w40 ⟨rfl, hb⟩
                          refine ⟨_, rfl, ?_⟩
                          have n0_ := Aside0.mk (bb_ BK776.out hb)
                          have n1_ := Aside0.mk (bb_ BK782.out hb)
                          have n2_ := Aside0.mk (below_step (hb2_ HB.out GE776.out GE782.out) hb)
                          clear BK776
                          clear BK782
                          clear HB
                          have BK776 := n0_
                          have BK782 := n1_
                          have HB := n2_
                          clear n0_ n1_ n2_
                          (try clear hb)
                          (try clear hb2)
                          (try clear hk)
                          (try clear hi)
                          refine hK.out _ _ ⟨(blk_cell BK776.out 0).trans rfl, (blk_cell BK776.out 1).trans rfl, (blk_cell BK776.out 2).trans rfl, (blk_cell BK782.out 0).trans rfl, (blk_cell BK782.out 1).trans rfl⟩ (fun hHeld => ?_)
                          clear hK K
                          refine norm_ (a' := ?_) ?_ ?_
                          rotate_left
                          · show Act.put _ (some 55) _ = _
                            simp only [Act.put, List.setIfInBounds_toArray, List.set_cons_zero, List.set_cons_succ, i64_w, i32_w]
                            rfl
                          refine pure_ (i := 9) (N := some 58) (v := ?_) (a' := ?_) #[true, true, true, true, true, true, true, true, true, true, false, false] rfl rfl (any_of HT_.out (by kernel_rfl)) (fun _ _ _ h => h) (Or.inl ⟨by rfl, ?_⟩) ?_ ?_
                          rotate_left
                          · intro w'
                            go_simp
                            with_reducible rfl
                          rotate_left
                          · simp only [Act.put, List.setIfInBounds_toArray, List.set_cons_zero, List.set_cons_succ, i64_w, i32_w]
                            rfl
                          refine pure_ (i := 10) (N := some 59) (v := ?_) (a' := ?_) #[true, true, true, true, true, true, true, true, true, true, true, false] rfl rfl (any_of HT_.out (by kernel_rfl)) (fun _ _ _ h => h) (Or.inl ⟨by rfl, ?_⟩) ?_ ?_
                          rotate_left
                          · intro w'
                            go_simp
                            with_reducible rfl
                          rotate_left
                          · simp only [Act.put, List.setIfInBounds_toArray, List.set_cons_zero, List.set_cons_succ, i64_w, i32_w]
                            rfl
                          refine one_ (i := 11) (N := some 60) #[true, true, true, true, true, true, true, true, true, true, true, true] rfl rfl (one_of HT_.out (by kernel_rfl)) (by decide) (fun K hK => ?_)
                          refine goes_ Try.func85 (by kernel_rfl) rfl #[.int .i64 (Int.tmod (wrap64 (a1 - a0_0)) t780), .int .i64 t783, .int .i64 (wrap64 ((wrap64 (t784 + ((rd_T90 l0_2 x44_2).f1))) - 1))] (by rfl) rfl rfl arr_ ?_
                          with_reducible refine (impl_in.calls (Int.tmod (wrap64 (a1 - a0_0)) t780) t783 (wrap64 ((wrap64 (t784 + ((rd_T90 l0_2 x44_2).f1))) - 1)) true _ A30.out).mono ?_
                          rintro e w' ⟨rfl, ⟨nd, rfl⟩⟩
                          refine ⟨_, rfl, ?_⟩
                          refine hK.out _ _ ⟨(blk_cell BK776.out 0).trans rfl, (blk_cell BK776.out 1).trans rfl, (blk_cell BK776.out 2).trans rfl, (blk_cell BK782.out 0).trans rfl, (blk_cell BK782.out 1).trans rfl⟩ (fun hHeld => ?_)
                          clear hK K
                          refine norm_ (a' := ?_) ?_ ?_
                          rotate_left
                          · show Act.put _ (some 60) _ = _
                            simp only [Act.put, List.setIfInBounds_toArray, List.set_cons_zero, List.set_cons_succ, i64_w, i32_w]
                            rfl
                          refine done_ (done_of HT_.out (by kernel_rfl)) ?_
                          have hcz41_0 := bc_ BK776.out 0 (.int .i64 a0_0) rfl
                          have hcz41_1 := bc_ BK776.out 1 (.int .i64 a0_1) rfl
                          have hcz41_2 : w40.cell? ⟨gb776, 2, none⟩ = some (.slice (some ad781) l0_2.length c0_2) := (blk_cell BK776.out 2).trans rfl
                          have hfz41_0 := blk_frozen BK776.out 0
                          have hfz41_1 := blk_frozen BK776.out 1
                          have hfz41_2 := blk_frozen BK776.out 2
                          try go_wp2_with (first | ((with_reducible refine gate_callee (f := 96) rfl ?_); refine goesL_ (some 65) rfl rfl Try.func96 (by kernel_rfl) rfl #[.agg #[.int .i64 a0_0, .int .i64 a0_1, .slice (some ad781) l0_2.length c0_2], .int .i64 x44_2, .int .i64 (wrap64 (Int.tdiv (wrap64 (a1 - a0_0)) t779))] rfl arr_ ?_; (with_reducible refine (impl_Occurrence.calls k2 a0_0 a0_1 _ _ l0_2 x44_2 (wrap64 (Int.tdiv (wrap64 (a1 - a0_0)) t779)) t786 t787 true _ ?side1 ?side2 A32.out).mono ?_); (case side1 => repeat (first | exact (Kd.C_below HR0_2.out (hb2_ HB.out GE776.out GE782.out)) | (with_reducible refine Kd.C_alloc ?_ _) | (with_reducible refine Kd.C_drewN ?_ _) | (with_reducible refine Kd.C_drew ?_))); (case side2 => exact HC0_2.out); rintro e w42 ⟨rfl, hb⟩; refine ⟨_, rfl, ?_⟩; have n0_ := Aside0.mk (bb_ BK776.out hb); have n1_ := Aside0.mk (bb_ BK782.out hb); have n2_ := Aside0.mk (below_step (hb2_ HB.out GE776.out GE782.out) hb); clear BK776; clear BK782; clear HB; have BK776 := n0_; have BK782 := n1_; have HB := n2_; clear n0_ n1_ n2_; (try clear hb); (try clear hb2); (try clear hk); (try clear hi)) | ((with_reducible refine gate_dst (N := 11) rfl ?_); refine box_event ?hg (N := 11) ?hd (cs := #[.int .i64 0, .int .i64 0]) (t := 43) ?hr ?_; (case hd => rfl); (case hg => rfl); (case hr => first | (go_simp; done) | (go_simp; rfl)); intro gb789 hg w43 hbox hb; have n0_ := Aside0.mk (bb_ BK776.out hb); have n1_ := Aside0.mk (bb_ BK782.out hb); have n2_ := Aside0.mk (below_step (hb2_ HB.out GE776.out GE782.out) hb); have n3_ := Aside0.mk (hbox); have n4_ := Aside0.mk ((by rw [hg]; exact (below_size (hb2_ HB.out GE776.out GE782.out)) : w.heap.size ≤ gb789)); have n5_ := Aside0.mk ((by rw [hg]; exact (below_size (hb2_ HB.out GE776.out GE782.out)) : w.heap.size ≤ gb789)); have n6_ := Aside0.mk ((bl_ hg BK776.out : gb776 ≠ gb789)); have n7_ := Aside0.mk ((bg_ hg BK776.out : gb789 ≠ gb776)); have n8_ := Aside0.mk ((bl_ hg BK782.out : gb782 ≠ gb789)); have n9_ := Aside0.mk ((bg_ hg BK782.out : gb789 ≠ gb782)); clear BK776; clear BK782; clear HB; have BK776 := n0_; have BK782 := n1_; have HB := n2_; have BK789 := n3_; have GW789 := n4_; have GE789 := n5_; have NB776_789 := n6_; have NB789_776 := n7_; have NB782_789 := n8_; have NB789_782 := n9_; clear n0_ n1_ n2_ n3_ n4_ n5_ n6_ n7_ n8_ n9_; clear hb hbox hg; have hnb44 := NB789_776.out; have hnc44 := NB776_789.out; have hnb45 := NB789_782.out; have hnc45 := NB782_789.out; have hcz46_0 := bc_ BK789.out 0 (.int .i64 0) rfl; have hcz46_1 := bc_ BK789.out 1 (.int .i64 0) rfl; have hfz46_0 := blk_frozen BK789.out 0; have hfz46_1 := blk_frozen BK789.out 1))
                          go_ret3
                          exact ⟨er_, hb3_ HB.out GE776.out GE782.out GE789.out⟩
                        · replace c33 := Bool.eq_false_iff.mpr c33
                          subst c33
                          have H1 : (some (0, 0, false)) = some (r1, r2, r3) := by rw [if_neg (show ¬ (false = true) by decide)] at H; exact H
                          clear H
                          have H := H1
                          clear H1
                          simp only [Option.some.injEq, Prod.mk.injEq] at H
                          obtain ⟨rfl, rfl, rfl⟩ := H
                          have p781 : 0 ≤ (x44_2 : Int) := of_decide_eq_true (by first | (with_reducible assumption) | assumption)
                          have q781 : x44_2 < (l0_2.length : Int) := of_decide_eq_true (by first | (with_reducible assumption) | assumption)
                          obtain ⟨ad781, e781, hx781_0, hx781_1⟩ := at_T90 HR0_2.out x44_2 p781 q781
                          cases e781
                          replace hx781_0 := (HB.out.cell (World.block_lt_of_cell? w _ hx781_0)).trans hx781_0
                          replace hx781_1 := (HB.out.cell (World.block_lt_of_cell? w _ hx781_1)).trans hx781_1
                          replace p781 := eq_true p781
                          replace q781 := eq_true q781
                          try go_wp2_with (first | ((with_reducible refine gate_dst (N := 10) rfl ?_); refine box_event ?hg (N := 10) ?hd (cs := #[.int .i64 0, .int .i64 0]) (t := 90) ?hr ?_; (case hd => rfl); (case hg => rfl); (case hr => first | (go_simp; done) | (go_simp; rfl)); intro gb782 hg w47 hbox hb; have n0_ := Aside0.mk (bb_ BK776.out hb); have n1_ := Aside0.mk (below_step (hb1_ HB.out GE776.out) hb); have n2_ := Aside0.mk (hbox); have n3_ := Aside0.mk ((by rw [hg]; exact (below_size (hb1_ HB.out GE776.out)) : w.heap.size ≤ gb782)); have n4_ := Aside0.mk ((by rw [hg]; exact (below_size (hb1_ HB.out GE776.out)) : w.heap.size ≤ gb782)); have n5_ := Aside0.mk ((bl_ hg BK776.out : gb776 ≠ gb782)); have n6_ := Aside0.mk ((bg_ hg BK776.out : gb782 ≠ gb776)); clear BK776; clear HB; have BK776 := n0_; have HB := n1_; have BK782 := n2_; have GW782 := n3_; have GE782 := n4_; have NB776_782 := n5_; have NB782_776 := n6_; clear n0_ n1_ n2_ n3_ n4_ n5_ n6_; clear hb hbox hg; have hnb48 := NB782_776.out; have hnc48 := NB776_782.out; have hcz49_0 := bc_ BK782.out 0 (.int .i64 0) rfl; have hcz49_1 := bc_ BK782.out 1 (.int .i64 0) rfl; have hfz49_0 := blk_frozen BK782.out 0; have hfz49_1 := blk_frozen BK782.out 1))
                          have n0_ : Aside0 (((w47.setCell ⟨gb782, 0, none⟩ (.int .i64 ((rd_T90 l0_2 x44_2).f0))).setCell ⟨gb782, 1, none⟩ (.int .i64 ((rd_T90 l0_2 x44_2).f1))).heap[gb776]? = some (.cells #[.int .i64 a0_0, .int .i64 a0_1, .slice (some ad781) l0_2.length c0_2] 59 (0, 0))) := ⟨by (with_reducible repeat (first | refine blk_drewN ?_ _ | refine blk_drew ?_ | refine blk_alloc ?_ _)); refine blk_far ?_ NB776_782.out _; (with_reducible repeat (first | refine blk_drewN ?_ _ | refine blk_drew ?_ | refine blk_alloc ?_ _)); refine blk_far ?_ NB776_782.out _; (with_reducible repeat (first | refine blk_drewN ?_ _ | refine blk_drew ?_ | refine blk_alloc ?_ _)); exact BK776.out⟩
                          have n1_ : Aside0 (((w47.setCell ⟨gb782, 0, none⟩ (.int .i64 ((rd_T90 l0_2 x44_2).f0))).setCell ⟨gb782, 1, none⟩ (.int .i64 ((rd_T90 l0_2 x44_2).f1))).heap[gb782]? = some (.cells #[.int .i64 ((rd_T90 l0_2 x44_2).f0), .int .i64 ((rd_T90 l0_2 x44_2).f1)] 90 (0, 0))) := ⟨by (with_reducible repeat (first | refine blk_drewN ?_ _ | refine blk_drew ?_ | refine blk_alloc ?_ _)); refine blk_put (cs := #[.int .i64 ((rd_T90 l0_2 x44_2).f0), .int .i64 0]) ?_ 1 _ rfl; (with_reducible repeat (first | refine blk_drewN ?_ _ | refine blk_drew ?_ | refine blk_alloc ?_ _)); refine blk_put (cs := #[.int .i64 0, .int .i64 0]) ?_ 0 _ rfl; (with_reducible repeat (first | refine blk_drewN ?_ _ | refine blk_drew ?_ | refine blk_alloc ?_ _)); exact BK782.out⟩
                          have n2_ : Aside0 (Below w.heap.size w ((w47.setCell ⟨gb782, 0, none⟩ (.int .i64 ((rd_T90 l0_2 x44_2).f0))).setCell ⟨gb782, 1, none⟩ (.int .i64 ((rd_T90 l0_2 x44_2).f1)))) := ⟨hb2_ HB.out GE776.out GE782.out⟩
                          (try clear BK776)
                          (try clear BK782)
                          (try clear HB)
                          generalize ((w47.setCell ⟨gb782, 0, none⟩ (.int .i64 ((rd_T90 l0_2 x44_2).f0))).setCell ⟨gb782, 1, none⟩ (.int .i64 ((rd_T90 l0_2 x44_2).f1))) = w50 at n0_ n1_ n2_ ⊢
                          have BK776 := n0_
                          have BK782 := n1_
                          have HB := n2_
                          clear n0_ n1_ n2_
                          have n0_ := Aside0.mk (blk_drew BK776.out)
                          have n1_ := Aside0.mk (blk_drew BK782.out)
                          have n2_ := Aside0.mk (below_drew1 HB.out)
                          clear BK776
                          clear BK782
                          clear HB
                          have BK776 := n0_
                          have BK782 := n1_
                          have HB := n2_
                          clear n0_ n1_ n2_
                          refine start_ (n := 12) (S := fun w' => w'.cell? ⟨gb776, 0, none⟩ = some (.int .i64 a0_0) ∧ w'.cell? ⟨gb776, 1, none⟩ = some (.int .i64 a0_1) ∧ w'.cell? ⟨gb776, 2, none⟩ = some (.slice (some ad781) l0_2.length c0_2) ∧ w'.cell? ⟨gb782, 0, none⟩ = some (.int .i64 ((rd_T90 l0_2 x44_2).f0)) ∧ w'.cell? ⟨gb782, 1, none⟩ = some (.int .i64 ((rd_T90 l0_2 x44_2).f1))) (ds := []) #[false, false, false, false, false, false, false, false, false, false, false, false] (by kernel_rfl) rfl rfl ⟨(blk_cell BK776.out 0).trans rfl, (blk_cell BK776.out 1).trans rfl, (blk_cell BK776.out 2).trans rfl, (blk_cell BK782.out 0).trans rfl, (blk_cell BK782.out 1).trans rfl⟩ (fun hHeld => ?_); refine with_tabW impl_SlotAt.tab7 impl_SlotAt.bits7 (fun HT_ HW_ => ?_)
                          generalize w50.drew = w51 at BK776 BK782 HB hHeld ⊢
                          refine pure_ (i := 0) (N := some 49) (v := ?_) (a' := ?_) #[true, false, false, false, false, false, false, false, false, false, false, false] rfl rfl (any_of HT_.out (by kernel_rfl)) (fun _ _ _ h => h) (Or.inl ⟨by rfl, ?_⟩) ?_ ?_
                          rotate_left
                          · intro w'
                            go_simp
                            with_reducible rfl
                          rotate_left
                          · simp only [Act.put, List.setIfInBounds_toArray, List.set_cons_zero, List.set_cons_succ, i64_w, i32_w]
                            rfl
                          refine pure_ (i := 2) (N := some 51) (v := ?_) (a' := ?_) #[true, false, true, false, false, false, false, false, false, false, false, false] rfl rfl (any_of HT_.out (by kernel_rfl)) (fun _ _ _ h => h) (Or.inl ⟨by rfl, ?_⟩) ?_ ?_
                          rotate_left
                          · intro w'
                            go_simp
                            with_reducible rfl
                          rotate_left
                          · simp only [Act.put, List.setIfInBounds_toArray, List.set_cons_zero, List.set_cons_succ, i64_w, i32_w]
                            rfl
                          refine pure_ (i := 5) (N := some 54) (v := ?_) (a' := ?_) #[true, false, true, false, false, true, false, false, false, false, false, false] rfl rfl (any_of HT_.out (by kernel_rfl)) (fun _ _ _ h => h) (Or.inl ⟨by rfl, ?_⟩) ?_ ?_
                          rotate_left
                          · intro w'
                            go_simp
                            with_reducible rfl
                          rotate_left
                          · simp only [Act.put, List.setIfInBounds_toArray, List.set_cons_zero, List.set_cons_succ, i64_w, i32_w]
                            rfl
                          refine pure_ (i := 7) (N := some 56) (v := ?_) (a' := ?_) #[true, false, true, false, false, true, false, true, false, false, false, false] rfl rfl (any_of HT_.out (by kernel_rfl)) (fun _ _ _ h => h) (Or.inl ⟨by rfl, ?_⟩) ?_ ?_
                          rotate_left
                          · intro w'
                            go_simp
                            with_reducible rfl
                          rotate_left
                          · simp only [Act.put, List.setIfInBounds_toArray, List.set_cons_zero, List.set_cons_succ, i64_w, i32_w]
                            rfl
                          refine take_ (i := 1) (N := some 50) (v := ?_) (a' := ?_) #[true, true, true, false, false, true, false, true, false, false, false, false] rfl rfl (take_ofW HT_.out HW_.out (by kernel_rfl)) (fun _ _ _ h => h) (Or.inl ⟨by rfl, ?_⟩) hHeld ?_ ?_
                          rotate_left
                          · rintro w' ⟨s0, s1, s2, s3, s4⟩
                            go_simp
                            with_reducible rfl
                          rotate_left
                          · simp only [Act.put, List.setIfInBounds_toArray, List.set_cons_zero, List.set_cons_succ, i64_w, i32_w]
                            rfl
                          refine take_ (i := 4) (N := some 53) (v := ?_) (a' := ?_) #[true, true, true, false, true, true, false, true, false, false, false, false] rfl rfl (take_ofW HT_.out HW_.out (by kernel_rfl)) (fun _ _ _ h => h) (Or.inl ⟨by rfl, ?_⟩) hHeld ?_ ?_
                          rotate_left
                          · rintro w' ⟨s0, s1, s2, s3, s4⟩
                            go_simp
                            with_reducible rfl
                          rotate_left
                          · simp only [Act.put, List.setIfInBounds_toArray, List.set_cons_zero, List.set_cons_succ, i64_w, i32_w]
                            rfl
                          refine take_ (i := 8) (N := some 57) (v := ?_) (a' := ?_) #[true, true, true, false, true, true, false, true, true, false, false, false] rfl rfl (take_ofW HT_.out HW_.out (by kernel_rfl)) (fun _ _ _ h => h) (Or.inl ⟨by rfl, ?_⟩) hHeld ?_ ?_
                          rotate_left
                          · rintro w' ⟨s0, s1, s2, s3, s4⟩
                            go_simp
                            with_reducible rfl
                          rotate_left
                          · simp only [Act.put, List.setIfInBounds_toArray, List.set_cons_zero, List.set_cons_succ, i64_w, i32_w]
                            rfl
                          refine one_ (i := 3) (N := some 52) #[true, true, true, true, true, true, false, true, true, false, false, false] rfl rfl (one_of HT_.out (by kernel_rfl)) (by decide) (fun K hK => ?_)
                          refine goes_ Try.func105 (by kernel_rfl) rfl #[.agg #[.int .i64 a0_0, .int .i64 a0_1, .slice (some ad781) l0_2.length c0_2], .int .i64 x44_2] (by rfl) rfl rfl arr_ ?_
                          with_reducible refine (impl_Plan_from.calls k2 a0_0 a0_1 _ _ l0_2 x44_2 t783 _ ?side1 ?side2 A28.out).mono ?_
                          (case side1 => exact kc_ (Kd.C_below HR0_2.out HB.out))
                          (case side2 => exact HC0_2.out)
                          rintro e w52 ⟨rfl, hb⟩
                          refine ⟨_, rfl, ?_⟩
                          have n0_ := Aside0.mk (bb_ BK776.out hb)
                          have n1_ := Aside0.mk (bb_ BK782.out hb)
                          have n2_ := Aside0.mk (below_step (hb2_ HB.out GE776.out GE782.out) hb)
                          clear BK776
                          clear BK782
                          clear HB
                          have BK776 := n0_
                          have BK782 := n1_
                          have HB := n2_
                          clear n0_ n1_ n2_
                          (try clear hb)
                          (try clear hb2)
                          (try clear hk)
                          (try clear hi)
                          refine hK.out _ _ ⟨(blk_cell BK776.out 0).trans rfl, (blk_cell BK776.out 1).trans rfl, (blk_cell BK776.out 2).trans rfl, (blk_cell BK782.out 0).trans rfl, (blk_cell BK782.out 1).trans rfl⟩ (fun hHeld => ?_)
                          clear hK K
                          refine norm_ (a' := ?_) ?_ ?_
                          rotate_left
                          · show Act.put _ (some 52) _ = _
                            simp only [Act.put, List.setIfInBounds_toArray, List.set_cons_zero, List.set_cons_succ, i64_w, i32_w]
                            rfl
                          refine one_ (i := 6) (N := some 55) #[true, true, true, true, true, true, true, true, true, false, false, false] rfl rfl (one_of HT_.out (by kernel_rfl)) (by decide) (fun K hK => ?_)
                          refine goes_ Try.func105 (by kernel_rfl) rfl #[.agg #[.int .i64 a0_0, .int .i64 a0_1, .slice (some ad781) l0_2.length c0_2], .int .i64 x44_2] (by rfl) rfl rfl arr_ ?_
                          with_reducible refine (impl_Plan_from.calls k2 a0_0 a0_1 _ _ l0_2 x44_2 t784 _ ?side1 ?side2 A29.out).mono ?_
                          (case side1 => exact kc_ (Kd.C_below HR0_2.out HB.out))
                          (case side2 => exact HC0_2.out)
                          rintro e w53 ⟨rfl, hb⟩
                          refine ⟨_, rfl, ?_⟩
                          have n0_ := Aside0.mk (bb_ BK776.out hb)
                          have n1_ := Aside0.mk (bb_ BK782.out hb)
                          have n2_ := Aside0.mk (below_step (hb2_ HB.out GE776.out GE782.out) hb)
                          clear BK776
                          clear BK782
                          clear HB
                          have BK776 := n0_
                          have BK782 := n1_
                          have HB := n2_
                          clear n0_ n1_ n2_
                          (try clear hb)
                          (try clear hb2)
                          (try clear hk)
                          (try clear hi)
                          refine hK.out _ _ ⟨(blk_cell BK776.out 0).trans rfl, (blk_cell BK776.out 1).trans rfl, (blk_cell BK776.out 2).trans rfl, (blk_cell BK782.out 0).trans rfl, (blk_cell BK782.out 1).trans rfl⟩ (fun hHeld => ?_)
                          clear hK K
                          refine norm_ (a' := ?_) ?_ ?_
                          rotate_left
                          · show Act.put _ (some 55) _ = _
                            simp only [Act.put, List.setIfInBounds_toArray, List.set_cons_zero, List.set_cons_succ, i64_w, i32_w]
                            rfl
                          refine pure_ (i := 9) (N := some 58) (v := ?_) (a' := ?_) #[true, true, true, true, true, true, true, true, true, true, false, false] rfl rfl (any_of HT_.out (by kernel_rfl)) (fun _ _ _ h => h) (Or.inl ⟨by rfl, ?_⟩) ?_ ?_
                          rotate_left
                          · intro w'
                            go_simp
                            with_reducible rfl
                          rotate_left
                          · simp only [Act.put, List.setIfInBounds_toArray, List.set_cons_zero, List.set_cons_succ, i64_w, i32_w]
                            rfl
                          refine pure_ (i := 10) (N := some 59) (v := ?_) (a' := ?_) #[true, true, true, true, true, true, true, true, true, true, true, false] rfl rfl (any_of HT_.out (by kernel_rfl)) (fun _ _ _ h => h) (Or.inl ⟨by rfl, ?_⟩) ?_ ?_
                          rotate_left
                          · intro w'
                            go_simp
                            with_reducible rfl
                          rotate_left
                          · simp only [Act.put, List.setIfInBounds_toArray, List.set_cons_zero, List.set_cons_succ, i64_w, i32_w]
                            rfl
                          refine one_ (i := 11) (N := some 60) #[true, true, true, true, true, true, true, true, true, true, true, true] rfl rfl (one_of HT_.out (by kernel_rfl)) (by decide) (fun K hK => ?_)
                          refine goes_ Try.func85 (by kernel_rfl) rfl #[.int .i64 (Int.tmod (wrap64 (a1 - a0_0)) t780), .int .i64 t783, .int .i64 (wrap64 ((wrap64 (t784 + ((rd_T90 l0_2 x44_2).f1))) - 1))] (by rfl) rfl rfl arr_ ?_
                          with_reducible refine (impl_in.calls (Int.tmod (wrap64 (a1 - a0_0)) t780) t783 (wrap64 ((wrap64 (t784 + ((rd_T90 l0_2 x44_2).f1))) - 1)) true _ A30.out).mono ?_
                          rintro e w' ⟨rfl, ⟨nd, rfl⟩⟩
                          refine ⟨_, rfl, ?_⟩
                          refine hK.out _ _ ⟨(blk_cell BK776.out 0).trans rfl, (blk_cell BK776.out 1).trans rfl, (blk_cell BK776.out 2).trans rfl, (blk_cell BK782.out 0).trans rfl, (blk_cell BK782.out 1).trans rfl⟩ (fun hHeld => ?_)
                          clear hK K
                          refine norm_ (a' := ?_) ?_ ?_
                          rotate_left
                          · show Act.put _ (some 60) _ = _
                            simp only [Act.put, List.setIfInBounds_toArray, List.set_cons_zero, List.set_cons_succ, i64_w, i32_w]
                            rfl
                          refine done_ (done_of HT_.out (by kernel_rfl)) ?_
                          have hcz54_0 := bc_ BK776.out 0 (.int .i64 a0_0) rfl
                          have hcz54_1 := bc_ BK776.out 1 (.int .i64 a0_1) rfl
                          have hcz54_2 : w53.cell? ⟨gb776, 2, none⟩ = some (.slice (some ad781) l0_2.length c0_2) := (blk_cell BK776.out 2).trans rfl
                          have hfz54_0 := blk_frozen BK776.out 0
                          have hfz54_1 := blk_frozen BK776.out 1
                          have hfz54_2 := blk_frozen BK776.out 2
                          try go_wp2_with (first | ((with_reducible refine gate_callee (f := 96) rfl ?_); refine goesL_ (some 65) rfl rfl Try.func96 (by kernel_rfl) rfl #[.agg #[.int .i64 a0_0, .int .i64 a0_1, .slice (some ad781) l0_2.length c0_2], .int .i64 x44_2, .int .i64 (wrap64 (Int.tdiv (wrap64 (a1 - a0_0)) t779))] rfl arr_ ?_; (with_reducible refine (impl_Occurrence.calls k2 a0_0 a0_1 _ _ l0_2 x44_2 (wrap64 (Int.tdiv (wrap64 (a1 - a0_0)) t779)) t786 t787 false _ ?side1 ?side2 A32.out).mono ?_); (case side1 => repeat (first | exact (Kd.C_below HR0_2.out (hb2_ HB.out GE776.out GE782.out)) | (with_reducible refine Kd.C_alloc ?_ _) | (with_reducible refine Kd.C_drewN ?_ _) | (with_reducible refine Kd.C_drew ?_))); (case side2 => exact HC0_2.out); rintro e w55 ⟨rfl, hb⟩; refine ⟨_, rfl, ?_⟩; have n0_ := Aside0.mk (bb_ BK776.out hb); have n1_ := Aside0.mk (bb_ BK782.out hb); have n2_ := Aside0.mk (below_step (hb2_ HB.out GE776.out GE782.out) hb); clear BK776; clear BK782; clear HB; have BK776 := n0_; have BK782 := n1_; have HB := n2_; clear n0_ n1_ n2_; (try clear hb); (try clear hb2); (try clear hk); (try clear hi)) | ((with_reducible refine gate_dst (N := 11) rfl ?_); refine box_event ?hg (N := 11) ?hd (cs := #[.int .i64 0, .int .i64 0]) (t := 43) ?hr ?_; (case hd => rfl); (case hg => rfl); (case hr => first | (go_simp; done) | (go_simp; rfl)); intro gb789 hg w56 hbox hb; have n0_ := Aside0.mk (bb_ BK776.out hb); have n1_ := Aside0.mk (bb_ BK782.out hb); have n2_ := Aside0.mk (below_step (hb2_ HB.out GE776.out GE782.out) hb); have n3_ := Aside0.mk (hbox); have n4_ := Aside0.mk ((by rw [hg]; exact (below_size (hb2_ HB.out GE776.out GE782.out)) : w.heap.size ≤ gb789)); have n5_ := Aside0.mk ((by rw [hg]; exact (below_size (hb2_ HB.out GE776.out GE782.out)) : w.heap.size ≤ gb789)); have n6_ := Aside0.mk ((bl_ hg BK776.out : gb776 ≠ gb789)); have n7_ := Aside0.mk ((bg_ hg BK776.out : gb789 ≠ gb776)); have n8_ := Aside0.mk ((bl_ hg BK782.out : gb782 ≠ gb789)); have n9_ := Aside0.mk ((bg_ hg BK782.out : gb789 ≠ gb782)); clear BK776; clear BK782; clear HB; have BK776 := n0_; have BK782 := n1_; have HB := n2_; have BK789 := n3_; have GW789 := n4_; have GE789 := n5_; have NB776_789 := n6_; have NB789_776 := n7_; have NB782_789 := n8_; have NB789_782 := n9_; clear n0_ n1_ n2_ n3_ n4_ n5_ n6_ n7_ n8_ n9_; clear hb hbox hg; have hnb57 := NB789_776.out; have hnc57 := NB776_789.out; have hnb58 := NB789_782.out; have hnc58 := NB782_789.out; have hcz59_0 := bc_ BK789.out 0 (.int .i64 0) rfl; have hcz59_1 := bc_ BK789.out 1 (.int .i64 0) rfl; have hfz59_0 := blk_frozen BK789.out 0; have hfz59_1 := blk_frozen BK789.out 1))
                          go_ret3
                          exact ⟨er_, hb3_ HB.out GE776.out GE782.out GE789.out⟩
                      · replace c31 := Bool.eq_false_iff.mpr c31
                        subst c31
                        have H1 : (impl_SlotAt.l0 k2 (wrap64 (Int.tdiv (wrap64 (a1 - a0_0)) t779)) (Int.tmod (wrap64 (a1 - a0_0)) t780) l0_2 (l0_2.length : Int) (wrap64 (x44_2 + 1)) a0_0 a0_1 l0_2) = some (r1, r2, r3) := by rw [if_neg (show ¬ (false = true) by decide)] at H; exact H
                        clear H
                        have H := H1
                        clear H1
                        have H' := Aside0.mk H
                        clear H
                        have p781 : 0 ≤ (x44_2 : Int) := of_decide_eq_true (by first | (with_reducible assumption) | assumption)
                        have q781 : x44_2 < (l0_2.length : Int) := of_decide_eq_true (by first | (with_reducible assumption) | assumption)
                        obtain ⟨ad781, e781, hx781_0, hx781_1⟩ := at_T90 HR0_2.out x44_2 p781 q781
                        cases e781
                        replace hx781_0 := (HB.out.cell (World.block_lt_of_cell? w _ hx781_0)).trans hx781_0
                        replace hx781_1 := (HB.out.cell (World.block_lt_of_cell? w _ hx781_1)).trans hx781_1
                        replace p781 := eq_true p781
                        replace q781 := eq_true q781
                        try go_wp2_with (first | ((with_reducible refine gate_dst (N := 10) rfl ?_); refine box_event ?hg (N := 10) ?hd (cs := #[.int .i64 0, .int .i64 0]) (t := 90) ?hr ?_; (case hd => rfl); (case hg => rfl); (case hr => first | (go_simp; done) | (go_simp; rfl)); intro gb782 hg w60 hbox hb; have n0_ := Aside0.mk (bb_ BK776.out hb); have n1_ := Aside0.mk (below_step (hb1_ HB.out GE776.out) hb); have n2_ := Aside0.mk (hbox); have n3_ := Aside0.mk ((by rw [hg]; exact (below_size (hb1_ HB.out GE776.out)) : w.heap.size ≤ gb782)); have n4_ := Aside0.mk ((by rw [hg]; exact (below_size (hb1_ HB.out GE776.out)) : w.heap.size ≤ gb782)); have n5_ := Aside0.mk ((bl_ hg BK776.out : gb776 ≠ gb782)); have n6_ := Aside0.mk ((bg_ hg BK776.out : gb782 ≠ gb776)); clear BK776; clear HB; have BK776 := n0_; have HB := n1_; have BK782 := n2_; have GW782 := n3_; have GE782 := n4_; have NB776_782 := n5_; have NB782_776 := n6_; clear n0_ n1_ n2_ n3_ n4_ n5_ n6_; clear hb hbox hg; have hnb61 := NB782_776.out; have hnc61 := NB776_782.out; have hcz62_0 := bc_ BK782.out 0 (.int .i64 0) rfl; have hcz62_1 := bc_ BK782.out 1 (.int .i64 0) rfl; have hfz62_0 := blk_frozen BK782.out 0; have hfz62_1 := blk_frozen BK782.out 1))
                        have n0_ : Aside0 (((w60.setCell ⟨gb782, 0, none⟩ (.int .i64 ((rd_T90 l0_2 x44_2).f0))).setCell ⟨gb782, 1, none⟩ (.int .i64 ((rd_T90 l0_2 x44_2).f1))).heap[gb776]? = some (.cells #[.int .i64 a0_0, .int .i64 a0_1, .slice (some ad781) l0_2.length c0_2] 59 (0, 0))) := ⟨by (with_reducible repeat (first | refine blk_drewN ?_ _ | refine blk_drew ?_ | refine blk_alloc ?_ _)); refine blk_far ?_ NB776_782.out _; (with_reducible repeat (first | refine blk_drewN ?_ _ | refine blk_drew ?_ | refine blk_alloc ?_ _)); refine blk_far ?_ NB776_782.out _; (with_reducible repeat (first | refine blk_drewN ?_ _ | refine blk_drew ?_ | refine blk_alloc ?_ _)); exact BK776.out⟩
                        have n1_ : Aside0 (((w60.setCell ⟨gb782, 0, none⟩ (.int .i64 ((rd_T90 l0_2 x44_2).f0))).setCell ⟨gb782, 1, none⟩ (.int .i64 ((rd_T90 l0_2 x44_2).f1))).heap[gb782]? = some (.cells #[.int .i64 ((rd_T90 l0_2 x44_2).f0), .int .i64 ((rd_T90 l0_2 x44_2).f1)] 90 (0, 0))) := ⟨by (with_reducible repeat (first | refine blk_drewN ?_ _ | refine blk_drew ?_ | refine blk_alloc ?_ _)); refine blk_put (cs := #[.int .i64 ((rd_T90 l0_2 x44_2).f0), .int .i64 0]) ?_ 1 _ rfl; (with_reducible repeat (first | refine blk_drewN ?_ _ | refine blk_drew ?_ | refine blk_alloc ?_ _)); refine blk_put (cs := #[.int .i64 0, .int .i64 0]) ?_ 0 _ rfl; (with_reducible repeat (first | refine blk_drewN ?_ _ | refine blk_drew ?_ | refine blk_alloc ?_ _)); exact BK782.out⟩
                        have n2_ : Aside0 (Below w.heap.size w ((w60.setCell ⟨gb782, 0, none⟩ (.int .i64 ((rd_T90 l0_2 x44_2).f0))).setCell ⟨gb782, 1, none⟩ (.int .i64 ((rd_T90 l0_2 x44_2).f1)))) := ⟨hb2_ HB.out GE776.out GE782.out⟩
                        (try clear BK776)
                        (try clear BK782)
                        (try clear HB)
                        generalize ((w60.setCell ⟨gb782, 0, none⟩ (.int .i64 ((rd_T90 l0_2 x44_2).f0))).setCell ⟨gb782, 1, none⟩ (.int .i64 ((rd_T90 l0_2 x44_2).f1))) = w63 at n0_ n1_ n2_ ⊢
                        have BK776 := n0_
                        have BK782 := n1_
                        have HB := n2_
                        clear n0_ n1_ n2_
                        have n0_ := Aside0.mk (blk_drew BK776.out)
                        have n1_ := Aside0.mk (blk_drew BK782.out)
                        have n2_ := Aside0.mk (below_drew1 HB.out)
                        clear BK776
                        clear BK782
                        clear HB
                        have BK776 := n0_
                        have BK782 := n1_
                        have HB := n2_
                        clear n0_ n1_ n2_
                        refine start_ (n := 12) (S := fun w' => w'.cell? ⟨gb776, 0, none⟩ = some (.int .i64 a0_0) ∧ w'.cell? ⟨gb776, 1, none⟩ = some (.int .i64 a0_1) ∧ w'.cell? ⟨gb776, 2, none⟩ = some (.slice (some ad781) l0_2.length c0_2) ∧ w'.cell? ⟨gb782, 0, none⟩ = some (.int .i64 ((rd_T90 l0_2 x44_2).f0)) ∧ w'.cell? ⟨gb782, 1, none⟩ = some (.int .i64 ((rd_T90 l0_2 x44_2).f1))) (ds := []) #[false, false, false, false, false, false, false, false, false, false, false, false] (by kernel_rfl) rfl rfl ⟨(blk_cell BK776.out 0).trans rfl, (blk_cell BK776.out 1).trans rfl, (blk_cell BK776.out 2).trans rfl, (blk_cell BK782.out 0).trans rfl, (blk_cell BK782.out 1).trans rfl⟩ (fun hHeld => ?_); refine with_tabW impl_SlotAt.tab7 impl_SlotAt.bits7 (fun HT_ HW_ => ?_)
                        generalize w63.drew = w64 at BK776 BK782 HB hHeld ⊢
                        refine pure_ (i := 0) (N := some 49) (v := ?_) (a' := ?_) #[true, false, false, false, false, false, false, false, false, false, false, false] rfl rfl (any_of HT_.out (by kernel_rfl)) (fun _ _ _ h => h) (Or.inl ⟨by rfl, ?_⟩) ?_ ?_
                        rotate_left
                        · intro w'
                          go_simp
                          with_reducible rfl
                        rotate_left
                        · simp only [Act.put, List.setIfInBounds_toArray, List.set_cons_zero, List.set_cons_succ, i64_w, i32_w]
                          rfl
                        refine pure_ (i := 2) (N := some 51) (v := ?_) (a' := ?_) #[true, false, true, false, false, false, false, false, false, false, false, false] rfl rfl (any_of HT_.out (by kernel_rfl)) (fun _ _ _ h => h) (Or.inl ⟨by rfl, ?_⟩) ?_ ?_
                        rotate_left
                        · intro w'
                          go_simp
                          with_reducible rfl
                        rotate_left
                        · simp only [Act.put, List.setIfInBounds_toArray, List.set_cons_zero, List.set_cons_succ, i64_w, i32_w]
                          rfl
                        refine pure_ (i := 5) (N := some 54) (v := ?_) (a' := ?_) #[true, false, true, false, false, true, false, false, false, false, false, false] rfl rfl (any_of HT_.out (by kernel_rfl)) (fun _ _ _ h => h) (Or.inl ⟨by rfl, ?_⟩) ?_ ?_
                        rotate_left
                        · intro w'
                          go_simp
                          with_reducible rfl
                        rotate_left
                        · simp only [Act.put, List.setIfInBounds_toArray, List.set_cons_zero, List.set_cons_succ, i64_w, i32_w]
                          rfl
                        refine pure_ (i := 7) (N := some 56) (v := ?_) (a' := ?_) #[true, false, true, false, false, true, false, true, false, false, false, false] rfl rfl (any_of HT_.out (by kernel_rfl)) (fun _ _ _ h => h) (Or.inl ⟨by rfl, ?_⟩) ?_ ?_
                        rotate_left
                        · intro w'
                          go_simp
                          with_reducible rfl
                        rotate_left
                        · simp only [Act.put, List.setIfInBounds_toArray, List.set_cons_zero, List.set_cons_succ, i64_w, i32_w]
                          rfl
                        refine take_ (i := 1) (N := some 50) (v := ?_) (a' := ?_) #[true, true, true, false, false, true, false, true, false, false, false, false] rfl rfl (take_ofW HT_.out HW_.out (by kernel_rfl)) (fun _ _ _ h => h) (Or.inl ⟨by rfl, ?_⟩) hHeld ?_ ?_
                        rotate_left
                        · rintro w' ⟨s0, s1, s2, s3, s4⟩
                          go_simp
                          with_reducible rfl
                        rotate_left
                        · simp only [Act.put, List.setIfInBounds_toArray, List.set_cons_zero, List.set_cons_succ, i64_w, i32_w]
                          rfl
                        refine take_ (i := 4) (N := some 53) (v := ?_) (a' := ?_) #[true, true, true, false, true, true, false, true, false, false, false, false] rfl rfl (take_ofW HT_.out HW_.out (by kernel_rfl)) (fun _ _ _ h => h) (Or.inl ⟨by rfl, ?_⟩) hHeld ?_ ?_
                        rotate_left
                        · rintro w' ⟨s0, s1, s2, s3, s4⟩
                          go_simp
                          with_reducible rfl
                        rotate_left
                        · simp only [Act.put, List.setIfInBounds_toArray, List.set_cons_zero, List.set_cons_succ, i64_w, i32_w]
                          rfl
                        refine take_ (i := 8) (N := some 57) (v := ?_) (a' := ?_) #[true, true, true, false, true, true, false, true, true, false, false, false] rfl rfl (take_ofW HT_.out HW_.out (by kernel_rfl)) (fun _ _ _ h => h) (Or.inl ⟨by rfl, ?_⟩) hHeld ?_ ?_
                        rotate_left
                        · rintro w' ⟨s0, s1, s2, s3, s4⟩
                          go_simp
                          with_reducible rfl
                        rotate_left
                        · simp only [Act.put, List.setIfInBounds_toArray, List.set_cons_zero, List.set_cons_succ, i64_w, i32_w]
                          rfl
                        refine one_ (i := 3) (N := some 52) #[true, true, true, true, true, true, false, true, true, false, false, false] rfl rfl (one_of HT_.out (by kernel_rfl)) (by decide) (fun K hK => ?_)
                        refine goes_ Try.func105 (by kernel_rfl) rfl #[.agg #[.int .i64 a0_0, .int .i64 a0_1, .slice (some ad781) l0_2.length c0_2], .int .i64 x44_2] (by rfl) rfl rfl arr_ ?_
                        with_reducible refine (impl_Plan_from.calls k2 a0_0 a0_1 _ _ l0_2 x44_2 t783 _ ?side1 ?side2 A28.out).mono ?_
                        (case side1 => exact kc_ (Kd.C_below HR0_2.out HB.out))
                        (case side2 => exact HC0_2.out)
                        rintro e w65 ⟨rfl, hb⟩
                        refine ⟨_, rfl, ?_⟩
                        have n0_ := Aside0.mk (bb_ BK776.out hb)
                        have n1_ := Aside0.mk (bb_ BK782.out hb)
                        have n2_ := Aside0.mk (below_step (hb2_ HB.out GE776.out GE782.out) hb)
                        clear BK776
                        clear BK782
                        clear HB
                        have BK776 := n0_
                        have BK782 := n1_
                        have HB := n2_
                        clear n0_ n1_ n2_
                        (try clear hb)
                        (try clear hb2)
                        (try clear hk)
                        (try clear hi)
                        refine hK.out _ _ ⟨(blk_cell BK776.out 0).trans rfl, (blk_cell BK776.out 1).trans rfl, (blk_cell BK776.out 2).trans rfl, (blk_cell BK782.out 0).trans rfl, (blk_cell BK782.out 1).trans rfl⟩ (fun hHeld => ?_)
                        clear hK K
                        refine norm_ (a' := ?_) ?_ ?_
                        rotate_left
                        · show Act.put _ (some 52) _ = _
                          simp only [Act.put, List.setIfInBounds_toArray, List.set_cons_zero, List.set_cons_succ, i64_w, i32_w]
                          rfl
                        refine one_ (i := 6) (N := some 55) #[true, true, true, true, true, true, true, true, true, false, false, false] rfl rfl (one_of HT_.out (by kernel_rfl)) (by decide) (fun K hK => ?_)
                        refine goes_ Try.func105 (by kernel_rfl) rfl #[.agg #[.int .i64 a0_0, .int .i64 a0_1, .slice (some ad781) l0_2.length c0_2], .int .i64 x44_2] (by rfl) rfl rfl arr_ ?_
                        with_reducible refine (impl_Plan_from.calls k2 a0_0 a0_1 _ _ l0_2 x44_2 t784 _ ?side1 ?side2 A29.out).mono ?_
                        (case side1 => exact kc_ (Kd.C_below HR0_2.out HB.out))
                        (case side2 => exact HC0_2.out)
                        rintro e w66 ⟨rfl, hb⟩
                        refine ⟨_, rfl, ?_⟩
                        have n0_ := Aside0.mk (bb_ BK776.out hb)
                        have n1_ := Aside0.mk (bb_ BK782.out hb)
                        have n2_ := Aside0.mk (below_step (hb2_ HB.out GE776.out GE782.out) hb)
                        clear BK776
                        clear BK782
                        clear HB
                        have BK776 := n0_
                        have BK782 := n1_
                        have HB := n2_
                        clear n0_ n1_ n2_
                        (try clear hb)
                        (try clear hb2)
                        (try clear hk)
                        (try clear hi)
                        refine hK.out _ _ ⟨(blk_cell BK776.out 0).trans rfl, (blk_cell BK776.out 1).trans rfl, (blk_cell BK776.out 2).trans rfl, (blk_cell BK782.out 0).trans rfl, (blk_cell BK782.out 1).trans rfl⟩ (fun hHeld => ?_)
                        clear hK K
                        refine norm_ (a' := ?_) ?_ ?_
                        rotate_left
                        · show Act.put _ (some 55) _ = _
                          simp only [Act.put, List.setIfInBounds_toArray, List.set_cons_zero, List.set_cons_succ, i64_w, i32_w]
                          rfl
                        refine pure_ (i := 9) (N := some 58) (v := ?_) (a' := ?_) #[true, true, true, true, true, true, true, true, true, true, false, false] rfl rfl (any_of HT_.out (by kernel_rfl)) (fun _ _ _ h => h) (Or.inl ⟨by rfl, ?_⟩) ?_ ?_
                        rotate_left
                        · intro w'
                          go_simp
                          with_reducible rfl
                        rotate_left
                        · simp only [Act.put, List.setIfInBounds_toArray, List.set_cons_zero, List.set_cons_succ, i64_w, i32_w]
                          rfl
                        refine pure_ (i := 10) (N := some 59) (v := ?_) (a' := ?_) #[true, true, true, true, true, true, true, true, true, true, true, false] rfl rfl (any_of HT_.out (by kernel_rfl)) (fun _ _ _ h => h) (Or.inl ⟨by rfl, ?_⟩) ?_ ?_
                        rotate_left
                        · intro w'
                          go_simp
                          with_reducible rfl
                        rotate_left
                        · simp only [Act.put, List.setIfInBounds_toArray, List.set_cons_zero, List.set_cons_succ, i64_w, i32_w]
                          rfl
                        refine one_ (i := 11) (N := some 60) #[true, true, true, true, true, true, true, true, true, true, true, true] rfl rfl (one_of HT_.out (by kernel_rfl)) (by decide) (fun K hK => ?_)
                        refine goes_ Try.func85 (by kernel_rfl) rfl #[.int .i64 (Int.tmod (wrap64 (a1 - a0_0)) t780), .int .i64 t783, .int .i64 (wrap64 ((wrap64 (t784 + ((rd_T90 l0_2 x44_2).f1))) - 1))] (by rfl) rfl rfl arr_ ?_
                        with_reducible refine (impl_in.calls (Int.tmod (wrap64 (a1 - a0_0)) t780) t783 (wrap64 ((wrap64 (t784 + ((rd_T90 l0_2 x44_2).f1))) - 1)) false _ A30.out).mono ?_
                        rintro e w' ⟨rfl, ⟨nd, rfl⟩⟩
                        refine ⟨_, rfl, ?_⟩
                        refine hK.out _ _ ⟨(blk_cell BK776.out 0).trans rfl, (blk_cell BK776.out 1).trans rfl, (blk_cell BK776.out 2).trans rfl, (blk_cell BK782.out 0).trans rfl, (blk_cell BK782.out 1).trans rfl⟩ (fun hHeld => ?_)
                        clear hK K
                        refine norm_ (a' := ?_) ?_ ?_
                        rotate_left
                        · show Act.put _ (some 60) _ = _
                          simp only [Act.put, List.setIfInBounds_toArray, List.set_cons_zero, List.set_cons_succ, i64_w, i32_w]
                          rfl
                        refine done_ (done_of HT_.out (by kernel_rfl)) ?_
                        try go_wp2
                        go_roundg k2
                        case measure => have := HJ2.out; have := HK2.out; omega
                        case rel => exact ⟨(wrap64 (x44_2 + 1)), (by first | rfl | (simp; done) | (simp [*]; done)), H', ⟨by have := HJ2.out; have := HK2.out; omega⟩, ⟨bk_ BK776.out⟩, ⟨hb2_ HB.out GE776.out GE782.out⟩⟩
                    · rw [if_neg c27] at H
                      exact absurd H (by simp)
                  · rw [if_neg c26] at H
                    exact absurd H (by simp)
                · rw [if_neg c25] at H
                  have c25b0 : decide (x44_2 < (l0_2.length : Int)) = false := decide_eq_false c25
                  clear c25
                  simp only [Option.some.injEq, Prod.mk.injEq] at H
                  obtain ⟨rfl, rfl, rfl⟩ := H
                  go_wp2
                  go_ret3
                  exact ⟨er_, hb1_ HB.out GE776.out⟩
end Go.Proofs.Ytjlmfnpgcmmdnaa.P

namespace Go.Proofs.Ytjlmfnpgcmmdnaa.P
open Go.RowKit Go.Proofs.YtjlmfnpgcmmdnaaW.PrintWords Go.Proofs.YtjlmfnpgcmmdnaaW.PrintLast Go.Proofs.YtjlmfnpgcmmdnaaW.PrintMore
attribute [local go_sem] max2_int min2_int max_two min_two max_three min_three max_four min_four
set_option linter.unusedVariables false
set_option linter.unusedSimpArgs false
def impl_InSlot.j0 : Nat → Int → Int → Int → Bool → Int → Int → List (S90) → Option (Int × Int × Bool)
  | 0, _, _, _, _, _, _, _ => none
  | k + 1, x3, x11, x12, x39, x791000, x791001, x791002 => if x39 = true then (some (0, 0, false)) else ((impl_Occurrence.f k x791000 x791001 x791002 x11 x12).bind fun bt795 => (if x3 > bt795.2.1 then (some (0, 0, false)) else (some (x11, x12, true))))
def impl_InSlot.f (k : Nat) (a0_0 : Int) (a0_1 : Int) (l0_2 : List (S90)) (a1 : Int) (a2 : Int) (a3 : Int) : Option (Int × Int × Bool) := (impl_SlotAt.f k a0_0 a0_1 l0_2 a2).bind fun bt791 => (if bt791.2.2 = true then (if 0 ≤ bt791.1 then (if bt791.1 < (l0_2.length : Int) then (if ((rd_T90 l0_2 bt791.1).f0) = a1 then (impl_InSlot.j0 k a3 bt791.1 bt791.2.1 (decide (a2 > a3)) a0_0 a0_1 l0_2) else (impl_InSlot.j0 k a3 bt791.1 bt791.2.1 true a0_0 a0_1 l0_2)) else (none)) else (none)) else (impl_InSlot.j0 k a3 bt791.1 bt791.2.1 true a0_0 a0_1 l0_2))
set_option maxHeartbeats 8000000 in
set_option maxRecDepth 100000 in
theorem impl_InSlot.calls (k : Nat) (a0_0 : Int) (a0_1 : Int) (A0_2 : Option Addr) (c0_2 : Nat) (l0_2 : List (S90)) (a1 : Int) (a2 : Int) (a3 : Int) (r1 : Int) (r2 : Int) (r3 : Bool) (w : World) (hr0_2 : Kd.C k90 w A0_2 l0_2.length l0_2) (hc0_2 : l0_2.length ≤ c0_2) (h : impl_InSlot.f k a0_0 a0_1 l0_2 a1 a2 a3 = some (r1, r2, r3)) :
    Calls Try.prog 73 #[.agg #[.int .i64 a0_0, .int .i64 a0_1, .slice A0_2 l0_2.length c0_2], .int .i64 a1, .int .i64 a2, .int .i64 a3] w fun e w' => e = .returned (.tuple #[.int .i64 r1, .int .i64 r2, .bool r3]) ∧ Below w.heap.size w w' := by
  have hu59 := Try.underlying59
  have hu43 := Try.underlying43
  have HR0_2 := Aside0.mk hr0_2
  have HC0_2 := Aside0.mk hc0_2
  clear hr0_2 hc0_2
  have HB := Aside0.mk (Below.refl w.heap.size w)
  have H : ((impl_SlotAt.f k a0_0 a0_1 l0_2 a2).bind fun bt791 => (if bt791.2.2 = true then (if 0 ≤ bt791.1 then (if bt791.1 < (l0_2.length : Int) then (if ((rd_T90 l0_2 bt791.1).f0) = a1 then (impl_InSlot.j0 k a3 bt791.1 bt791.2.1 (decide (a2 > a3)) a0_0 a0_1 l0_2) else (impl_InSlot.j0 k a3 bt791.1 bt791.2.1 true a0_0 a0_1 l0_2)) else (none)) else (none)) else (impl_InSlot.j0 k a3 bt791.1 bt791.2.1 true a0_0 a0_1 l0_2))) = some (r1, r2, r3) := h
  clear h
  replace H := Option.bind_eq_some_iff.mp H
  obtain ⟨⟨t791, t792, t793⟩, A50, H⟩ := H
  replace H : (if t793 = true then (if 0 ≤ t791 then (if t791 < (l0_2.length : Int) then (if ((rd_T90 l0_2 t791).f0) = a1 then (impl_InSlot.j0 k a3 t791 t792 (decide (a2 > a3)) a0_0 a0_1 l0_2) else (impl_InSlot.j0 k a3 t791 t792 true a0_0 a0_1 l0_2)) else (none)) else (none)) else (impl_InSlot.j0 k a3 t791 t792 true a0_0 a0_1 l0_2)) = some (r1, r2, r3) := H
  have A5 := Aside0.mk A50
  clear A50
  have HC6 := Aside0.mk H
  clear H
  go_enter Try.func73, Try.ntmps73
  go_upto_region 2 with (first | ((with_reducible refine gate_dst (N := 4) rfl ?_); refine box_event ?hg (N := 4) ?hd (cs := #[.int .i64 a0_0, .int .i64 a0_1, .slice A0_2 l0_2.length c0_2]) (t := 59) ?hr ?_; (case hd => rfl); (case hg => rfl); (case hr => first | (go_simp; done) | (go_simp; rfl)); intro gb790 hg w7 hbox hb; have n0_ := Aside0.mk (below_step (hb_ HB.out) hb); have n1_ := Aside0.mk (hbox); have n2_ := Aside0.mk ((by rw [hg]; exact (below_size (hb_ HB.out)) : w.heap.size ≤ gb790)); have n3_ := Aside0.mk ((by rw [hg]; exact (below_size (hb_ HB.out)) : w.heap.size ≤ gb790)); clear HB; have HB := n0_; have BK790 := n1_; have GW790 := n2_; have GE790 := n3_; clear n0_ n1_ n2_ n3_; clear hb hbox hg; have hcz8_0 := bc_ BK790.out 0 (.int .i64 a0_0) rfl; have hcz8_1 := bc_ BK790.out 1 (.int .i64 a0_1) rfl; have hcz8_2 := bc_ BK790.out 2 (.slice A0_2 l0_2.length c0_2) rfl; have hfz8_0 := blk_frozen BK790.out 0; have hfz8_1 := blk_frozen BK790.out 1; have hfz8_2 := blk_frozen BK790.out 2) | ((with_reducible refine gate_callee (f := 95) rfl ?_); refine goesL_ (some 19) rfl rfl Try.func95 (by kernel_rfl) rfl #[.agg #[.int .i64 a0_0, .int .i64 a0_1, .slice A0_2 l0_2.length c0_2], .int .i64 a2] rfl arr_ ?_; (with_reducible refine (impl_SlotAt.calls k a0_0 a0_1 _ _ l0_2 a2 t791 t792 t793 _ ?side1 ?side2 A5.out).mono ?_); (case side1 => exact kc_ (Kd.C_below HR0_2.out HB.out)); (case side2 => exact HC0_2.out); rintro e w9 ⟨rfl, hb⟩; refine ⟨_, rfl, ?_⟩; have n0_ := Aside0.mk (bb_ BK790.out hb); have n1_ := Aside0.mk (below_step (hb1_ HB.out GE790.out) hb); clear BK790; clear HB; have BK790 := n0_; have HB := n1_; clear n0_ n1_; (try clear hb); (try clear hb2); (try clear hk); (try clear hi)))
  (try simp only [Act.put, List.setIfInBounds_toArray, List.set_cons_zero, List.set_cons_succ])
  go_cut [39] (fun v39 wc => ∃ (kq : Nat) (x39_5 : Bool), v39 = .bool x39_5 ∧ Aside0 (impl_InSlot.j0 kq a3 t791 t792 x39_5 a0_0 a0_1 l0_2 = some (r1, r2, r3)) ∧ Aside0 (kq ≤ k) ∧ Aside0 (wc.heap[gb790]? = some (.cells #[.int .i64 a0_0, .int .i64 a0_1, (.slice A0_2 l0_2.length c0_2)] 59 (0, 0))) ∧ Aside0 (Below w.heap.size w wc))
  case first =>
    have H := HC6.out
    clear HC6
    by_cases c10 : t793 = true
    · subst c10
      have H1 : (if 0 ≤ t791 then (if t791 < (l0_2.length : Int) then (if ((rd_T90 l0_2 t791).f0) = a1 then (impl_InSlot.j0 k a3 t791 t792 (decide (a2 > a3)) a0_0 a0_1 l0_2) else (impl_InSlot.j0 k a3 t791 t792 true a0_0 a0_1 l0_2)) else (none)) else (none)) = some (r1, r2, r3) := by rw [if_pos rfl] at H; exact H
      clear H
      have H := H1
      clear H1
      by_cases c11 : 0 ≤ t791
      · rw [if_pos c11] at H
        have c11b0 : decide (0 ≤ t791) = true := decide_eq_true c11
        clear c11
        (first | rw [c11b0] | (simp only [i64_w, i32_w]; rw [c11b0]) | skip)
        by_cases c12 : t791 < (l0_2.length : Int)
        · rw [if_pos c12] at H
          have c12b0 : decide (t791 < (l0_2.length : Int)) = true := decide_eq_true c12
          clear c12
          by_cases c13 : ((rd_T90 l0_2 t791).f0) = a1
          · rw [if_pos c13] at H
            have c13b0 : (((rd_T90 l0_2 t791).f0) == a1) = true := beq_iff_eq.mpr c13
            have c13b1 : (((rd_T90 l0_2 t791).f0) != a1) = false := bne_eq_false_iff_eq.mpr c13
            clear c13
            have H' := Aside0.mk H
            clear H
            have hcz14_0 := bc_ BK790.out 0 (.int .i64 a0_0) rfl
            have hcz14_1 := bc_ BK790.out 1 (.int .i64 a0_1) rfl
            have hcz14_2 := bc_ BK790.out 2 (.slice A0_2 l0_2.length c0_2) rfl
            have hfz14_0 := blk_frozen BK790.out 0
            have hfz14_1 := blk_frozen BK790.out 1
            have hfz14_2 := blk_frozen BK790.out 2
            have p794 : 0 ≤ (t791 : Int) := of_decide_eq_true (by first | (with_reducible assumption) | assumption)
            have q794 : t791 < (l0_2.length : Int) := of_decide_eq_true (by first | (with_reducible assumption) | assumption)
            obtain ⟨ad794, e794, hx794_0, hx794_1⟩ := at_T90 HR0_2.out t791 p794 q794
            cases e794
            replace hx794_0 := (HB.out.cell (World.block_lt_of_cell? w _ hx794_0)).trans hx794_0
            replace hx794_1 := (HB.out.cell (World.block_lt_of_cell? w _ hx794_1)).trans hx794_1
            replace p794 := eq_true p794
            replace q794 := eq_true q794
            go_wp2
            go_meet
            case rel => exact ⟨_, (decide (a2 > a3)), (by first | rfl | (simp; done) | (simp [*]; done)), H', ⟨by first | omega | exact Nat.le_refl _⟩, ⟨bk_ BK790.out⟩, ⟨hb1_ HB.out GE790.out⟩⟩
          · rw [if_neg c13] at H
            have c13b0 : (((rd_T90 l0_2 t791).f0) == a1) = false := beq_eq_false_iff_ne.mpr c13
            have c13b1 : (((rd_T90 l0_2 t791).f0) != a1) = true := bne_iff_ne.mpr c13
            have H' := Aside0.mk H
            clear H
            have hcz15_0 := bc_ BK790.out 0 (.int .i64 a0_0) rfl
            have hcz15_1 := bc_ BK790.out 1 (.int .i64 a0_1) rfl
            have hcz15_2 := bc_ BK790.out 2 (.slice A0_2 l0_2.length c0_2) rfl
            have hfz15_0 := blk_frozen BK790.out 0
            have hfz15_1 := blk_frozen BK790.out 1
            have hfz15_2 := blk_frozen BK790.out 2
            have p794 : 0 ≤ (t791 : Int) := of_decide_eq_true (by first | (with_reducible assumption) | assumption)
            have q794 : t791 < (l0_2.length : Int) := of_decide_eq_true (by first | (with_reducible assumption) | assumption)
            obtain ⟨ad794, e794, hx794_0, hx794_1⟩ := at_T90 HR0_2.out t791 p794 q794
            cases e794
            replace hx794_0 := (HB.out.cell (World.block_lt_of_cell? w _ hx794_0)).trans hx794_0
            replace hx794_1 := (HB.out.cell (World.block_lt_of_cell? w _ hx794_1)).trans hx794_1
            replace p794 := eq_true p794
            replace q794 := eq_true q794
            go_wp2
            go_meet
            case rel => exact ⟨_, (true), (by first | rfl | (simp; done) | (simp [*]; done)), H', ⟨by first | omega | exact Nat.le_refl _⟩, ⟨bk_ BK790.out⟩, ⟨hb1_ HB.out GE790.out⟩⟩
        · rw [if_neg c12] at H
          exact absurd H (by simp)
      · rw [if_neg c11] at H
        exact absurd H (by simp)
    · replace c10 := Bool.eq_false_iff.mpr c10
      subst c10
      have H1 : (impl_InSlot.j0 k a3 t791 t792 true a0_0 a0_1 l0_2) = some (r1, r2, r3) := by rw [if_neg (show ¬ (false = true) by decide)] at H; exact H
      clear H
      have H := H1
      clear H1
      have H' := Aside0.mk H
      clear H
      go_wp2
      go_meet
      case rel => exact ⟨_, (true), (by first | rfl | (simp; done) | (simp [*]; done)), H', ⟨by first | omega | exact Nat.le_refl _⟩, ⟨bk_ BK790.out⟩, ⟨hb1_ HB.out GE790.out⟩⟩
  case rest =>
    clear HC6
    try clear c1
    try clear p2
    try clear c7
    try clear p7
    try clear q7
    try clear hx7
    try clear c9
    try clear c10
    try clear c11
    try clear c11b0
    try clear c12
    try clear c12b0
    try clear c13
    try clear c13b0
    try clear c13b1
    try clear hcz14_0
    try clear hcz14_1
    try clear hcz14_2
    try clear hcz15_0
    try clear hcz15_1
    try clear hcz15_2
    try clear hcz8_0
    try clear hcz8_1
    try clear hcz8_2
    try clear hfz14_0
    try clear hfz14_1
    try clear hfz14_2
    try clear hfz15_0
    try clear hfz15_1
    try clear hfz15_2
    try clear hfz8_0
    try clear hfz8_1
    try clear hfz8_2
    try clear hx794_0
    try clear hx794_1
    try clear p794
    try clear q794
    obtain ⟨kq, x39_5, rfl, HA, HJ5, BK790, HB⟩ := hcut
    cases kq with
    | zero => exact absurd HA.out (by simp [impl_InSlot.j0])
    | succ kj5 =>
      have H := HA.out
      clear HA
      simp only [impl_InSlot.j0] at H
      by_cases c16 : x39_5 = true
      · subst c16
        have H1 : (some (0, 0, false)) = some (r1, r2, r3) := by rw [if_pos rfl] at H; exact H
        clear H
        have H := H1
        clear H1
        simp only [Option.some.injEq, Prod.mk.injEq] at H
        obtain ⟨rfl, rfl, rfl⟩ := H
        go_wp2
        go_ret3
        exact ⟨er_, hb1_ HB.out GE790.out⟩
      · replace c16 := Bool.eq_false_iff.mpr c16
        subst c16
        have H1 : ((impl_Occurrence.f kj5 a0_0 a0_1 l0_2 t791 t792).bind fun bt795 => (if a3 > bt795.2.1 then (some (0, 0, false)) else (some (t791, t792, true)))) = some (r1, r2, r3) := by rw [if_neg (show ¬ (false = true) by decide)] at H; exact H
        clear H
        have H := H1
        clear H1
        replace H := Option.bind_eq_some_iff.mp H
        obtain ⟨⟨t795, t796, t797⟩, A170, H⟩ := H
        replace H : (if a3 > t796 then (some (0, 0, false)) else (some (t791, t792, true))) = some (r1, r2, r3) := H
        have A17 := Aside0.mk A170
        clear A170
        by_cases c18 : a3 > t796
        · rw [if_pos c18] at H
          have c18b0 : decide (t796 < a3) = true := decide_eq_true c18
          clear c18
          simp only [Option.some.injEq, Prod.mk.injEq] at H
          obtain ⟨rfl, rfl, rfl⟩ := H
          have hcz19_0 := bc_ BK790.out 0 (.int .i64 a0_0) rfl
          have hcz19_1 := bc_ BK790.out 1 (.int .i64 a0_1) rfl
          have hcz19_2 := bc_ BK790.out 2 (.slice A0_2 l0_2.length c0_2) rfl
          have hfz19_0 := blk_frozen BK790.out 0
          have hfz19_1 := blk_frozen BK790.out 1
          have hfz19_2 := blk_frozen BK790.out 2
          go_wp2_with (first | ((with_reducible refine gate_callee (f := 96) rfl ?_); refine goesL_ (some 44) rfl rfl Try.func96 (by kernel_rfl) rfl #[.agg #[.int .i64 a0_0, .int .i64 a0_1, .slice A0_2 l0_2.length c0_2], .int .i64 t791, .int .i64 t792] rfl arr_ ?_; (with_reducible refine (impl_Occurrence.calls kj5 a0_0 a0_1 _ _ l0_2 t791 t792 t795 t796 t797 _ ?side1 ?side2 A17.out).mono ?_); (case side1 => exact kc_ (Kd.C_below HR0_2.out HB.out)); (case side2 => exact HC0_2.out); rintro e w20 ⟨rfl, hb⟩; refine ⟨_, rfl, ?_⟩; have n0_ := Aside0.mk (bb_ BK790.out hb); have n1_ := Aside0.mk (below_step (hb1_ HB.out GE790.out) hb); clear BK790; clear HB; have BK790 := n0_; have HB := n1_; clear n0_ n1_; (try clear hb); (try clear hb2); (try clear hk); (try clear hi)) | ((with_reducible refine gate_dst (N := 14) rfl ?_); refine box_event ?hg (N := 14) ?hd (cs := #[.int .i64 0, .int .i64 0]) (t := 43) ?hr ?_; (case hd => rfl); (case hg => rfl); (case hr => first | (go_simp; done) | (go_simp; rfl)); intro gb798 hg w21 hbox hb; have n0_ := Aside0.mk (bb_ BK790.out hb); have n1_ := Aside0.mk (below_step (hb1_ HB.out GE790.out) hb); have n2_ := Aside0.mk (hbox); have n3_ := Aside0.mk ((by rw [hg]; exact (below_size (hb1_ HB.out GE790.out)) : w.heap.size ≤ gb798)); have n4_ := Aside0.mk ((by rw [hg]; exact (below_size (hb1_ HB.out GE790.out)) : w.heap.size ≤ gb798)); have n5_ := Aside0.mk ((bl_ hg BK790.out : gb790 ≠ gb798)); have n6_ := Aside0.mk ((bg_ hg BK790.out : gb798 ≠ gb790)); clear BK790; clear HB; have BK790 := n0_; have HB := n1_; have BK798 := n2_; have GW798 := n3_; have GE798 := n4_; have NB790_798 := n5_; have NB798_790 := n6_; clear n0_ n1_ n2_ n3_ n4_ n5_ n6_; clear hb hbox hg; have hnb22 := NB798_790.out; have hnc22 := NB790_798.out; have hcz23_0 := bc_ BK798.out 0 (.int .i64 0) rfl; have hcz23_1 := bc_ BK798.out 1 (.int .i64 0) rfl; have hfz23_0 := blk_frozen BK798.out 0; have hfz23_1 := blk_frozen BK798.out 1))
          go_ret3
          exact ⟨er_, hb2_ HB.out GE790.out GE798.out⟩
        · rw [if_neg c18] at H
          have c18b0 : decide (t796 < a3) = false := decide_eq_false c18
          clear c18
          simp only [Option.some.injEq, Prod.mk.injEq] at H
          obtain ⟨rfl, rfl, rfl⟩ := H
          have hcz24_0 := bc_ BK790.out 0 (.int .i64 a0_0) rfl
          have hcz24_1 := bc_ BK790.out 1 (.int .i64 a0_1) rfl
          have hcz24_2 := bc_ BK790.out 2 (.slice A0_2 l0_2.length c0_2) rfl
          have hfz24_0 := blk_frozen BK790.out 0
          have hfz24_1 := blk_frozen BK790.out 1
          have hfz24_2 := blk_frozen BK790.out 2
          go_wp2_with (first | ((with_reducible refine gate_callee (f := 96) rfl ?_); refine goesL_ (some 44) rfl rfl Try.func96 (by kernel_rfl) rfl #[.agg #[.int .i64 a0_0, .int .i64 a0_1, .slice A0_2 l0_2.length c0_2], .int .i64 t791, .int .i64 t792] rfl arr_ ?_; (with_reducible refine (impl_Occurrence.calls kj5 a0_0 a0_1 _ _ l0_2 t791 t792 t795 t796 t797 _ ?side1 ?side2 A17.out).mono ?_); (case side1 => exact kc_ (Kd.C_below HR0_2.out HB.out)); (case side2 => exact HC0_2.out); rintro e w25 ⟨rfl, hb⟩; refine ⟨_, rfl, ?_⟩; have n0_ := Aside0.mk (bb_ BK790.out hb); have n1_ := Aside0.mk (below_step (hb1_ HB.out GE790.out) hb); clear BK790; clear HB; have BK790 := n0_; have HB := n1_; clear n0_ n1_; (try clear hb); (try clear hb2); (try clear hk); (try clear hi)) | ((with_reducible refine gate_dst (N := 14) rfl ?_); refine box_event ?hg (N := 14) ?hd (cs := #[.int .i64 0, .int .i64 0]) (t := 43) ?hr ?_; (case hd => rfl); (case hg => rfl); (case hr => first | (go_simp; done) | (go_simp; rfl)); intro gb798 hg w26 hbox hb; have n0_ := Aside0.mk (bb_ BK790.out hb); have n1_ := Aside0.mk (below_step (hb1_ HB.out GE790.out) hb); have n2_ := Aside0.mk (hbox); have n3_ := Aside0.mk ((by rw [hg]; exact (below_size (hb1_ HB.out GE790.out)) : w.heap.size ≤ gb798)); have n4_ := Aside0.mk ((by rw [hg]; exact (below_size (hb1_ HB.out GE790.out)) : w.heap.size ≤ gb798)); have n5_ := Aside0.mk ((bl_ hg BK790.out : gb790 ≠ gb798)); have n6_ := Aside0.mk ((bg_ hg BK790.out : gb798 ≠ gb790)); clear BK790; clear HB; have BK790 := n0_; have HB := n1_; have BK798 := n2_; have GW798 := n3_; have GE798 := n4_; have NB790_798 := n5_; have NB798_790 := n6_; clear n0_ n1_ n2_ n3_ n4_ n5_ n6_; clear hb hbox hg; have hnb27 := NB798_790.out; have hnc27 := NB790_798.out; have hcz28_0 := bc_ BK798.out 0 (.int .i64 0) rfl; have hcz28_1 := bc_ BK798.out 1 (.int .i64 0) rfl; have hfz28_0 := blk_frozen BK798.out 0; have hfz28_1 := blk_frozen BK798.out 1))
          go_ret3
          exact ⟨er_, hb2_ HB.out GE790.out GE798.out⟩
def impl_BusStray_1.f (k : Nat) (st gap : Int) (p : List (S90)) (x : S33) : Option Bool := (impl_InSlot.f k st gap p x.f0 x.f3 x.f4).bind fun t => if t.2.2 = true then (if t.1 = x.f1 then (if t.2.1 = x.f2 then some false else some true) else some true) else some true
set_option maxHeartbeats 8000000 in
set_option maxRecDepth 100000 in
theorem impl_BusStray_1.calls (k : Nat) (gp : Nat) (st gap : Int) (A1 : Option Addr) (c1 : Nat) (p : List (S90)) (x : S33) (b : Bool) (w : World) (hp : w.heap[gp]? = some (.cells #[.int .i64 st, .int .i64 gap, .slice A1 p.length c1] 59 (0, 0))) (hr1 : Kd.C k90 w A1 p.length p) (hc1 : p.length ≤ c1) (h : impl_BusStray_1.f k st gap p x = some b) :
    Calls Try.prog 72 (#[.agg #[.int .i64 x.f0, .int .i64 x.f1, .int .i64 x.f2, .int .i64 x.f3, .int .i64 x.f4, .string x.f5]] ++ #[.pointer (some ⟨gp, 0, none⟩)]) w fun e w' => e = .returned (.bool b) ∧ Below w.heap.size w w' := by
  have hu0 := Try.underlying33
  have hu1 := Try.underlying59
  have HB := Aside0.mk (Below.refl w.heap.size w)
  have HR1 := Aside0.mk hr1
  have HC1 := Aside0.mk hc1
  clear hr1 hc1
  have Bgp := Aside0.mk hp
  have hcgp0_w : w.cell? ⟨gp, 0, none⟩ = some (.int .i64 st) := (blk_cell Bgp.out 0).trans rfl
  have hzgp0_w := blk_frozen Bgp.out 0
  have hcgp1_w : w.cell? ⟨gp, 1, none⟩ = some (.int .i64 gap) := (blk_cell Bgp.out 1).trans rfl
  have hzgp1_w := blk_frozen Bgp.out 1
  have hcgp2_w : w.cell? ⟨gp, 2, none⟩ = some (.slice A1 p.length c1) := (blk_cell Bgp.out 2).trans rfl
  have hzgp2_w := blk_frozen Bgp.out 2
  clear hp
  unfold impl_BusStray_1.f at h
  obtain ⟨⟨t1, t2, t3⟩, A1', H⟩ := Option.bind_eq_some_iff.mp h
  clear h
  simp only at H
  have A2 := Aside0.mk A1'
  clear A1'
  cases t3 with
  | false =>
    rw [if_neg (by decide)] at H
    obtain rfl := Option.some.inj H
    clear H
    go_enter Try.func72, Try.ntmps72
    go_wp2_with (first | ((with_reducible refine gate_dst (N := 2) rfl ?_); refine box_event ?hg (N := 2) ?hd (cs := #[.int .i64 x.f0, .int .i64 x.f1, .int .i64 x.f2, .int .i64 x.f3, .int .i64 x.f4, .string x.f5]) (t := 33) ?hr ?_; (case hd => rfl); (case hg => rfl); (case hr => first | (go_simp; done) | (go_simp; rfl)); intro ga hg w1 hbox hb; have oBgp := Aside0.mk (blk_below (bk_ Bgp.out) hb); have n0_ := Aside0.mk (below_step (hb_ HB.out) hb); clear HB; have HB := n0_; clear n0_; clear Bgp; have Bgp := oBgp; clear oBgp; have Bga := Aside0.mk (hbox); clear hb hbox hg; have hcgp0_w1 : w1.cell? ⟨gp, 0, none⟩ = some (.int .i64 st) := (blk_cell Bgp.out 0).trans rfl; have hzgp0_w1 := blk_frozen Bgp.out 0; have hcgp1_w1 : w1.cell? ⟨gp, 1, none⟩ = some (.int .i64 gap) := (blk_cell Bgp.out 1).trans rfl; have hzgp1_w1 := blk_frozen Bgp.out 1; have hcgp2_w1 : w1.cell? ⟨gp, 2, none⟩ = some (.slice A1 p.length c1) := (blk_cell Bgp.out 2).trans rfl; have hzgp2_w1 := blk_frozen Bgp.out 2; have hcga0_w1 : w1.cell? ⟨ga, 0, none⟩ = some (.int .i64 x.f0) := (blk_cell Bga.out 0).trans rfl; have hzga0_w1 := blk_frozen Bga.out 0; have hcga1_w1 : w1.cell? ⟨ga, 1, none⟩ = some (.int .i64 x.f1) := (blk_cell Bga.out 1).trans rfl; have hzga1_w1 := blk_frozen Bga.out 1; have hcga2_w1 : w1.cell? ⟨ga, 2, none⟩ = some (.int .i64 x.f2) := (blk_cell Bga.out 2).trans rfl; have hzga2_w1 := blk_frozen Bga.out 2; have hcga3_w1 : w1.cell? ⟨ga, 3, none⟩ = some (.int .i64 x.f3) := (blk_cell Bga.out 3).trans rfl; have hzga3_w1 := blk_frozen Bga.out 3; have hcga4_w1 : w1.cell? ⟨ga, 4, none⟩ = some (.int .i64 x.f4) := (blk_cell Bga.out 4).trans rfl; have hzga4_w1 := blk_frozen Bga.out 4; have hcga5_w1 : w1.cell? ⟨ga, 5, none⟩ = some (.string x.f5) := (blk_cell Bga.out 5).trans rfl; have hzga5_w1 := blk_frozen Bga.out 5) | (go_at_call 73; (with_reducible refine (impl_InSlot.calls k st gap A1 c1 p x.f0 x.f3 x.f4 t1 t2 false _ ?s1 ?s2 A2.out).mono ?_); (case s1 => exact Kd.C_below HR1.out (hb_ HB.out)); (case s2 => exact HC1.out); rintro e w2 ⟨rfl, hb⟩; have oBgp := Aside0.mk (blk_below (bk_ Bgp.out) hb); have oBga := Aside0.mk (blk_below (bk_ Bga.out) hb); have n0_ := Aside0.mk (below_step (hb_ HB.out) hb); clear HB; have HB := n0_; clear n0_; clear Bgp; have Bgp := oBgp; clear oBgp; clear Bga; have Bga := oBga; clear oBga; (try clear hb); have hcgp0_w2 : w2.cell? ⟨gp, 0, none⟩ = some (.int .i64 st) := (blk_cell Bgp.out 0).trans rfl; have hzgp0_w2 := blk_frozen Bgp.out 0; have hcgp1_w2 : w2.cell? ⟨gp, 1, none⟩ = some (.int .i64 gap) := (blk_cell Bgp.out 1).trans rfl; have hzgp1_w2 := blk_frozen Bgp.out 1; have hcgp2_w2 : w2.cell? ⟨gp, 2, none⟩ = some (.slice A1 p.length c1) := (blk_cell Bgp.out 2).trans rfl; have hzgp2_w2 := blk_frozen Bgp.out 2; have hcga0_w2 : w2.cell? ⟨ga, 0, none⟩ = some (.int .i64 x.f0) := (blk_cell Bga.out 0).trans rfl; have hzga0_w2 := blk_frozen Bga.out 0; have hcga1_w2 : w2.cell? ⟨ga, 1, none⟩ = some (.int .i64 x.f1) := (blk_cell Bga.out 1).trans rfl; have hzga1_w2 := blk_frozen Bga.out 1; have hcga2_w2 : w2.cell? ⟨ga, 2, none⟩ = some (.int .i64 x.f2) := (blk_cell Bga.out 2).trans rfl; have hzga2_w2 := blk_frozen Bga.out 2; have hcga3_w2 : w2.cell? ⟨ga, 3, none⟩ = some (.int .i64 x.f3) := (blk_cell Bga.out 3).trans rfl; have hzga3_w2 := blk_frozen Bga.out 3; have hcga4_w2 : w2.cell? ⟨ga, 4, none⟩ = some (.int .i64 x.f4) := (blk_cell Bga.out 4).trans rfl; have hzga4_w2 := blk_frozen Bga.out 4; have hcga5_w2 : w2.cell? ⟨ga, 5, none⟩ = some (.string x.f5) := (blk_cell Bga.out 5).trans rfl; have hzga5_w2 := blk_frozen Bga.out 5))
    go_ret
    exact ⟨by first | rfl | simp, hb_ HB.out⟩
  | true =>
    rw [if_pos rfl] at H
    by_cases c : t1 = x.f1
    · rw [if_pos c] at H
      have c0 : (t1 != x.f1) = false := bne_eq_false_iff_eq.mpr c
      have c2 : (t1 == x.f1) = true := beq_iff_eq.mpr c
      clear c
      by_cases d : t2 = x.f2
      · rw [if_pos d] at H
        have d0 : (t2 != x.f2) = false := bne_eq_false_iff_eq.mpr d
        have d2 : (t2 == x.f2) = true := beq_iff_eq.mpr d
        clear d
        obtain rfl := Option.some.inj H
        clear H
        go_enter Try.func72, Try.ntmps72
        go_wp2_with (first | ((with_reducible refine gate_dst (N := 2) rfl ?_); refine box_event ?hg (N := 2) ?hd (cs := #[.int .i64 x.f0, .int .i64 x.f1, .int .i64 x.f2, .int .i64 x.f3, .int .i64 x.f4, .string x.f5]) (t := 33) ?hr ?_; (case hd => rfl); (case hg => rfl); (case hr => first | (go_simp; done) | (go_simp; rfl)); intro ga hg w1 hbox hb; have oBgp := Aside0.mk (blk_below (bk_ Bgp.out) hb); have n0_ := Aside0.mk (below_step (hb_ HB.out) hb); clear HB; have HB := n0_; clear n0_; clear Bgp; have Bgp := oBgp; clear oBgp; have Bga := Aside0.mk (hbox); clear hb hbox hg; have hcgp0_w1 : w1.cell? ⟨gp, 0, none⟩ = some (.int .i64 st) := (blk_cell Bgp.out 0).trans rfl; have hzgp0_w1 := blk_frozen Bgp.out 0; have hcgp1_w1 : w1.cell? ⟨gp, 1, none⟩ = some (.int .i64 gap) := (blk_cell Bgp.out 1).trans rfl; have hzgp1_w1 := blk_frozen Bgp.out 1; have hcgp2_w1 : w1.cell? ⟨gp, 2, none⟩ = some (.slice A1 p.length c1) := (blk_cell Bgp.out 2).trans rfl; have hzgp2_w1 := blk_frozen Bgp.out 2; have hcga0_w1 : w1.cell? ⟨ga, 0, none⟩ = some (.int .i64 x.f0) := (blk_cell Bga.out 0).trans rfl; have hzga0_w1 := blk_frozen Bga.out 0; have hcga1_w1 : w1.cell? ⟨ga, 1, none⟩ = some (.int .i64 x.f1) := (blk_cell Bga.out 1).trans rfl; have hzga1_w1 := blk_frozen Bga.out 1; have hcga2_w1 : w1.cell? ⟨ga, 2, none⟩ = some (.int .i64 x.f2) := (blk_cell Bga.out 2).trans rfl; have hzga2_w1 := blk_frozen Bga.out 2; have hcga3_w1 : w1.cell? ⟨ga, 3, none⟩ = some (.int .i64 x.f3) := (blk_cell Bga.out 3).trans rfl; have hzga3_w1 := blk_frozen Bga.out 3; have hcga4_w1 : w1.cell? ⟨ga, 4, none⟩ = some (.int .i64 x.f4) := (blk_cell Bga.out 4).trans rfl; have hzga4_w1 := blk_frozen Bga.out 4; have hcga5_w1 : w1.cell? ⟨ga, 5, none⟩ = some (.string x.f5) := (blk_cell Bga.out 5).trans rfl; have hzga5_w1 := blk_frozen Bga.out 5) | (go_at_call 73; (with_reducible refine (impl_InSlot.calls k st gap A1 c1 p x.f0 x.f3 x.f4 t1 t2 true _ ?s1 ?s2 A2.out).mono ?_); (case s1 => exact Kd.C_below HR1.out (hb_ HB.out)); (case s2 => exact HC1.out); rintro e w2 ⟨rfl, hb⟩; have oBgp := Aside0.mk (blk_below (bk_ Bgp.out) hb); have oBga := Aside0.mk (blk_below (bk_ Bga.out) hb); have n0_ := Aside0.mk (below_step (hb_ HB.out) hb); clear HB; have HB := n0_; clear n0_; clear Bgp; have Bgp := oBgp; clear oBgp; clear Bga; have Bga := oBga; clear oBga; (try clear hb); have hcgp0_w2 : w2.cell? ⟨gp, 0, none⟩ = some (.int .i64 st) := (blk_cell Bgp.out 0).trans rfl; have hzgp0_w2 := blk_frozen Bgp.out 0; have hcgp1_w2 : w2.cell? ⟨gp, 1, none⟩ = some (.int .i64 gap) := (blk_cell Bgp.out 1).trans rfl; have hzgp1_w2 := blk_frozen Bgp.out 1; have hcgp2_w2 : w2.cell? ⟨gp, 2, none⟩ = some (.slice A1 p.length c1) := (blk_cell Bgp.out 2).trans rfl; have hzgp2_w2 := blk_frozen Bgp.out 2; have hcga0_w2 : w2.cell? ⟨ga, 0, none⟩ = some (.int .i64 x.f0) := (blk_cell Bga.out 0).trans rfl; have hzga0_w2 := blk_frozen Bga.out 0; have hcga1_w2 : w2.cell? ⟨ga, 1, none⟩ = some (.int .i64 x.f1) := (blk_cell Bga.out 1).trans rfl; have hzga1_w2 := blk_frozen Bga.out 1; have hcga2_w2 : w2.cell? ⟨ga, 2, none⟩ = some (.int .i64 x.f2) := (blk_cell Bga.out 2).trans rfl; have hzga2_w2 := blk_frozen Bga.out 2; have hcga3_w2 : w2.cell? ⟨ga, 3, none⟩ = some (.int .i64 x.f3) := (blk_cell Bga.out 3).trans rfl; have hzga3_w2 := blk_frozen Bga.out 3; have hcga4_w2 : w2.cell? ⟨ga, 4, none⟩ = some (.int .i64 x.f4) := (blk_cell Bga.out 4).trans rfl; have hzga4_w2 := blk_frozen Bga.out 4; have hcga5_w2 : w2.cell? ⟨ga, 5, none⟩ = some (.string x.f5) := (blk_cell Bga.out 5).trans rfl; have hzga5_w2 := blk_frozen Bga.out 5))
        go_ret
        exact ⟨by first | rfl | simp, hb_ HB.out⟩
      · rw [if_neg d] at H
        have d0 : (t2 != x.f2) = true := bne_iff_ne.mpr d
        have d2 : (t2 == x.f2) = false := beq_eq_false_iff_ne.mpr d
        clear d
        obtain rfl := Option.some.inj H
        clear H
        go_enter Try.func72, Try.ntmps72
        go_wp2_with (first | ((with_reducible refine gate_dst (N := 2) rfl ?_); refine box_event ?hg (N := 2) ?hd (cs := #[.int .i64 x.f0, .int .i64 x.f1, .int .i64 x.f2, .int .i64 x.f3, .int .i64 x.f4, .string x.f5]) (t := 33) ?hr ?_; (case hd => rfl); (case hg => rfl); (case hr => first | (go_simp; done) | (go_simp; rfl)); intro ga hg w1 hbox hb; have oBgp := Aside0.mk (blk_below (bk_ Bgp.out) hb); have n0_ := Aside0.mk (below_step (hb_ HB.out) hb); clear HB; have HB := n0_; clear n0_; clear Bgp; have Bgp := oBgp; clear oBgp; have Bga := Aside0.mk (hbox); clear hb hbox hg; have hcgp0_w1 : w1.cell? ⟨gp, 0, none⟩ = some (.int .i64 st) := (blk_cell Bgp.out 0).trans rfl; have hzgp0_w1 := blk_frozen Bgp.out 0; have hcgp1_w1 : w1.cell? ⟨gp, 1, none⟩ = some (.int .i64 gap) := (blk_cell Bgp.out 1).trans rfl; have hzgp1_w1 := blk_frozen Bgp.out 1; have hcgp2_w1 : w1.cell? ⟨gp, 2, none⟩ = some (.slice A1 p.length c1) := (blk_cell Bgp.out 2).trans rfl; have hzgp2_w1 := blk_frozen Bgp.out 2; have hcga0_w1 : w1.cell? ⟨ga, 0, none⟩ = some (.int .i64 x.f0) := (blk_cell Bga.out 0).trans rfl; have hzga0_w1 := blk_frozen Bga.out 0; have hcga1_w1 : w1.cell? ⟨ga, 1, none⟩ = some (.int .i64 x.f1) := (blk_cell Bga.out 1).trans rfl; have hzga1_w1 := blk_frozen Bga.out 1; have hcga2_w1 : w1.cell? ⟨ga, 2, none⟩ = some (.int .i64 x.f2) := (blk_cell Bga.out 2).trans rfl; have hzga2_w1 := blk_frozen Bga.out 2; have hcga3_w1 : w1.cell? ⟨ga, 3, none⟩ = some (.int .i64 x.f3) := (blk_cell Bga.out 3).trans rfl; have hzga3_w1 := blk_frozen Bga.out 3; have hcga4_w1 : w1.cell? ⟨ga, 4, none⟩ = some (.int .i64 x.f4) := (blk_cell Bga.out 4).trans rfl; have hzga4_w1 := blk_frozen Bga.out 4; have hcga5_w1 : w1.cell? ⟨ga, 5, none⟩ = some (.string x.f5) := (blk_cell Bga.out 5).trans rfl; have hzga5_w1 := blk_frozen Bga.out 5) | (go_at_call 73; (with_reducible refine (impl_InSlot.calls k st gap A1 c1 p x.f0 x.f3 x.f4 t1 t2 true _ ?s1 ?s2 A2.out).mono ?_); (case s1 => exact Kd.C_below HR1.out (hb_ HB.out)); (case s2 => exact HC1.out); rintro e w2 ⟨rfl, hb⟩; have oBgp := Aside0.mk (blk_below (bk_ Bgp.out) hb); have oBga := Aside0.mk (blk_below (bk_ Bga.out) hb); have n0_ := Aside0.mk (below_step (hb_ HB.out) hb); clear HB; have HB := n0_; clear n0_; clear Bgp; have Bgp := oBgp; clear oBgp; clear Bga; have Bga := oBga; clear oBga; (try clear hb); have hcgp0_w2 : w2.cell? ⟨gp, 0, none⟩ = some (.int .i64 st) := (blk_cell Bgp.out 0).trans rfl; have hzgp0_w2 := blk_frozen Bgp.out 0; have hcgp1_w2 : w2.cell? ⟨gp, 1, none⟩ = some (.int .i64 gap) := (blk_cell Bgp.out 1).trans rfl; have hzgp1_w2 := blk_frozen Bgp.out 1; have hcgp2_w2 : w2.cell? ⟨gp, 2, none⟩ = some (.slice A1 p.length c1) := (blk_cell Bgp.out 2).trans rfl; have hzgp2_w2 := blk_frozen Bgp.out 2; have hcga0_w2 : w2.cell? ⟨ga, 0, none⟩ = some (.int .i64 x.f0) := (blk_cell Bga.out 0).trans rfl; have hzga0_w2 := blk_frozen Bga.out 0; have hcga1_w2 : w2.cell? ⟨ga, 1, none⟩ = some (.int .i64 x.f1) := (blk_cell Bga.out 1).trans rfl; have hzga1_w2 := blk_frozen Bga.out 1; have hcga2_w2 : w2.cell? ⟨ga, 2, none⟩ = some (.int .i64 x.f2) := (blk_cell Bga.out 2).trans rfl; have hzga2_w2 := blk_frozen Bga.out 2; have hcga3_w2 : w2.cell? ⟨ga, 3, none⟩ = some (.int .i64 x.f3) := (blk_cell Bga.out 3).trans rfl; have hzga3_w2 := blk_frozen Bga.out 3; have hcga4_w2 : w2.cell? ⟨ga, 4, none⟩ = some (.int .i64 x.f4) := (blk_cell Bga.out 4).trans rfl; have hzga4_w2 := blk_frozen Bga.out 4; have hcga5_w2 : w2.cell? ⟨ga, 5, none⟩ = some (.string x.f5) := (blk_cell Bga.out 5).trans rfl; have hzga5_w2 := blk_frozen Bga.out 5))
        go_ret
        exact ⟨by first | rfl | simp, hb_ HB.out⟩
    · rw [if_neg c] at H
      have c0 : (t1 != x.f1) = true := bne_iff_ne.mpr c
      have c2 : (t1 == x.f1) = false := beq_eq_false_iff_ne.mpr c
      clear c
      obtain rfl := Option.some.inj H
      clear H
      go_enter Try.func72, Try.ntmps72
      go_wp2_with (first | ((with_reducible refine gate_dst (N := 2) rfl ?_); refine box_event ?hg (N := 2) ?hd (cs := #[.int .i64 x.f0, .int .i64 x.f1, .int .i64 x.f2, .int .i64 x.f3, .int .i64 x.f4, .string x.f5]) (t := 33) ?hr ?_; (case hd => rfl); (case hg => rfl); (case hr => first | (go_simp; done) | (go_simp; rfl)); intro ga hg w1 hbox hb; have oBgp := Aside0.mk (blk_below (bk_ Bgp.out) hb); have n0_ := Aside0.mk (below_step (hb_ HB.out) hb); clear HB; have HB := n0_; clear n0_; clear Bgp; have Bgp := oBgp; clear oBgp; have Bga := Aside0.mk (hbox); clear hb hbox hg; have hcgp0_w1 : w1.cell? ⟨gp, 0, none⟩ = some (.int .i64 st) := (blk_cell Bgp.out 0).trans rfl; have hzgp0_w1 := blk_frozen Bgp.out 0; have hcgp1_w1 : w1.cell? ⟨gp, 1, none⟩ = some (.int .i64 gap) := (blk_cell Bgp.out 1).trans rfl; have hzgp1_w1 := blk_frozen Bgp.out 1; have hcgp2_w1 : w1.cell? ⟨gp, 2, none⟩ = some (.slice A1 p.length c1) := (blk_cell Bgp.out 2).trans rfl; have hzgp2_w1 := blk_frozen Bgp.out 2; have hcga0_w1 : w1.cell? ⟨ga, 0, none⟩ = some (.int .i64 x.f0) := (blk_cell Bga.out 0).trans rfl; have hzga0_w1 := blk_frozen Bga.out 0; have hcga1_w1 : w1.cell? ⟨ga, 1, none⟩ = some (.int .i64 x.f1) := (blk_cell Bga.out 1).trans rfl; have hzga1_w1 := blk_frozen Bga.out 1; have hcga2_w1 : w1.cell? ⟨ga, 2, none⟩ = some (.int .i64 x.f2) := (blk_cell Bga.out 2).trans rfl; have hzga2_w1 := blk_frozen Bga.out 2; have hcga3_w1 : w1.cell? ⟨ga, 3, none⟩ = some (.int .i64 x.f3) := (blk_cell Bga.out 3).trans rfl; have hzga3_w1 := blk_frozen Bga.out 3; have hcga4_w1 : w1.cell? ⟨ga, 4, none⟩ = some (.int .i64 x.f4) := (blk_cell Bga.out 4).trans rfl; have hzga4_w1 := blk_frozen Bga.out 4; have hcga5_w1 : w1.cell? ⟨ga, 5, none⟩ = some (.string x.f5) := (blk_cell Bga.out 5).trans rfl; have hzga5_w1 := blk_frozen Bga.out 5) | (go_at_call 73; (with_reducible refine (impl_InSlot.calls k st gap A1 c1 p x.f0 x.f3 x.f4 t1 t2 true _ ?s1 ?s2 A2.out).mono ?_); (case s1 => exact Kd.C_below HR1.out (hb_ HB.out)); (case s2 => exact HC1.out); rintro e w2 ⟨rfl, hb⟩; have oBgp := Aside0.mk (blk_below (bk_ Bgp.out) hb); have oBga := Aside0.mk (blk_below (bk_ Bga.out) hb); have n0_ := Aside0.mk (below_step (hb_ HB.out) hb); clear HB; have HB := n0_; clear n0_; clear Bgp; have Bgp := oBgp; clear oBgp; clear Bga; have Bga := oBga; clear oBga; (try clear hb); have hcgp0_w2 : w2.cell? ⟨gp, 0, none⟩ = some (.int .i64 st) := (blk_cell Bgp.out 0).trans rfl; have hzgp0_w2 := blk_frozen Bgp.out 0; have hcgp1_w2 : w2.cell? ⟨gp, 1, none⟩ = some (.int .i64 gap) := (blk_cell Bgp.out 1).trans rfl; have hzgp1_w2 := blk_frozen Bgp.out 1; have hcgp2_w2 : w2.cell? ⟨gp, 2, none⟩ = some (.slice A1 p.length c1) := (blk_cell Bgp.out 2).trans rfl; have hzgp2_w2 := blk_frozen Bgp.out 2; have hcga0_w2 : w2.cell? ⟨ga, 0, none⟩ = some (.int .i64 x.f0) := (blk_cell Bga.out 0).trans rfl; have hzga0_w2 := blk_frozen Bga.out 0; have hcga1_w2 : w2.cell? ⟨ga, 1, none⟩ = some (.int .i64 x.f1) := (blk_cell Bga.out 1).trans rfl; have hzga1_w2 := blk_frozen Bga.out 1; have hcga2_w2 : w2.cell? ⟨ga, 2, none⟩ = some (.int .i64 x.f2) := (blk_cell Bga.out 2).trans rfl; have hzga2_w2 := blk_frozen Bga.out 2; have hcga3_w2 : w2.cell? ⟨ga, 3, none⟩ = some (.int .i64 x.f3) := (blk_cell Bga.out 3).trans rfl; have hzga3_w2 := blk_frozen Bga.out 3; have hcga4_w2 : w2.cell? ⟨ga, 4, none⟩ = some (.int .i64 x.f4) := (blk_cell Bga.out 4).trans rfl; have hzga4_w2 := blk_frozen Bga.out 4; have hcga5_w2 : w2.cell? ⟨ga, 5, none⟩ = some (.string x.f5) := (blk_cell Bga.out 5).trans rfl; have hzga5_w2 := blk_frozen Bga.out 5))
      go_ret
      exact ⟨by first | rfl | simp, hb_ HB.out⟩
def impl_BusStray.f (k : Nat) (st gap : Int) (p : List (S90)) (l0 : List (S33)) : Option (List Int) := (impl_PlanOk.f k st gap p).bind fun t => if t = true then ((impl_BusOk.f k l0).bind fun t => if t = true then impl_places_Frame.f (fun x => impl_BusStray_1.f k st gap p x) k l0 else some []) else some []
set_option maxHeartbeats 8000000 in
set_option maxRecDepth 100000 in
theorem impl_BusStray.calls (k : Nat) (st gap : Int) (A1 : Option Addr) (c1 : Nat) (p : List (S90)) (A0 : Option Addr) (c0 : Nat) (l0 : List (S33)) (r : List Int) (w : World) (hr1 : Kd.C k90 w A1 p.length p) (hc1 : p.length ≤ c1) (hr0 : Kd.C k33 w A0 l0.length l0) (hc0 : l0.length ≤ c0) (h : impl_BusStray.f k st gap p l0 = some r) :
    Calls Try.prog 38 #[.agg #[.int .i64 st, .int .i64 gap, .slice A1 p.length c1], .slice A0 l0.length c0] w fun e w' => ∃ v0_ : Value, e = .returned (v0_) ∧ Kd.R (Kd.int .i64) 3 w' w.heap.size (fun _ => True) v0_ r ∧ Below w.heap.size w w' := by
  have hu1 := Try.underlying59
  have HB := Aside0.mk (Below.refl w.heap.size w)
  have HR0 := Aside0.mk hr0
  have HC0 := Aside0.mk hc0
  have HR1 := Aside0.mk hr1
  have HC1 := Aside0.mk hc1
  clear hr0 hc0 hr1 hc1
  unfold impl_BusStray.f at h
  obtain ⟨t0, AP, H⟩ := Option.bind_eq_some_iff.mp h
  clear h
  have AP := Aside0.mk AP
  cases t0 with
  | false =>
    rw [if_neg (by decide)] at H
    obtain rfl := Option.some.inj H
    clear H
    go_enter Try.func38, Try.ntmps38
    go_wp2_with (first | ((with_reducible refine gate_dst (N := 2) rfl ?_); refine box_event ?hg (N := 2) ?hd (cs := #[.int .i64 st, .int .i64 gap, .slice A1 p.length c1]) (t := 59) ?hr ?_; (case hd => rfl); (case hg => rfl); (case hr => first | (go_simp; done) | (go_simp; rfl)); intro gp hg w0 hbox hb; have n0_ := Aside0.mk (below_step (hb_ HB.out) hb); clear HB; have HB := n0_; clear n0_; have Bgp := Aside0.mk (hbox); clear hb hbox hg; have hcgp0_w0 : w0.cell? ⟨gp, 0, none⟩ = some (.int .i64 st) := (blk_cell Bgp.out 0).trans rfl; have hzgp0_w0 := blk_frozen Bgp.out 0; have hcgp1_w0 : w0.cell? ⟨gp, 1, none⟩ = some (.int .i64 gap) := (blk_cell Bgp.out 1).trans rfl; have hzgp1_w0 := blk_frozen Bgp.out 1; have hcgp2_w0 : w0.cell? ⟨gp, 2, none⟩ = some (.slice A1 p.length c1) := (blk_cell Bgp.out 2).trans rfl; have hzgp2_w0 := blk_frozen Bgp.out 2) | (go_at_call 71; (with_reducible refine (impl_PlanOk.calls k st gap A1 c1 p false _ ?s1 ?s2 AP.out).mono ?_); (case s1 => exact Kd.C_below HR1.out (hb_ HB.out)); (case s2 => exact HC1.out); rintro e w1 ⟨rfl, hb⟩; have oBgp := Aside0.mk (blk_below (bk_ Bgp.out) hb); have n0_ := Aside0.mk (below_step (hb_ HB.out) hb); clear HB; have HB := n0_; clear n0_; clear Bgp; have Bgp := oBgp; clear oBgp; (try clear hb); have hcgp0_w1 : w1.cell? ⟨gp, 0, none⟩ = some (.int .i64 st) := (blk_cell Bgp.out 0).trans rfl; have hzgp0_w1 := blk_frozen Bgp.out 0; have hcgp1_w1 : w1.cell? ⟨gp, 1, none⟩ = some (.int .i64 gap) := (blk_cell Bgp.out 1).trans rfl; have hzgp1_w1 := blk_frozen Bgp.out 1; have hcgp2_w1 : w1.cell? ⟨gp, 2, none⟩ = some (.slice A1 p.length c1) := (blk_cell Bgp.out 2).trans rfl; have hzgp2_w1 := blk_frozen Bgp.out 2))
    go_ret
    exact ⟨_, rfl, Kd.R_nil _ _ _ _ _, hb_ HB.out⟩
  | true =>
    rw [if_pos rfl] at H
    obtain ⟨t1, AB', H⟩ := Option.bind_eq_some_iff.mp H
    have AB := Aside0.mk AB'
    clear AB'
    cases t1 with
    | false =>
      rw [if_neg (by decide)] at H
      obtain rfl := Option.some.inj H
      clear H
      go_enter Try.func38, Try.ntmps38
      go_wp2_with (first | ((with_reducible refine gate_dst (N := 2) rfl ?_); refine box_event ?hg (N := 2) ?hd (cs := #[.int .i64 st, .int .i64 gap, .slice A1 p.length c1]) (t := 59) ?hr ?_; (case hd => rfl); (case hg => rfl); (case hr => first | (go_simp; done) | (go_simp; rfl)); intro gp hg w0 hbox hb; have n0_ := Aside0.mk (below_step (hb_ HB.out) hb); clear HB; have HB := n0_; clear n0_; have Bgp := Aside0.mk (hbox); clear hb hbox hg; have hcgp0_w0 : w0.cell? ⟨gp, 0, none⟩ = some (.int .i64 st) := (blk_cell Bgp.out 0).trans rfl; have hzgp0_w0 := blk_frozen Bgp.out 0; have hcgp1_w0 : w0.cell? ⟨gp, 1, none⟩ = some (.int .i64 gap) := (blk_cell Bgp.out 1).trans rfl; have hzgp1_w0 := blk_frozen Bgp.out 1; have hcgp2_w0 : w0.cell? ⟨gp, 2, none⟩ = some (.slice A1 p.length c1) := (blk_cell Bgp.out 2).trans rfl; have hzgp2_w0 := blk_frozen Bgp.out 2) | (go_at_call 71; (with_reducible refine (impl_PlanOk.calls k st gap A1 c1 p true _ ?s1 ?s2 AP.out).mono ?_); (case s1 => exact Kd.C_below HR1.out (hb_ HB.out)); (case s2 => exact HC1.out); rintro e w1 ⟨rfl, hb⟩; have oBgp := Aside0.mk (blk_below (bk_ Bgp.out) hb); have n0_ := Aside0.mk (below_step (hb_ HB.out) hb); clear HB; have HB := n0_; clear n0_; clear Bgp; have Bgp := oBgp; clear oBgp; (try clear hb); have hcgp0_w1 : w1.cell? ⟨gp, 0, none⟩ = some (.int .i64 st) := (blk_cell Bgp.out 0).trans rfl; have hzgp0_w1 := blk_frozen Bgp.out 0; have hcgp1_w1 : w1.cell? ⟨gp, 1, none⟩ = some (.int .i64 gap) := (blk_cell Bgp.out 1).trans rfl; have hzgp1_w1 := blk_frozen Bgp.out 1; have hcgp2_w1 : w1.cell? ⟨gp, 2, none⟩ = some (.slice A1 p.length c1) := (blk_cell Bgp.out 2).trans rfl; have hzgp2_w1 := blk_frozen Bgp.out 2) | (go_at_call 15; (with_reducible refine (impl_BusOk.calls k A0 c0 l0 false _ ?s1 ?s2 AB.out).mono ?_); (case s1 => exact Kd.C_below HR0.out (hb_ HB.out)); (case s2 => exact HC0.out); rintro e w2 ⟨rfl, hb⟩; have oBgp := Aside0.mk (blk_below (bk_ Bgp.out) hb); have n0_ := Aside0.mk (below_step (hb_ HB.out) hb); clear HB; have HB := n0_; clear n0_; clear Bgp; have Bgp := oBgp; clear oBgp; (try clear hb); have hcgp0_w2 : w2.cell? ⟨gp, 0, none⟩ = some (.int .i64 st) := (blk_cell Bgp.out 0).trans rfl; have hzgp0_w2 := blk_frozen Bgp.out 0; have hcgp1_w2 : w2.cell? ⟨gp, 1, none⟩ = some (.int .i64 gap) := (blk_cell Bgp.out 1).trans rfl; have hzgp1_w2 := blk_frozen Bgp.out 1; have hcgp2_w2 : w2.cell? ⟨gp, 2, none⟩ = some (.slice A1 p.length c1) := (blk_cell Bgp.out 2).trans rfl; have hzgp2_w2 := blk_frozen Bgp.out 2))
      go_ret
      exact ⟨_, rfl, Kd.R_nil _ _ _ _ _, hb_ HB.out⟩
    | true =>
      rw [if_pos rfl] at H
      have H := Aside0.mk H
      go_enter Try.func38, Try.ntmps38
      go_wp2_with (first | ((with_reducible refine gate_dst (N := 2) rfl ?_); refine box_event ?hg (N := 2) ?hd (cs := #[.int .i64 st, .int .i64 gap, .slice A1 p.length c1]) (t := 59) ?hr ?_; (case hd => rfl); (case hg => rfl); (case hr => first | (go_simp; done) | (go_simp; rfl)); intro gp hg w0 hbox hb; have n0_ := Aside0.mk (below_step (hb_ HB.out) hb); clear HB; have HB := n0_; clear n0_; have Bgp := Aside0.mk (hbox); clear hb hbox hg; have hcgp0_w0 : w0.cell? ⟨gp, 0, none⟩ = some (.int .i64 st) := (blk_cell Bgp.out 0).trans rfl; have hzgp0_w0 := blk_frozen Bgp.out 0; have hcgp1_w0 : w0.cell? ⟨gp, 1, none⟩ = some (.int .i64 gap) := (blk_cell Bgp.out 1).trans rfl; have hzgp1_w0 := blk_frozen Bgp.out 1; have hcgp2_w0 : w0.cell? ⟨gp, 2, none⟩ = some (.slice A1 p.length c1) := (blk_cell Bgp.out 2).trans rfl; have hzgp2_w0 := blk_frozen Bgp.out 2) | (go_at_call 71; (with_reducible refine (impl_PlanOk.calls k st gap A1 c1 p true _ ?s1 ?s2 AP.out).mono ?_); (case s1 => exact Kd.C_below HR1.out (hb_ HB.out)); (case s2 => exact HC1.out); rintro e w1 ⟨rfl, hb⟩; have oBgp := Aside0.mk (blk_below (bk_ Bgp.out) hb); have n0_ := Aside0.mk (below_step (hb_ HB.out) hb); clear HB; have HB := n0_; clear n0_; clear Bgp; have Bgp := oBgp; clear oBgp; (try clear hb); have hcgp0_w1 : w1.cell? ⟨gp, 0, none⟩ = some (.int .i64 st) := (blk_cell Bgp.out 0).trans rfl; have hzgp0_w1 := blk_frozen Bgp.out 0; have hcgp1_w1 : w1.cell? ⟨gp, 1, none⟩ = some (.int .i64 gap) := (blk_cell Bgp.out 1).trans rfl; have hzgp1_w1 := blk_frozen Bgp.out 1; have hcgp2_w1 : w1.cell? ⟨gp, 2, none⟩ = some (.slice A1 p.length c1) := (blk_cell Bgp.out 2).trans rfl; have hzgp2_w1 := blk_frozen Bgp.out 2) | (go_at_call 15; (with_reducible refine (impl_BusOk.calls k A0 c0 l0 true _ ?s1 ?s2 AB.out).mono ?_); (case s1 => exact Kd.C_below HR0.out (hb_ HB.out)); (case s2 => exact HC0.out); rintro e w2 ⟨rfl, hb⟩; have oBgp := Aside0.mk (blk_below (bk_ Bgp.out) hb); have n0_ := Aside0.mk (below_step (hb_ HB.out) hb); clear HB; have HB := n0_; clear n0_; clear Bgp; have Bgp := oBgp; clear oBgp; (try clear hb); have hcgp0_w2 : w2.cell? ⟨gp, 0, none⟩ = some (.int .i64 st) := (blk_cell Bgp.out 0).trans rfl; have hzgp0_w2 := blk_frozen Bgp.out 0; have hcgp1_w2 : w2.cell? ⟨gp, 1, none⟩ = some (.int .i64 gap) := (blk_cell Bgp.out 1).trans rfl; have hzgp1_w2 := blk_frozen Bgp.out 1; have hcgp2_w2 : w2.cell? ⟨gp, 2, none⟩ = some (.slice A1 p.length c1) := (blk_cell Bgp.out 2).trans rfl; have hzgp2_w2 := blk_frozen Bgp.out 2) | (go_at_call 50; (with_reducible refine (impl_places_Frame.calls k (fun x => impl_BusStray_1.f k st gap p x) 72 #[.pointer (some ⟨gp, 0, none⟩)] Try.f72 Try.func72 (by kernel_rfl) rfl A0 c0 l0 r _ ?hC ?s1 ?s2 H.out).mono ?_); (case hC => exact fun x b W hW hp => impl_BusStray_1.calls k gp st gap A1 c1 p x b W (blk_below (bk_ Bgp.out) hW) (Kd.C_below (Kd.C_below HR1.out (hb_ HB.out)) hW) HC1.out hp); (case s1 => exact Kd.C_below HR0.out (hb_ HB.out)); (case s2 => exact HC0.out); rintro e w3 ⟨v0, rfl, ho, hb⟩; have HO := Aside0.mk (Kd.R_lower ho (below_size (hb_ HB.out))); have oBgp := Aside0.mk (blk_below (bk_ Bgp.out) hb); have n0_ := Aside0.mk (below_step (hb_ HB.out) hb); clear HB; have HB := n0_; clear n0_; clear Bgp; have Bgp := oBgp; clear oBgp; (try clear hb); (try clear ho)))
      go_ret
      exact ⟨_, rfl, (by (with_reducible repeat (first | apply Kd.R_alloc | apply Kd.R_drewN | apply Kd.R_drew)); exact HO.out), hb_ HB.out⟩
def spec_l1In.f (a0 : Int) (a1 : Int) (a2 : Int) : Option (Bool) := if a0 ≥ a1 then (some (decide (a0 ≤ a2))) else (some false)
set_option maxHeartbeats 8000000 in
set_option maxRecDepth 100000 in
theorem spec_l1In.calls (a0 : Int) (a1 : Int) (a2 : Int) (r : Bool) (w : World) (h : spec_l1In.f a0 a1 a2 = some r) :
    Calls Try.prog 76 #[.int .i64 a0, .int .i64 a1, .int .i64 a2] w fun e w' => e = .returned (.bool r) ∧ Drawn0 w w' := by
  have H : (if a0 ≥ a1 then (some (decide (a0 ≤ a2))) else (some false)) = some r := h
  clear h
  by_cases c4 : a0 ≥ a1
  · rw [if_pos c4] at H
    have c4b0 : decide (a1 ≤ a0) = true := decide_eq_true c4
    clear c4
    obtain rfl := Option.some.inj H
    go_enter Try.func76, Try.ntmps76
    go_wp2
    go_ret
    exact ⟨by first | rfl | (simp; done) | (simp [*]; done), by repeat (first | exact Drawn0.refl _ | apply Drawn0.step)⟩
  · rw [if_neg c4] at H
    have c4b0 : decide (a1 ≤ a0) = false := decide_eq_false c4
    clear c4
    obtain rfl := Option.some.inj H
    go_enter Try.func76, Try.ntmps76
    go_wp2
    go_ret
    exact ⟨by first | rfl | (simp; done) | (simp [*]; done), by repeat (first | exact Drawn0.refl _ | apply Drawn0.step)⟩
def spec_l4Node.f (a0 : Int) : Option (Bool) := (spec_l1In.f a0 0 7).bind fun t222 => (some t222)
set_option maxHeartbeats 8000000 in
set_option maxRecDepth 100000 in
theorem spec_l4Node.calls (a0 : Int) (r : Bool) (w : World) (h : spec_l4Node.f a0 = some r) :
    Calls Try.prog 77 #[.int .i64 a0] w fun e w' => e = .returned (.bool r) ∧ Drawn0 w w' := by
  have H : ((spec_l1In.f a0 0 7).bind fun t222 => (some t222)) = some r := h
  clear h
  replace H := Option.bind_eq_some_iff.mp H
  obtain ⟨t222, A20, H⟩ := H
  replace H : (some t222) = some r := H
  have A2 := Aside0.mk A20
  clear A20
  obtain rfl := Option.some.inj H
  go_enter Try.func77, Try.ntmps77
  go_wp2_with (first | ((with_reducible refine gate_callee (f := 76) rfl ?_); refine goesL_ (some 4) rfl rfl Try.func76 (by kernel_rfl) rfl #[.int .i64 a0, .int .i64 0, .int .i64 7] rfl arr_ ?_; (with_reducible refine (spec_l1In.calls a0 0 7 t222 _ A2.out).mono ?_); rintro e w' ⟨rfl, ⟨nd, rfl⟩⟩; refine ⟨_, rfl, ?_⟩))
  go_ret
  exact ⟨by first | rfl | (simp; done) | (simp [*]; done), by repeat (first | exact Drawn0.refl _ | apply Drawn0.step)⟩
end Go.Proofs.Ytjlmfnpgcmmdnaa.P
