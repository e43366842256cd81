/- Texts of the seat's proofs, part 5: functions of the program told as plain functions, with their contracts, and what is shown of them. No condition. -/
import Derived.Test.YtjlmfnpgcmmdnaaUKFEBS
import Derived.Test.YtjlmfnpgcmmdnaaKFEBS1
import Derived.Test.YtjlmfnpgcmmdnaaKFEBS3
import Derived.Test.YtjlmfnpgcmmdnaaKFEBS4
set_option linter.unusedVariables false
set_option linter.unusedSimpArgs false
namespace Go.Proofs.Ytjlmfnpgcmmdnaa.P
open Go.RowKit Go.Proofs.YtjlmfnpgcmmdnaaW.PrintWords Go.Proofs.YtjlmfnpgcmmdnaaW.PrintLast Go.Proofs.YtjlmfnpgcmmdnaaW.PrintMore
attribute [local go_sem] max2_int min2_int max_two min_two max_three min_three max_four min_four
set_option linter.unusedVariables false
set_option linter.unusedSimpArgs false
def spec_Occurrence.j0 : Nat → Int → Int → Bool → Int → Int → List (S90) → Option (Int × Int × Bool)
  | 0, _, _, _, _, _, _ => none
  | k + 1, x1, x2, x24, x630000, x630001, x630002 => if x24 = true then (some (0, 0, false)) else ((spec_RoundOf.f k x630000 x630001 x630002).bind fun t634 => ((spec_l13Upto.f k x630000 x630001 x630002 x1).bind fun t635 => (if 0 ≤ x1 then (if x1 < (x630002.length : Int) then ((spec_l1Told.f (wrap64 ((wrap64 (x630000 + (wrap64 (x2 * t634)))) + t635)) (wrap64 ((wrap64 ((wrap64 (x630000 + (wrap64 (x2 * t634)))) + t635)) + ((rd_T90 x630002 x1).f1)))).bind fun bt637 => (some (bt637.1, bt637.2.1, bt637.2.2))) else (none)) else (none))))
def spec_Occurrence.f (k : Nat) (a0_0 : Int) (a0_1 : Int) (l0_2 : List (S90)) (a1 : Int) (a2 : Int) : Option (Int × Int × Bool) := (spec_l13Slot.f k a0_0 a0_1 l0_2 a1).bind fun t631 => (if t631 = true then ((spec_l1In.f a2 0 1000000000000).bind fun t632 => (if t632 = true then ((spec_RoundOf.f k a0_0 a0_1 l0_2).bind fun t633 => (if t633 = 0 then (none) else (spec_Occurrence.j0 k a1 a2 (decide (a2 > (wrap64 (Int.tdiv (1000000000000 : Int) t633)))) a0_0 a0_1 l0_2))) else (spec_Occurrence.j0 k a1 a2 true a0_0 a0_1 l0_2))) else (spec_Occurrence.j0 k a1 a2 true a0_0 a0_1 l0_2))
def spec_Occurrence.T3 : Bool × List (List Nat × List Nat) := (true, [([], []), ([0], [0]), ([], []), ([], []), ([3], [3]), ([2, 4], [2, 4]), ([1, 5], [1, 5]), ([], []), ([], []), ([7, 8, 4], [7, 8]), ([6, 9], [6, 9]), ([10, 9, 0, 1, 2, 3, 4, 5, 6, 7, 8, 9, 10], [10])])
def spec_Occurrence.B3 : List Nat := [0, 1, 0, 0, 8, 28, 63, 0, 0, 408, 1023, 2047]
theorem spec_Occurrence.tab3 : rtab .any (opsOf Try.f92 3) = spec_Occurrence.T3 := by kernel_rfl
theorem spec_Occurrence.bits3 : waitsOk spec_Occurrence.T3.2 spec_Occurrence.B3 = true := by kernel_rfl
set_option maxHeartbeats 8000000 in
set_option maxRecDepth 100000 in
theorem spec_Occurrence.calls (k : Nat) (a0_0 : Int) (a0_1 : Int) (A0_2 : Option Addr) (c0_2 : Nat) (l0_2 : List (S90)) (a1 : Int) (a2 : Int) (r1 : Int) (r2 : Int) (r3 : Bool) (w : World) (hr0_2 : Kd.C k90 w A0_2 l0_2.length l0_2) (hc0_2 : l0_2.length ≤ c0_2) (h : spec_Occurrence.f k a0_0 a0_1 l0_2 a1 a2 = some (r1, r2, r3)) :
    Calls Try.prog 92 #[.agg #[.int .i64 a0_0, .int .i64 a0_1, .slice A0_2 l0_2.length c0_2], .int .i64 a1, .int .i64 a2] w fun e w' => e = .returned (.tuple #[.agg #[.int .i64 r1, .int .i64 r2], .bool r3]) ∧ Below w.heap.size w w' := by
  have hu59 := Try.underlying59
  have hu43 := Try.underlying43
  have HR0_2 := Aside0.mk hr0_2
  have HC0_2 := Aside0.mk hc0_2
  clear hr0_2 hc0_2
  have HB := Aside0.mk (Below.refl w.heap.size w)
  have H : ((spec_l13Slot.f k a0_0 a0_1 l0_2 a1).bind fun t631 => (if t631 = true then ((spec_l1In.f a2 0 1000000000000).bind fun t632 => (if t632 = true then ((spec_RoundOf.f k a0_0 a0_1 l0_2).bind fun t633 => (if t633 = 0 then (none) else (spec_Occurrence.j0 k a1 a2 (decide (a2 > (wrap64 (Int.tdiv (1000000000000 : Int) t633)))) a0_0 a0_1 l0_2))) else (spec_Occurrence.j0 k a1 a2 true a0_0 a0_1 l0_2))) else (spec_Occurrence.j0 k a1 a2 true a0_0 a0_1 l0_2))) = some (r1, r2, r3) := h
  clear h
  have HC4 := Aside0.mk H
  clear H
  go_enter Try.func92, Try.ntmps92
  go_upto_region 1 with (first | ((with_reducible refine gate_dst (N := 3) rfl ?_); refine box_event ?hg (N := 3) ?hd (cs := #[.int .i64 a0_0, .int .i64 a0_1, .slice A0_2 l0_2.length c0_2]) (t := 59) ?hr ?_; (case hd => rfl); (case hg => rfl); (case hr => first | (go_simp; done) | (go_simp; rfl)); intro gb629 hg w5 hbox hb; have n0_ := Aside0.mk (below_step (hb_ HB.out) hb); have n1_ := Aside0.mk (hbox); have n2_ := Aside0.mk ((by rw [hg]; exact (below_size (hb_ HB.out)) : w.heap.size ≤ gb629)); have n3_ := Aside0.mk ((by rw [hg]; exact (below_size (hb_ HB.out)) : w.heap.size ≤ gb629)); clear HB; have HB := n0_; have BK629 := n1_; have GW629 := n2_; have GE629 := n3_; clear n0_ n1_ n2_ n3_; clear hb hbox hg) | ((with_reducible refine gate_dst (N := 6) rfl ?_); refine box_event ?hg (N := 6) ?hd (cs := #[.int .i64 0, .int .i64 0]) (t := 43) ?hr ?_; (case hd => rfl); (case hg => rfl); (case hr => first | (go_simp; done) | (go_simp; rfl)); intro gb630 hg w6 hbox hb; have n0_ := Aside0.mk (bb_ BK629.out hb); have n1_ := Aside0.mk (below_step (hb1_ HB.out GE629.out) hb); have n2_ := Aside0.mk (hbox); have n3_ := Aside0.mk ((by rw [hg]; exact (below_size (hb1_ HB.out GE629.out)) : w.heap.size ≤ gb630)); have n4_ := Aside0.mk ((by rw [hg]; exact (below_size (hb1_ HB.out GE629.out)) : w.heap.size ≤ gb630)); have n5_ := Aside0.mk ((bl_ hg BK629.out : gb629 ≠ gb630)); have n6_ := Aside0.mk ((bg_ hg BK629.out : gb630 ≠ gb629)); clear BK629; clear HB; have BK629 := n0_; have HB := n1_; have BK630 := n2_; have GW630 := n3_; have GE630 := n4_; have NB629_630 := n5_; have NB630_629 := n6_; clear n0_ n1_ n2_ n3_ n4_ n5_ n6_; clear hb hbox hg))
  (try simp only [Act.put, List.setIfInBounds_toArray, List.set_cons_zero, List.set_cons_succ])
  go_cut [24] (fun v24 wc => ∃ (kq : Nat) (x24_3 : Bool), v24 = .bool x24_3 ∧ Aside0 (spec_Occurrence.j0 kq a1 a2 x24_3 a0_0 a0_1 l0_2 = some (r1, r2, r3)) ∧ Aside0 (kq ≤ k) ∧ Aside0 (wc.heap[gb629]? = some (.cells #[.int .i64 a0_0, .int .i64 a0_1, (.slice A0_2 l0_2.length c0_2)] 59 (0, 0))) ∧ Aside0 (wc.heap[gb630]? = some (.cells #[.int .i64 0, .int .i64 0] 43 (0, 0))) ∧ Aside0 (Below w.heap.size w wc))
  case first =>
    have H := HC4.out
    clear HC4
    replace H := Option.bind_eq_some_iff.mp H
    obtain ⟨t631, A70, H⟩ := H
    replace H : (if t631 = true then ((spec_l1In.f a2 0 1000000000000).bind fun t632 => (if t632 = true then ((spec_RoundOf.f k a0_0 a0_1 l0_2).bind fun t633 => (if t633 = 0 then (none) else (spec_Occurrence.j0 k a1 a2 (decide (a2 > (wrap64 (Int.tdiv (1000000000000 : Int) t633)))) a0_0 a0_1 l0_2))) else (spec_Occurrence.j0 k a1 a2 true a0_0 a0_1 l0_2))) else (spec_Occurrence.j0 k a1 a2 true a0_0 a0_1 l0_2)) = some (r1, r2, r3) := H
    have A7 := Aside0.mk A70
    clear A70
    by_cases c8 : t631 = true
    · subst c8
      have H1 : ((spec_l1In.f a2 0 1000000000000).bind fun t632 => (if t632 = true then ((spec_RoundOf.f k a0_0 a0_1 l0_2).bind fun t633 => (if t633 = 0 then (none) else (spec_Occurrence.j0 k a1 a2 (decide (a2 > (wrap64 (Int.tdiv (1000000000000 : Int) t633)))) a0_0 a0_1 l0_2))) else (spec_Occurrence.j0 k a1 a2 true a0_0 a0_1 l0_2))) = some (r1, r2, r3) := by rw [if_pos rfl] at H; exact H
      clear H
      have H := H1
      clear H1
      replace H := Option.bind_eq_some_iff.mp H
      obtain ⟨t632, A90, H⟩ := H
      replace H : (if t632 = true then ((spec_RoundOf.f k a0_0 a0_1 l0_2).bind fun t633 => (if t633 = 0 then (none) else (spec_Occurrence.j0 k a1 a2 (decide (a2 > (wrap64 (Int.tdiv (1000000000000 : Int) t633)))) a0_0 a0_1 l0_2))) else (spec_Occurrence.j0 k a1 a2 true a0_0 a0_1 l0_2)) = some (r1, r2, r3) := H
      have A9 := Aside0.mk A90
      clear A90
      by_cases c10 : t632 = true
      · subst c10
        have H1 : ((spec_RoundOf.f k a0_0 a0_1 l0_2).bind fun t633 => (if t633 = 0 then (none) else (spec_Occurrence.j0 k a1 a2 (decide (a2 > (wrap64 (Int.tdiv (1000000000000 : Int) t633)))) a0_0 a0_1 l0_2))) = some (r1, r2, r3) := by rw [if_pos rfl] at H; exact H
        clear H
        have H := H1
        clear H1
        replace H := Option.bind_eq_some_iff.mp H
        obtain ⟨t633, A110, H⟩ := H
        replace H : (if t633 = 0 then (none) else (spec_Occurrence.j0 k a1 a2 (decide (a2 > (wrap64 (Int.tdiv (1000000000000 : Int) t633)))) a0_0 a0_1 l0_2)) = some (r1, r2, r3) := H
        have A11 := Aside0.mk A110
        clear A110
        by_cases c12 : t633 = 0
        · rw [if_pos c12] at H
          exact absurd H (by simp)
        · rw [if_neg c12] at H
          have c12b0 : (t633 == 0) = false := beq_eq_false_iff_ne.mpr c12
          have c12b1 : (t633 != 0) = true := bne_iff_ne.mpr c12
          (first | rw [c12b0] | (simp only [i64_w, i32_w]; rw [c12b0]) | skip)
          have H' := Aside0.mk H
          clear H
          have hnb13 := NB629_630.out
          have hnc13 := NB630_629.out
          have hcz14_0 := bc_ BK629.out 0 (.int .i64 a0_0) rfl
          have hcz14_1 := bc_ BK629.out 1 (.int .i64 a0_1) rfl
          have hcz14_2 := bc_ BK629.out 2 (.slice A0_2 l0_2.length c0_2) rfl
          have hfz14_0 := blk_frozen BK629.out 0
          have hfz14_1 := blk_frozen BK629.out 1
          have hfz14_2 := blk_frozen BK629.out 2
          go_wp2_with (first | ((with_reducible refine gate_callee (f := 101) rfl ?_); refine goesL_ (some 11) rfl rfl Try.func101 (by kernel_rfl) rfl #[.agg #[.int .i64 a0_0, .int .i64 a0_1, .slice A0_2 l0_2.length c0_2], .int .i64 a1] rfl arr_ ?_; (with_reducible refine (spec_l13Slot.calls k a0_0 a0_1 _ _ l0_2 a1 true _ ?side1 ?side2 A7.out).mono ?_); (case side1 => exact kc_ (Kd.C_below HR0_2.out HB.out)); (case side2 => exact HC0_2.out); rintro e w15 ⟨rfl, hb⟩; refine ⟨_, rfl, ?_⟩; have n0_ := Aside0.mk (bb_ BK629.out hb); have n1_ := Aside0.mk (bb_ BK630.out hb); have n2_ := Aside0.mk (below_step (hb2_ HB.out GE629.out GE630.out) hb); clear BK629; clear BK630; clear HB; have BK629 := n0_; have BK630 := n1_; have HB := n2_; clear n0_ n1_ n2_; (try clear hb); (try clear hb2); (try clear hk); (try clear hi)) | (go_at_call 76; (with_reducible refine (spec_l1In.calls a2 0 1000000000000 true _ A9.out).mono ?_); rintro e w' ⟨rfl, ⟨nd, rfl⟩⟩; have hcz16_0 := bc_ BK629.out 0 (.int .i64 a0_0) rfl; have hcz16_1 := bc_ BK629.out 1 (.int .i64 a0_1) rfl; have hcz16_2 := bc_ BK629.out 2 (.slice A0_2 l0_2.length c0_2) rfl; have hfz16_0 := blk_frozen BK629.out 0; have hfz16_1 := blk_frozen BK629.out 1; have hfz16_2 := blk_frozen BK629.out 2) | (go_at_call 91; (with_reducible refine (spec_RoundOf.calls k a0_0 a0_1 _ _ l0_2 t633 _ ?side1 ?side2 A11.out).mono ?_); (case side1 => repeat (first | exact (Kd.C_below HR0_2.out (hb2_ HB.out GE629.out GE630.out)) | (with_reducible refine Kd.C_alloc ?_ _) | (with_reducible refine Kd.C_drewN ?_ _) | (with_reducible refine Kd.C_drew ?_))); (case side2 => exact HC0_2.out); rintro e w17 ⟨rfl, hb⟩; have n0_ := Aside0.mk (bb_ BK629.out hb); have n1_ := Aside0.mk (bb_ BK630.out hb); have n2_ := Aside0.mk (below_step (hb2_ HB.out GE629.out GE630.out) hb); clear BK629; clear BK630; clear HB; have BK629 := n0_; have BK630 := n1_; have HB := n2_; clear n0_ n1_ n2_; (try clear hb); (try clear hb2); (try clear hk); (try clear hi)))
          go_meet
          case rel => exact ⟨_, (decide (a2 > (wrap64 (Int.tdiv (1000000000000 : Int) t633)))), (by first | rfl | (simp; done) | (simp [*]; done)), H', ⟨by first | omega | exact Nat.le_refl _⟩, ⟨bk_ BK629.out⟩, ⟨bk_ BK630.out⟩, ⟨hb2_ HB.out GE629.out GE630.out⟩⟩
      · replace c10 := Bool.eq_false_iff.mpr c10
        subst c10
        have H1 : (spec_Occurrence.j0 k a1 a2 true a0_0 a0_1 l0_2) = some (r1, r2, r3) := by rw [if_neg (show ¬ (false = true) by decide)] at H; exact H
        clear H
        have H := H1
        clear H1
        have H' := Aside0.mk H
        clear H
        have hnb18 := NB629_630.out
        have hnc18 := NB630_629.out
        have hcz19_0 := bc_ BK629.out 0 (.int .i64 a0_0) rfl
        have hcz19_1 := bc_ BK629.out 1 (.int .i64 a0_1) rfl
        have hcz19_2 := bc_ BK629.out 2 (.slice A0_2 l0_2.length c0_2) rfl
        have hfz19_0 := blk_frozen BK629.out 0
        have hfz19_1 := blk_frozen BK629.out 1
        have hfz19_2 := blk_frozen BK629.out 2
        go_wp2_with (first | ((with_reducible refine gate_callee (f := 101) rfl ?_); refine goesL_ (some 11) rfl rfl Try.func101 (by kernel_rfl) rfl #[.agg #[.int .i64 a0_0, .int .i64 a0_1, .slice A0_2 l0_2.length c0_2], .int .i64 a1] rfl arr_ ?_; (with_reducible refine (spec_l13Slot.calls k a0_0 a0_1 _ _ l0_2 a1 true _ ?side1 ?side2 A7.out).mono ?_); (case side1 => exact kc_ (Kd.C_below HR0_2.out HB.out)); (case side2 => exact HC0_2.out); rintro e w20 ⟨rfl, hb⟩; refine ⟨_, rfl, ?_⟩; have n0_ := Aside0.mk (bb_ BK629.out hb); have n1_ := Aside0.mk (bb_ BK630.out hb); have n2_ := Aside0.mk (below_step (hb2_ HB.out GE629.out GE630.out) hb); clear BK629; clear BK630; clear HB; have BK629 := n0_; have BK630 := n1_; have HB := n2_; clear n0_ n1_ n2_; (try clear hb); (try clear hb2); (try clear hk); (try clear hi)) | (go_at_call 76; (with_reducible refine (spec_l1In.calls a2 0 1000000000000 false _ A9.out).mono ?_); rintro e w' ⟨rfl, ⟨nd, rfl⟩⟩))
        go_meet
        case rel => exact ⟨_, (true), (by first | rfl | (simp; done) | (simp [*]; done)), H', ⟨by first | omega | exact Nat.le_refl _⟩, ⟨bk_ BK629.out⟩, ⟨bk_ BK630.out⟩, ⟨hb2_ HB.out GE629.out GE630.out⟩⟩
    · replace c8 := Bool.eq_false_iff.mpr c8
      subst c8
      have H1 : (spec_Occurrence.j0 k a1 a2 true a0_0 a0_1 l0_2) = some (r1, r2, r3) := by rw [if_neg (show ¬ (false = true) by decide)] at H; exact H
      clear H
      have H := H1
      clear H1
      have H' := Aside0.mk H
      clear H
      have hnb21 := NB629_630.out
      have hnc21 := NB630_629.out
      have hcz22_0 := bc_ BK629.out 0 (.int .i64 a0_0) rfl
      have hcz22_1 := bc_ BK629.out 1 (.int .i64 a0_1) rfl
      have hcz22_2 := bc_ BK629.out 2 (.slice A0_2 l0_2.length c0_2) rfl
      have hfz22_0 := blk_frozen BK629.out 0
      have hfz22_1 := blk_frozen BK629.out 1
      have hfz22_2 := blk_frozen BK629.out 2
      go_wp2_with (first | ((with_reducible refine gate_callee (f := 101) rfl ?_); refine goesL_ (some 11) rfl rfl Try.func101 (by kernel_rfl) rfl #[.agg #[.int .i64 a0_0, .int .i64 a0_1, .slice A0_2 l0_2.length c0_2], .int .i64 a1] rfl arr_ ?_; (with_reducible refine (spec_l13Slot.calls k a0_0 a0_1 _ _ l0_2 a1 false _ ?side1 ?side2 A7.out).mono ?_); (case side1 => exact kc_ (Kd.C_below HR0_2.out HB.out)); (case side2 => exact HC0_2.out); rintro e w23 ⟨rfl, hb⟩; refine ⟨_, rfl, ?_⟩; have n0_ := Aside0.mk (bb_ BK629.out hb); have n1_ := Aside0.mk (bb_ BK630.out hb); have n2_ := Aside0.mk (below_step (hb2_ HB.out GE629.out GE630.out) hb); clear BK629; clear BK630; clear HB; have BK629 := n0_; have BK630 := n1_; have HB := n2_; clear n0_ n1_ n2_; (try clear hb); (try clear hb2); (try clear hk); (try clear hi)))
      go_meet
      case rel => exact ⟨_, (true), (by first | rfl | (simp; done) | (simp [*]; done)), H', ⟨by first | omega | exact Nat.le_refl _⟩, ⟨bk_ BK629.out⟩, ⟨bk_ BK630.out⟩, ⟨hb2_ HB.out GE629.out GE630.out⟩⟩
  case rest =>
    clear HC4
    try clear c1
    try clear c2
    try clear p2
    try clear p6
    try clear c8
    try clear c9
    try clear c10
    try clear c12
    try clear c12b0
    try clear c12b1
    try clear c13
    try clear c18
    try clear c21
    try clear hcz14_0
    try clear hcz14_1
    try clear hcz14_2
    try clear hcz16_0
    try clear hcz16_1
    try clear hcz16_2
    try clear hcz19_0
    try clear hcz19_1
    try clear hcz19_2
    try clear hcz22_0
    try clear hcz22_1
    try clear hcz22_2
    try clear hfz14_0
    try clear hfz14_1
    try clear hfz14_2
    try clear hfz16_0
    try clear hfz16_1
    try clear hfz16_2
    try clear hfz19_0
    try clear hfz19_1
    try clear hfz19_2
    try clear hfz22_0
    try clear hfz22_1
    try clear hfz22_2
    obtain ⟨kq, x24_3, rfl, HA, HJ3, BK629, BK630, HB⟩ := hcut
    cases kq with
    | zero => exact absurd HA.out (by simp [spec_Occurrence.j0])
    | succ kj3 =>
      have H := HA.out
      clear HA
      simp only [spec_Occurrence.j0] at H
      by_cases c24 : x24_3 = true
      · subst c24
        have H1 : (some (0, 0, false)) = some (r1, r2, r3) := by rw [if_pos rfl] at H; exact H
        clear H
        have H := H1
        clear H1
        simp only [Option.some.injEq, Prod.mk.injEq] at H
        obtain ⟨rfl, rfl, rfl⟩ := H
        have hnb25 := NB630_629.out
        have hnc25 := NB629_630.out
        have hcz26_0 := bc_ BK630.out 0 (.int .i64 0) rfl
        have hcz26_1 := bc_ BK630.out 1 (.int .i64 0) rfl
        have hfz26_0 := blk_frozen BK630.out 0
        have hfz26_1 := blk_frozen BK630.out 1
        go_wp2
        refine bodyPost_ret (results_ct rfl _ _ gb630 43 #[.int .i64 0, .int .i64 0] (0, 0) _ rfl (by (with_reducible repeat (first | refine blk_drewN ?_ _ | refine blk_drew ?_ | refine blk_alloc ?_ _)); refine blk_put (cs := #[.int .i64 0, .int .i64 0]) ?_ 1 _ rfl; (with_reducible repeat (first | refine blk_drewN ?_ _ | refine blk_drew ?_ | refine blk_alloc ?_ _)); refine blk_put (cs := #[.int .i64 0, .int .i64 0]) ?_ 0 _ rfl; (with_reducible repeat (first | refine blk_drewN ?_ _ | refine blk_drew ?_ | refine blk_alloc ?_ _)); exact BK630.out) Try.underlying43 rfl (by kernel_rfl)) rfl ?_
        exact ⟨er_, hb2_ HB.out GE629.out GE630.out⟩
      · replace c24 := Bool.eq_false_iff.mpr c24
        subst c24
        have H1 : ((spec_RoundOf.f kj3 a0_0 a0_1 l0_2).bind fun t634 => ((spec_l13Upto.f kj3 a0_0 a0_1 l0_2 a1).bind fun t635 => (if 0 ≤ a1 then (if a1 < (l0_2.length : Int) then ((spec_l1Told.f (wrap64 ((wrap64 (a0_0 + (wrap64 (a2 * t634)))) + t635)) (wrap64 ((wrap64 ((wrap64 (a0_0 + (wrap64 (a2 * t634)))) + t635)) + ((rd_T90 l0_2 a1).f1)))).bind fun bt637 => (some (bt637.1, bt637.2.1, bt637.2.2))) else (none)) else (none)))) = some (r1, r2, r3) := by rw [if_neg (show ¬ (false = true) by decide)] at H; exact H
        clear H
        have H := H1
        clear H1
        replace H := Option.bind_eq_some_iff.mp H
        obtain ⟨t634, A270, H⟩ := H
        replace H : ((spec_l13Upto.f kj3 a0_0 a0_1 l0_2 a1).bind fun t635 => (if 0 ≤ a1 then (if a1 < (l0_2.length : Int) then ((spec_l1Told.f (wrap64 ((wrap64 (a0_0 + (wrap64 (a2 * t634)))) + t635)) (wrap64 ((wrap64 ((wrap64 (a0_0 + (wrap64 (a2 * t634)))) + t635)) + ((rd_T90 l0_2 a1).f1)))).bind fun bt637 => (some (bt637.1, bt637.2.1, bt637.2.2))) else (none)) else (none))) = some (r1, r2, r3) := H
        have A27 := Aside0.mk A270
        clear A270
        replace H := Option.bind_eq_some_iff.mp H
        obtain ⟨t635, A280, H⟩ := H
        replace H : (if 0 ≤ a1 then (if a1 < (l0_2.length : Int) then ((spec_l1Told.f (wrap64 ((wrap64 (a0_0 + (wrap64 (a2 * t634)))) + t635)) (wrap64 ((wrap64 ((wrap64 (a0_0 + (wrap64 (a2 * t634)))) + t635)) + ((rd_T90 l0_2 a1).f1)))).bind fun bt637 => (some (bt637.1, bt637.2.1, bt637.2.2))) else (none)) else (none)) = some (r1, r2, r3) := H
        have A28 := Aside0.mk A280
        clear A280
        by_cases c29 : 0 ≤ a1
        · rw [if_pos c29] at H
          have c29b0 : decide (0 ≤ a1) = true := decide_eq_true c29
          clear c29
          by_cases c30 : a1 < (l0_2.length : Int)
          · rw [if_pos c30] at H
            have c30b0 : decide (a1 < (l0_2.length : Int)) = true := decide_eq_true c30
            clear c30
            replace H := Option.bind_eq_some_iff.mp H
            obtain ⟨⟨t637, t638, t639⟩, A310, H⟩ := H
            replace H : (some (t637, t638, t639)) = some (r1, r2, r3) := H
            have A31 := Aside0.mk A310
            clear A310
            simp only [Option.some.injEq, Prod.mk.injEq] at H
            obtain ⟨rfl, rfl, rfl⟩ := H
            try go_wp2
            have n0_ := Aside0.mk (blk_drew BK629.out)
            have n1_ := Aside0.mk (blk_drew BK630.out)
            have n2_ := Aside0.mk (below_drew1 HB.out)
            clear BK629
            clear BK630
            clear HB
            have BK629 := n0_
            have BK630 := n1_
            have HB := n2_
            clear n0_ n1_ n2_
            refine start_ (n := 12) (S := fun w' => w'.cell? ⟨gb629, 0, none⟩ = some (.int .i64 a0_0) ∧ w'.cell? ⟨gb629, 1, none⟩ = some (.int .i64 a0_1) ∧ w'.cell? ⟨gb629, 2, none⟩ = some (.slice A0_2 l0_2.length c0_2)) (ds := []) #[false, false, false, false, false, false, false, false, false, false, false, false] (by kernel_rfl) rfl rfl ⟨(blk_cell BK629.out 0).trans rfl, (blk_cell BK629.out 1).trans rfl, (blk_cell BK629.out 2).trans rfl⟩ (fun hHeld => ?_); refine with_tabW spec_Occurrence.tab3 spec_Occurrence.bits3 (fun HT_ HW_ => ?_)
            generalize wc.drew = w32 at BK629 BK630 HB hHeld ⊢
            refine pure_ (i := 0) (N := some 26) (v := ?_) (a' := ?_) #[true, false, false, false, false, false, false, false, false, false, false, false] rfl rfl (any_of HT_.out (by kernel_rfl)) (fun _ _ _ h => h) (Or.inl ⟨by rfl, ?_⟩) ?_ ?_
            rotate_left
            · intro w'
              go_simp
              with_reducible rfl
            rotate_left
            · simp only [Act.put, List.setIfInBounds_toArray, List.set_cons_zero, List.set_cons_succ, i64_w, i32_w]
              rfl
            refine pure_ (i := 2) (N := some 28) (v := ?_) (a' := ?_) #[true, false, true, false, false, false, false, false, false, false, false, false] rfl rfl (any_of HT_.out (by kernel_rfl)) (fun _ _ _ h => h) (Or.inl ⟨by rfl, ?_⟩) ?_ ?_
            rotate_left
            · intro w'
              go_simp
              with_reducible rfl
            rotate_left
            · simp only [Act.put, List.setIfInBounds_toArray, List.set_cons_zero, List.set_cons_succ, i64_w, i32_w]
              rfl
            refine pure_ (i := 8) (N := some 34) (v := ?_) (a' := ?_) #[true, false, true, false, false, false, false, false, true, false, false, false] rfl rfl (any_of HT_.out (by kernel_rfl)) (fun _ _ _ h => h) (Or.inl ⟨by rfl, ?_⟩) ?_ ?_
            rotate_left
            · intro w'
              go_simp
              with_reducible rfl
            rotate_left
            · simp only [Act.put, List.setIfInBounds_toArray, List.set_cons_zero, List.set_cons_succ, i64_w, i32_w]
              rfl
            refine take_ (i := 1) (N := some 27) (v := ?_) (a' := ?_) #[true, true, true, false, false, false, false, false, true, false, false, false] rfl rfl (take_ofW HT_.out HW_.out (by kernel_rfl)) (fun _ _ _ h => h) (Or.inl ⟨by rfl, ?_⟩) hHeld ?_ ?_
            rotate_left
            · rintro w' ⟨s0, s1, s2⟩
              go_simp
              with_reducible rfl
            rotate_left
            · simp only [Act.put, List.setIfInBounds_toArray, List.set_cons_zero, List.set_cons_succ, i64_w, i32_w]
              rfl
            refine take_ (i := 3) (N := some 29) (v := ?_) (a' := ?_) #[true, true, true, true, false, false, false, false, true, false, false, false] rfl rfl (take_ofW HT_.out HW_.out (by kernel_rfl)) (fun _ _ _ h => h) (Or.inl ⟨by rfl, ?_⟩) hHeld ?_ ?_
            rotate_left
            · rintro w' ⟨s0, s1, s2⟩
              go_simp
              with_reducible rfl
            rotate_left
            · simp only [Act.put, List.setIfInBounds_toArray, List.set_cons_zero, List.set_cons_succ, i64_w, i32_w]
              rfl
            refine take_ (i := 7) (N := some 33) (v := ?_) (a' := ?_) #[true, true, true, true, false, false, false, true, true, false, false, false] rfl rfl (take_ofW HT_.out HW_.out (by kernel_rfl)) (fun _ _ _ h => h) (Or.inl ⟨by rfl, ?_⟩) hHeld ?_ ?_
            rotate_left
            · rintro w' ⟨s0, s1, s2⟩
              go_simp
              with_reducible rfl
            rotate_left
            · simp only [Act.put, List.setIfInBounds_toArray, List.set_cons_zero, List.set_cons_succ, i64_w, i32_w]
              rfl
            refine one_ (i := 4) (N := some 30) #[true, true, true, true, true, false, false, true, true, false, false, false] rfl rfl (one_of HT_.out (by kernel_rfl)) (by decide) (fun K hK => ?_)
            refine goes_ Try.func91 (by kernel_rfl) rfl #[.agg #[.int .i64 a0_0, .int .i64 a0_1, .slice A0_2 l0_2.length c0_2]] (by rfl) rfl rfl arr_ ?_
            with_reducible refine (spec_RoundOf.calls kj3 a0_0 a0_1 _ _ l0_2 t634 _ ?side1 ?side2 A27.out).mono ?_
            (case side1 => exact kc_ (Kd.C_below HR0_2.out HB.out))
            (case side2 => exact HC0_2.out)
            rintro e w33 ⟨rfl, hb⟩
            refine ⟨_, rfl, ?_⟩
            have n0_ := Aside0.mk (bb_ BK629.out hb)
            have n1_ := Aside0.mk (bb_ BK630.out hb)
            have n2_ := Aside0.mk (below_step (hb2_ HB.out GE629.out GE630.out) hb)
            clear BK629
            clear BK630
            clear HB
            have BK629 := n0_
            have BK630 := n1_
            have HB := n2_
            clear n0_ n1_ n2_
            (try clear hb)
            (try clear hb2)
            (try clear hk)
            (try clear hi)
            refine hK.out _ _ ⟨(blk_cell BK629.out 0).trans rfl, (blk_cell BK629.out 1).trans rfl, (blk_cell BK629.out 2).trans rfl⟩ (fun hHeld => ?_)
            clear hK K
            refine norm_ (a' := ?_) ?_ ?_
            rotate_left
            · show Act.put _ (some 30) _ = _
              simp only [Act.put, List.setIfInBounds_toArray, List.set_cons_zero, List.set_cons_succ, i64_w, i32_w]
              rfl
            refine pure_ (i := 5) (N := some 31) (v := ?_) (a' := ?_) #[true, true, true, true, true, true, false, true, true, false, false, false] rfl rfl (any_of HT_.out (by kernel_rfl)) (fun _ _ _ h => h) (Or.inl ⟨by rfl, ?_⟩) ?_ ?_
            rotate_left
            · intro w'
              go_simp
              with_reducible rfl
            rotate_left
            · simp only [Act.put, List.setIfInBounds_toArray, List.set_cons_zero, List.set_cons_succ, i64_w, i32_w]
              rfl
            refine pure_ (i := 6) (N := some 32) (v := ?_) (a' := ?_) #[true, true, true, true, true, true, true, true, true, false, false, false] rfl rfl (any_of HT_.out (by kernel_rfl)) (fun _ _ _ h => h) (Or.inl ⟨by rfl, ?_⟩) ?_ ?_
            rotate_left
            · intro w'
              go_simp
              with_reducible rfl
            rotate_left
            · simp only [Act.put, List.setIfInBounds_toArray, List.set_cons_zero, List.set_cons_succ, i64_w, i32_w]
              rfl
            refine one_ (i := 9) (N := some 35) #[true, true, true, true, true, true, true, true, true, true, false, false] rfl rfl (one_of HT_.out (by kernel_rfl)) (by decide) (fun K hK => ?_)
            refine goes_ Try.func100 (by kernel_rfl) rfl #[.agg #[.int .i64 a0_0, .int .i64 a0_1, .slice A0_2 l0_2.length c0_2], .int .i64 a1] (by rfl) rfl rfl arr_ ?_
            with_reducible refine (spec_l13Upto.calls kj3 a0_0 a0_1 _ _ l0_2 a1 t635 _ ?side1 ?side2 A28.out).mono ?_
            (case side1 => exact kc_ (Kd.C_below HR0_2.out HB.out))
            (case side2 => exact HC0_2.out)
            rintro e w34 ⟨rfl, hb⟩
            refine ⟨_, rfl, ?_⟩
            have n0_ := Aside0.mk (bb_ BK629.out hb)
            have n1_ := Aside0.mk (bb_ BK630.out hb)
            have n2_ := Aside0.mk (below_step (hb2_ HB.out GE629.out GE630.out) hb)
            clear BK629
            clear BK630
            clear HB
            have BK629 := n0_
            have BK630 := n1_
            have HB := n2_
            clear n0_ n1_ n2_
            (try clear hb)
            (try clear hb2)
            (try clear hk)
            (try clear hi)
            refine hK.out _ _ ⟨(blk_cell BK629.out 0).trans rfl, (blk_cell BK629.out 1).trans rfl, (blk_cell BK629.out 2).trans rfl⟩ (fun hHeld => ?_)
            clear hK K
            refine norm_ (a' := ?_) ?_ ?_
            rotate_left
            · show Act.put _ (some 35) _ = _
              simp only [Act.put, List.setIfInBounds_toArray, List.set_cons_zero, List.set_cons_succ, i64_w, i32_w]
              rfl
            refine pure_ (i := 10) (N := some 36) (v := ?_) (a' := ?_) #[true, true, true, true, true, true, true, true, true, true, true, false] rfl rfl (any_of HT_.out (by kernel_rfl)) (fun _ _ _ h => h) (Or.inl ⟨by rfl, ?_⟩) ?_ ?_
            rotate_left
            · intro w'
              go_simp
              with_reducible rfl
            rotate_left
            · simp only [Act.put, List.setIfInBounds_toArray, List.set_cons_zero, List.set_cons_succ, i64_w, i32_w]
              rfl
            refine pure_ (i := 11) (N := some 8) (v := ?_) (a' := ?_) #[true, true, true, true, true, true, true, true, true, true, true, true] rfl rfl (any_of HT_.out (by kernel_rfl)) (fun _ _ _ h => h) (Or.inl ⟨by rfl, ?_⟩) ?_ ?_
            rotate_left
            · intro w'
              go_simp
              with_reducible rfl
            rotate_left
            · simp only [Act.put, List.setIfInBounds_toArray, List.set_cons_zero, List.set_cons_succ, i64_w, i32_w]
              rfl
            refine done_ (done_of HT_.out (by kernel_rfl)) ?_
            have hnb35 := NB629_630.out
            have hnc35 := NB630_629.out
            have hcz36_0 := bc_ BK629.out 0 (.int .i64 a0_0) rfl
            have hcz36_1 := bc_ BK629.out 1 (.int .i64 a0_1) rfl
            have hcz36_2 := bc_ BK629.out 2 (.slice A0_2 l0_2.length c0_2) rfl
            have hfz36_0 := blk_frozen BK629.out 0
            have hfz36_1 := blk_frozen BK629.out 1
            have hfz36_2 := blk_frozen BK629.out 2
            have p636 : 0 ≤ (a1 : Int) := of_decide_eq_true (by first | (with_reducible assumption) | assumption)
            have q636 : a1 < (l0_2.length : Int) := of_decide_eq_true (by first | (with_reducible assumption) | assumption)
            obtain ⟨ad636, e636, hx636_0, hx636_1⟩ := at_T90 HR0_2.out a1 p636 q636
            cases e636
            replace hx636_0 := (HB.out.cell (World.block_lt_of_cell? w _ hx636_0)).trans hx636_0
            replace hx636_1 := (HB.out.cell (World.block_lt_of_cell? w _ hx636_1)).trans hx636_1
            replace p636 := eq_true p636
            replace q636 := eq_true q636
            try go_wp2_with (first | ((with_reducible refine gate_callee (f := 102) rfl ?_); refine goesL_ (some 46) rfl rfl Try.func102 (by kernel_rfl) rfl #[.int .i64 (wrap64 ((wrap64 (a0_0 + (wrap64 (a2 * t634)))) + t635)), .int .i64 (wrap64 ((wrap64 ((wrap64 (a0_0 + (wrap64 (a2 * t634)))) + t635)) + ((rd_T90 l0_2 a1).f1)))] rfl arr_ ?_; (with_reducible refine (spec_l1Told.calls (wrap64 ((wrap64 (a0_0 + (wrap64 (a2 * t634)))) + t635)) (wrap64 ((wrap64 ((wrap64 (a0_0 + (wrap64 (a2 * t634)))) + t635)) + ((rd_T90 l0_2 a1).f1))) t637 t638 t639 _ A31.out).mono ?_); rintro e w37 ⟨rfl, hb⟩; refine ⟨_, rfl, ?_⟩; have n0_ := Aside0.mk (bb_ BK629.out hb); have n1_ := Aside0.mk (bb_ BK630.out hb); have n2_ := Aside0.mk (below_step (hb2_ HB.out GE629.out GE630.out) hb); clear BK629; clear BK630; clear HB; have BK629 := n0_; have BK630 := n1_; have HB := n2_; clear n0_ n1_ n2_; (try clear hb); (try clear hb2); (try clear hk); (try clear hi); have hcz38_0 := bc_ BK630.out 0 (.int .i64 0) rfl; have hcz38_1 := bc_ BK630.out 1 (.int .i64 0) rfl; have hfz38_0 := blk_frozen BK630.out 0; have hfz38_1 := blk_frozen BK630.out 1))
            refine bodyPost_ret (results_ct rfl _ _ gb630 43 #[.int .i64 t637, .int .i64 t638] (0, 0) _ rfl (by (with_reducible repeat (first | refine blk_drewN ?_ _ | refine blk_drew ?_ | refine blk_alloc ?_ _)); refine blk_put (cs := #[.int .i64 t637, .int .i64 0]) ?_ 1 _ rfl; (with_reducible repeat (first | refine blk_drewN ?_ _ | refine blk_drew ?_ | refine blk_alloc ?_ _)); refine blk_put (cs := #[.int .i64 0, .int .i64 0]) ?_ 0 _ rfl; (with_reducible repeat (first | refine blk_drewN ?_ _ | refine blk_drew ?_ | refine blk_alloc ?_ _)); exact BK630.out) Try.underlying43 rfl (by kernel_rfl)) rfl ?_
            exact ⟨er_, hb2_ HB.out GE629.out GE630.out⟩
          · rw [if_neg c30] at H
            exact absurd H (by simp)
        · rw [if_neg c29] at H
          exact absurd H (by simp)
end Go.Proofs.Ytjlmfnpgcmmdnaa.P
namespace Go.Proofs.Ytjlmfnpgcmmdnaa.P
open Go.RowKit Go.Proofs.YtjlmfnpgcmmdnaaW.PrintWords Go.Proofs.YtjlmfnpgcmmdnaaW.PrintLast Go.Proofs.YtjlmfnpgcmmdnaaW.PrintMore
attribute [local go_sem] max2_int min2_int max_two min_two max_three min_three max_four min_four
set_option linter.unusedVariables false
set_option linter.unusedSimpArgs false
mutual
def spec_SlotAt.j0 : Nat → Int → Bool → Int → Int → List (S90) → Option (Int × Int × Bool)
  | 0, _, _, _, _, _ => none
  | k + 1, x1, x24, x641000, x641001, x641002 => if x24 = true then (some (0, 0, false)) else ((spec_RoundOf.f k x641000 x641001 x641002).bind fun t643 => (if t643 = 0 then (none) else (spec_SlotAt.l0 k x1 (wrap64 (Int.tdiv (wrap64 (x1 - x641000)) t643)) 0 x641000 x641001 x641002)))
def spec_SlotAt.l0 : Nat → Int → Int → Int → Int → Int → List (S90) → Option (Int × Int × Bool)
  | 0, _, _, _, _, _, _ => none
  | k + 1, x1, x7, x8, x641000, x641001, x641002 => if x8 < (x641002.length : Int) then ((spec_Occurrence.f k x641000 x641001 x641002 x8 x7).bind fun bt644 => (if bt644.2.2 = true then (if bt644.1 ≤ x1 then (if x1 < bt644.2.1 then (some (x8, x7, true)) else (spec_SlotAt.l0 k x1 x7 (wrap64 (x8 + 1)) x641000 x641001 x641002)) else (spec_SlotAt.l0 k x1 x7 (wrap64 (x8 + 1)) x641000 x641001 x641002)) else (spec_SlotAt.l0 k x1 x7 (wrap64 (x8 + 1)) x641000 x641001 x641002))) else (some (0, 0, false))
end
def spec_SlotAt.f (k : Nat) (a0_0 : Int) (a0_1 : Int) (l0_2 : List (S90)) (a1 : Int) : Option (Int × Int × Bool) := (spec_PlanOk.f k a0_0 a0_1 l0_2).bind fun t641 => (if t641 = true then ((spec_l2Time.f a1).bind fun t642 => (if t642 = true then (spec_SlotAt.j0 k a1 (decide (a1 < a0_0)) a0_0 a0_1 l0_2) else (spec_SlotAt.j0 k a1 true a0_0 a0_1 l0_2))) else (spec_SlotAt.j0 k a1 true a0_0 a0_1 l0_2))
def spec_SlotAt.T3 : Bool × List (List Nat × List Nat) := (true, [([], []), ([], []), ([1], [1]), ([0, 2], [0, 2]), ([], []), ([4], [4]), ([3, 5], [3, 5]), ([6, 5, 0, 1, 2, 3, 4, 5, 6], [6])])
def spec_SlotAt.B3 : List Nat := [0, 0, 2, 7, 0, 16, 63, 127]
theorem spec_SlotAt.tab3 : rtab .any (opsOf Try.f69 3) = spec_SlotAt.T3 := by kernel_rfl
theorem spec_SlotAt.bits3 : waitsOk spec_SlotAt.T3.2 spec_SlotAt.B3 = true := by kernel_rfl
set_option maxHeartbeats 8000000 in
set_option maxRecDepth 100000 in
theorem spec_SlotAt.calls (k : Nat) (a0_0 : Int) (a0_1 : Int) (A0_2 : Option Addr) (c0_2 : Nat) (l0_2 : List (S90)) (a1 : Int) (r1 : Int) (r2 : Int) (r3 : Bool) (w : World) (hr0_2 : Kd.C k90 w A0_2 l0_2.length l0_2) (hc0_2 : l0_2.length ≤ c0_2) (h : spec_SlotAt.f k a0_0 a0_1 l0_2 a1 = some (r1, r2, r3)) :
    Calls Try.prog 69 #[.agg #[.int .i64 a0_0, .int .i64 a0_1, .slice A0_2 l0_2.length c0_2], .int .i64 a1] w fun e w' => e = .returned (.tuple #[.int .i64 r1, .int .i64 r2, .bool r3]) ∧ Below w.heap.size w w' := by
  have hu59 := Try.underlying59
  have hu43 := Try.underlying43
  have HR0_2 := Aside0.mk hr0_2
  have HC0_2 := Aside0.mk hc0_2
  clear hr0_2 hc0_2
  have HB := Aside0.mk (Below.refl w.heap.size w)
  have H : ((spec_PlanOk.f k a0_0 a0_1 l0_2).bind fun t641 => (if t641 = true then ((spec_l2Time.f a1).bind fun t642 => (if t642 = true then (spec_SlotAt.j0 k a1 (decide (a1 < a0_0)) a0_0 a0_1 l0_2) else (spec_SlotAt.j0 k a1 true a0_0 a0_1 l0_2))) else (spec_SlotAt.j0 k a1 true a0_0 a0_1 l0_2))) = some (r1, r2, r3) := h
  clear h
  have HC3 := Aside0.mk H
  clear H
  go_enter Try.func69, Try.ntmps69
  go_upto_region 1 with (first | ((with_reducible refine gate_dst (N := 2) rfl ?_); refine box_event ?hg (N := 2) ?hd (cs := #[.int .i64 a0_0, .int .i64 a0_1, .slice A0_2 l0_2.length c0_2]) (t := 59) ?hr ?_; (case hd => rfl); (case hg => rfl); (case hr => first | (go_simp; done) | (go_simp; rfl)); intro gb640 hg w4 hbox hb; have n0_ := Aside0.mk (below_step (hb_ HB.out) hb); have n1_ := Aside0.mk (hbox); have n2_ := Aside0.mk ((by rw [hg]; exact (below_size (hb_ HB.out)) : w.heap.size ≤ gb640)); have n3_ := Aside0.mk ((by rw [hg]; exact (below_size (hb_ HB.out)) : w.heap.size ≤ gb640)); clear HB; have HB := n0_; have BK640 := n1_; have GW640 := n2_; have GE640 := n3_; clear n0_ n1_ n2_ n3_; clear hb hbox hg))
  (try simp only [Act.put, List.setIfInBounds_toArray, List.set_cons_zero, List.set_cons_succ])
  go_cut [24] (fun v24 wc => ∃ (kq : Nat) (x24_2 : Bool), v24 = .bool x24_2 ∧ Aside0 (spec_SlotAt.j0 kq a1 x24_2 a0_0 a0_1 l0_2 = some (r1, r2, r3)) ∧ Aside0 (kq ≤ k) ∧ Aside0 (wc.heap[gb640]? = some (.cells #[.int .i64 a0_0, .int .i64 a0_1, (.slice A0_2 l0_2.length c0_2)] 59 (0, 0))) ∧ Aside0 (Below w.heap.size w wc))
  case first =>
    have H := HC3.out
    clear HC3
    replace H := Option.bind_eq_some_iff.mp H
    obtain ⟨t641, A50, H⟩ := H
    replace H : (if t641 = true then ((spec_l2Time.f a1).bind fun t642 => (if t642 = true then (spec_SlotAt.j0 k a1 (decide (a1 < a0_0)) a0_0 a0_1 l0_2) else (spec_SlotAt.j0 k a1 true a0_0 a0_1 l0_2))) else (spec_SlotAt.j0 k a1 true a0_0 a0_1 l0_2)) = some (r1, r2, r3) := H
    have A5 := Aside0.mk A50
    clear A50
    by_cases c6 : t641 = true
    · subst c6
      have H1 : ((spec_l2Time.f a1).bind fun t642 => (if t642 = true then (spec_SlotAt.j0 k a1 (decide (a1 < a0_0)) a0_0 a0_1 l0_2) else (spec_SlotAt.j0 k a1 true a0_0 a0_1 l0_2))) = some (r1, r2, r3) := by rw [if_pos rfl] at H; exact H
      clear H
      have H := H1
      clear H1
      replace H := Option.bind_eq_some_iff.mp H
      obtain ⟨t642, A70, H⟩ := H
      replace H : (if t642 = true then (spec_SlotAt.j0 k a1 (decide (a1 < a0_0)) a0_0 a0_1 l0_2) else (spec_SlotAt.j0 k a1 true a0_0 a0_1 l0_2)) = some (r1, r2, r3) := H
      have A7 := Aside0.mk A70
      clear A70
      by_cases c8 : t642 = true
      · subst c8
        have H1 : (spec_SlotAt.j0 k a1 (decide (a1 < a0_0)) a0_0 a0_1 l0_2) = some (r1, r2, r3) := by rw [if_pos rfl] at H; exact H
        clear H
        have H := H1
        clear H1
        have H' := Aside0.mk H
        clear H
        have hcz9_0 := bc_ BK640.out 0 (.int .i64 a0_0) rfl
        have hcz9_1 := bc_ BK640.out 1 (.int .i64 a0_1) rfl
        have hcz9_2 := bc_ BK640.out 2 (.slice A0_2 l0_2.length c0_2) rfl
        have hfz9_0 := blk_frozen BK640.out 0
        have hfz9_1 := blk_frozen BK640.out 1
        have hfz9_2 := blk_frozen BK640.out 2
        go_wp2_with (first | ((with_reducible refine gate_callee (f := 40) rfl ?_); refine goesL_ (some 12) rfl rfl Try.func40 (by kernel_rfl) rfl #[.agg #[.int .i64 a0_0, .int .i64 a0_1, .slice A0_2 l0_2.length c0_2]] rfl arr_ ?_; (with_reducible refine (spec_PlanOk.calls k a0_0 a0_1 _ _ l0_2 true _ ?side1 ?side2 A5.out).mono ?_); (case side1 => exact kc_ (Kd.C_below HR0_2.out HB.out)); (case side2 => exact HC0_2.out); rintro e w10 ⟨rfl, hb⟩; refine ⟨_, rfl, ?_⟩; have n0_ := Aside0.mk (bb_ BK640.out hb); have n1_ := Aside0.mk (below_step (hb1_ HB.out GE640.out) hb); clear BK640; clear HB; have BK640 := n0_; have HB := n1_; clear n0_ n1_; (try clear hb); (try clear hb2); (try clear hk); (try clear hi)) | (go_at_call 75; (with_reducible refine (spec_l2Time.calls a1 true _ A7.out).mono ?_); rintro e w' ⟨rfl, ⟨nd, rfl⟩⟩; have hcz11_0 := bc_ BK640.out 0 (.int .i64 a0_0) rfl; have hcz11_1 := bc_ BK640.out 1 (.int .i64 a0_1) rfl; have hcz11_2 := bc_ BK640.out 2 (.slice A0_2 l0_2.length c0_2) rfl; have hfz11_0 := blk_frozen BK640.out 0; have hfz11_1 := blk_frozen BK640.out 1; have hfz11_2 := blk_frozen BK640.out 2))
        go_meet
        case rel => exact ⟨_, (decide (a1 < a0_0)), (by first | rfl | (simp; done) | (simp [*]; done)), H', ⟨by first | omega | exact Nat.le_refl _⟩, ⟨bk_ BK640.out⟩, ⟨hb1_ HB.out GE640.out⟩⟩
      · replace c8 := Bool.eq_false_iff.mpr c8
        subst c8
        have H1 : (spec_SlotAt.j0 k a1 true a0_0 a0_1 l0_2) = some (r1, r2, r3) := by rw [if_neg (show ¬ (false = true) by decide)] at H; exact H
        clear H
        have H := H1
        clear H1
        have H' := Aside0.mk H
        clear H
        have hcz12_0 := bc_ BK640.out 0 (.int .i64 a0_0) rfl
        have hcz12_1 := bc_ BK640.out 1 (.int .i64 a0_1) rfl
        have hcz12_2 := bc_ BK640.out 2 (.slice A0_2 l0_2.length c0_2) rfl
        have hfz12_0 := blk_frozen BK640.out 0
        have hfz12_1 := blk_frozen BK640.out 1
        have hfz12_2 := blk_frozen BK640.out 2
        go_wp2_with (first | ((with_reducible refine gate_callee (f := 40) rfl ?_); refine goesL_ (some 12) rfl rfl Try.func40 (by kernel_rfl) rfl #[.agg #[.int .i64 a0_0, .int .i64 a0_1, .slice A0_2 l0_2.length c0_2]] rfl arr_ ?_; (with_reducible refine (spec_PlanOk.calls k a0_0 a0_1 _ _ l0_2 true _ ?side1 ?side2 A5.out).mono ?_); (case side1 => exact kc_ (Kd.C_below HR0_2.out HB.out)); (case side2 => exact HC0_2.out); rintro e w13 ⟨rfl, hb⟩; refine ⟨_, rfl, ?_⟩; have n0_ := Aside0.mk (bb_ BK640.out hb); have n1_ := Aside0.mk (below_step (hb1_ HB.out GE640.out) hb); clear BK640; clear HB; have BK640 := n0_; have HB := n1_; clear n0_ n1_; (try clear hb); (try clear hb2); (try clear hk); (try clear hi)) | (go_at_call 75; (with_reducible refine (spec_l2Time.calls a1 false _ A7.out).mono ?_); rintro e w' ⟨rfl, ⟨nd, rfl⟩⟩))
        go_meet
        case rel => exact ⟨_, (true), (by first | rfl | (simp; done) | (simp [*]; done)), H', ⟨by first | omega | exact Nat.le_refl _⟩, ⟨bk_ BK640.out⟩, ⟨hb1_ HB.out GE640.out⟩⟩
    · replace c6 := Bool.eq_false_iff.mpr c6
      subst c6
      have H1 : (spec_SlotAt.j0 k a1 true a0_0 a0_1 l0_2) = some (r1, r2, r3) := by rw [if_neg (show ¬ (false = true) by decide)] at H; exact H
      clear H
      have H := H1
      clear H1
      have H' := Aside0.mk H
      clear H
      have hcz14_0 := bc_ BK640.out 0 (.int .i64 a0_0) rfl
      have hcz14_1 := bc_ BK640.out 1 (.int .i64 a0_1) rfl
      have hcz14_2 := bc_ BK640.out 2 (.slice A0_2 l0_2.length c0_2) rfl
      have hfz14_0 := blk_frozen BK640.out 0
      have hfz14_1 := blk_frozen BK640.out 1
      have hfz14_2 := blk_frozen BK640.out 2
      go_wp2_with (first | ((with_reducible refine gate_callee (f := 40) rfl ?_); refine goesL_ (some 12) rfl rfl Try.func40 (by kernel_rfl) rfl #[.agg #[.int .i64 a0_0, .int .i64 a0_1, .slice A0_2 l0_2.length c0_2]] rfl arr_ ?_; (with_reducible refine (spec_PlanOk.calls k a0_0 a0_1 _ _ l0_2 false _ ?side1 ?side2 A5.out).mono ?_); (case side1 => exact kc_ (Kd.C_below HR0_2.out HB.out)); (case side2 => exact HC0_2.out); rintro e w15 ⟨rfl, hb⟩; refine ⟨_, rfl, ?_⟩; have n0_ := Aside0.mk (bb_ BK640.out hb); have n1_ := Aside0.mk (below_step (hb1_ HB.out GE640.out) hb); clear BK640; clear HB; have BK640 := n0_; have HB := n1_; clear n0_ n1_; (try clear hb); (try clear hb2); (try clear hk); (try clear hi)))
      go_meet
      case rel => exact ⟨_, (true), (by first | rfl | (simp; done) | (simp [*]; done)), H', ⟨by first | omega | exact Nat.le_refl _⟩, ⟨bk_ BK640.out⟩, ⟨hb1_ HB.out GE640.out⟩⟩
  case rest =>
    clear HC3
    try clear p2
    try clear c4
    try clear c6
    try clear c8
    try clear hcz11_0
    try clear hcz11_1
    try clear hcz11_2
    try clear hcz12_0
    try clear hcz12_1
    try clear hcz12_2
    try clear hcz14_0
    try clear hcz14_1
    try clear hcz14_2
    try clear hcz9_0
    try clear hcz9_1
    try clear hcz9_2
    try clear hfz11_0
    try clear hfz11_1
    try clear hfz11_2
    try clear hfz12_0
    try clear hfz12_1
    try clear hfz12_2
    try clear hfz14_0
    try clear hfz14_1
    try clear hfz14_2
    try clear hfz9_0
    try clear hfz9_1
    try clear hfz9_2
    obtain ⟨kq, x24_2, rfl, HA, HJ2, BK640, HB⟩ := hcut
    cases kq with
    | zero => exact absurd HA.out (by simp [spec_SlotAt.j0])
    | succ kj2 =>
      have H := HA.out
      clear HA
      simp only [spec_SlotAt.j0] at H
      by_cases c16 : x24_2 = true
      · subst c16
        have H1 : (some (0, 0, false)) = some (r1, r2, r3) := by rw [if_pos rfl] at H; exact H
        clear H
        have H := H1
        clear H1
        simp only [Option.some.injEq, Prod.mk.injEq] at H
        obtain ⟨rfl, rfl, rfl⟩ := H
        go_wp2
        go_ret3
        exact ⟨er_, hb1_ HB.out GE640.out⟩
      · replace c16 := Bool.eq_false_iff.mpr c16
        subst c16
        have H1 : ((spec_RoundOf.f kj2 a0_0 a0_1 l0_2).bind fun t643 => (if t643 = 0 then (none) else (spec_SlotAt.l0 kj2 a1 (wrap64 (Int.tdiv (wrap64 (a1 - a0_0)) t643)) 0 a0_0 a0_1 l0_2))) = some (r1, r2, r3) := by rw [if_neg (show ¬ (false = true) by decide)] at H; exact H
        clear H
        have H := H1
        clear H1
        replace H := Option.bind_eq_some_iff.mp H
        obtain ⟨t643, A170, H⟩ := H
        replace H : (if t643 = 0 then (none) else (spec_SlotAt.l0 kj2 a1 (wrap64 (Int.tdiv (wrap64 (a1 - a0_0)) t643)) 0 a0_0 a0_1 l0_2)) = some (r1, r2, r3) := H
        have A17 := Aside0.mk A170
        clear A170
        by_cases c18 : t643 = 0
        · rw [if_pos c18] at H
          exact absurd H (by simp)
        · rw [if_neg c18] at H
          have c18b0 : (t643 == 0) = false := beq_eq_false_iff_ne.mpr c18
          have c18b1 : (t643 != 0) = true := bne_iff_ne.mpr c18
          have H' := Aside0.mk H
          clear H
          try go_wp2
          have n0_ := Aside0.mk (blk_drew BK640.out)
          have n1_ := Aside0.mk (below_drew1 HB.out)
          clear BK640
          clear HB
          have BK640 := n0_
          have HB := n1_
          clear n0_ n1_
          refine start_ (n := 8) (S := fun w' => w'.cell? ⟨gb640, 0, none⟩ = some (.int .i64 a0_0) ∧ w'.cell? ⟨gb640, 1, none⟩ = some (.int .i64 a0_1) ∧ w'.cell? ⟨gb640, 2, none⟩ = some (.slice A0_2 l0_2.length c0_2)) (ds := []) #[false, false, false, false, false, false, false, false] (by kernel_rfl) rfl rfl ⟨(blk_cell BK640.out 0).trans rfl, (blk_cell BK640.out 1).trans rfl, (blk_cell BK640.out 2).trans rfl⟩ (fun hHeld => ?_); refine with_tabW spec_SlotAt.tab3 spec_SlotAt.bits3 (fun HT_ HW_ => ?_)
          generalize wc.drew = w19 at BK640 HB hHeld ⊢
          refine pure_ (i := 0) (N := some 25) (v := ?_) (a' := ?_) #[true, false, false, false, false, false, false, false] rfl rfl (any_of HT_.out (by kernel_rfl)) (fun _ _ _ h => h) (Or.inl ⟨by rfl, ?_⟩) ?_ ?_
          rotate_left
          · intro w'
            go_simp
            with_reducible rfl
          rotate_left
          · simp only [Act.put, List.setIfInBounds_toArray, List.set_cons_zero, List.set_cons_succ, i64_w, i32_w]
            rfl
          refine pure_ (i := 1) (N := some 26) (v := ?_) (a' := ?_) #[true, true, false, false, false, false, false, false] rfl rfl (any_of HT_.out (by kernel_rfl)) (fun _ _ _ h => h) (Or.inl ⟨by rfl, ?_⟩) ?_ ?_
          rotate_left
          · intro w'
            go_simp
            with_reducible rfl
          rotate_left
          · simp only [Act.put, List.setIfInBounds_toArray, List.set_cons_zero, List.set_cons_succ, i64_w, i32_w]
            rfl
          refine take_ (i := 2) (N := some 27) (v := ?_) (a' := ?_) #[true, true, true, false, false, false, false, false] rfl rfl (take_ofW HT_.out HW_.out (by kernel_rfl)) (fun _ _ _ h => h) (Or.inl ⟨by rfl, ?_⟩) hHeld ?_ ?_
          rotate_left
          · rintro w' ⟨s0, s1, s2⟩
            go_simp
            with_reducible rfl
          rotate_left
          · simp only [Act.put, List.setIfInBounds_toArray, List.set_cons_zero, List.set_cons_succ, i64_w, i32_w]
            rfl
          refine pure_ (i := 3) (N := some 28) (v := ?_) (a' := ?_) #[true, true, true, true, false, false, false, false] rfl rfl (any_of HT_.out (by kernel_rfl)) (fun _ _ _ h => h) (Or.inl ⟨by rfl, ?_⟩) ?_ ?_
          rotate_left
          · intro w'
            go_simp
            with_reducible rfl
          rotate_left
          · simp only [Act.put, List.setIfInBounds_toArray, List.set_cons_zero, List.set_cons_succ, i64_w, i32_w]
            rfl
          refine take_ (i := 4) (N := some 29) (v := ?_) (a' := ?_) #[true, true, true, true, true, false, false, false] rfl rfl (take_ofW HT_.out HW_.out (by kernel_rfl)) (fun _ _ _ h => h) (Or.inl ⟨by rfl, ?_⟩) hHeld ?_ ?_
          rotate_left
          · rintro w' ⟨s0, s1, s2⟩
            go_simp
            with_reducible rfl
          rotate_left
          · simp only [Act.put, List.setIfInBounds_toArray, List.set_cons_zero, List.set_cons_succ, i64_w, i32_w]
            rfl
          refine one_ (i := 5) (N := some 30) #[true, true, true, true, true, true, false, false] rfl rfl (one_of HT_.out (by kernel_rfl)) (by decide) (fun K hK => ?_)
          refine goes_ Try.func91 (by kernel_rfl) rfl #[.agg #[.int .i64 a0_0, .int .i64 a0_1, .slice A0_2 l0_2.length c0_2]] (by rfl) rfl rfl arr_ ?_
          with_reducible refine (spec_RoundOf.calls kj2 a0_0 a0_1 _ _ l0_2 t643 _ ?side1 ?side2 A17.out).mono ?_
          (case side1 => exact kc_ (Kd.C_below HR0_2.out HB.out))
          (case side2 => exact HC0_2.out)
          rintro e w20 ⟨rfl, hb⟩
          refine ⟨_, rfl, ?_⟩
          have n0_ := Aside0.mk (bb_ BK640.out hb)
          have n1_ := Aside0.mk (below_step (hb1_ HB.out GE640.out) hb)
          clear BK640
          clear HB
          have BK640 := n0_
          have HB := n1_
          clear n0_ n1_
          (try clear hb)
          (try clear hb2)
          (try clear hk)
          (try clear hi)
          refine hK.out _ _ ⟨(blk_cell BK640.out 0).trans rfl, (blk_cell BK640.out 1).trans rfl, (blk_cell BK640.out 2).trans rfl⟩ (fun hHeld => ?_)
          clear hK K
          refine norm_ (a' := ?_) ?_ ?_
          rotate_left
          · show Act.put _ (some 30) _ = _
            simp only [Act.put, List.setIfInBounds_toArray, List.set_cons_zero, List.set_cons_succ, i64_w, i32_w]
            rfl
          refine pure_ (i := 6) (N := some 31) (v := ?_) (a' := ?_) #[true, true, true, true, true, true, true, false] rfl rfl (any_of HT_.out (by kernel_rfl)) (fun _ _ _ h => h) (Or.inl ⟨by rfl, ?_⟩) ?_ ?_
          rotate_left
          · intro w'
            go_simp
            with_reducible rfl
          rotate_left
          · simp only [Act.put, List.setIfInBounds_toArray, List.set_cons_zero, List.set_cons_succ, i64_w, i32_w]
            rfl
          refine pure_ (i := 7) (N := some 7) (v := ?_) (a' := ?_) #[true, true, true, true, true, true, true, true] rfl rfl (any_of HT_.out (by kernel_rfl)) (fun _ _ _ h => h) (Or.inl ⟨by rfl, ?_⟩) ?_ ?_
          rotate_left
          · intro w'
            go_simp
            with_reducible rfl
          rotate_left
          · simp only [Act.put, List.setIfInBounds_toArray, List.set_cons_zero, List.set_cons_succ, i64_w, i32_w]
            rfl
          refine done_ (done_of HT_.out (by kernel_rfl)) ?_
          try go_wp2
          go_loopg [8] kj2 (fun kq v8 w' => ∃ (x8_2 : Int), v8 = .int .i64 x8_2 ∧ Aside0 (spec_SlotAt.l0 kq a1 (wrap64 (Int.tdiv (wrap64 (a1 - a0_0)) t643)) x8_2 a0_0 a0_1 l0_2 = some (r1, r2, r3)) ∧ Aside0 (kq ≤ kj2) ∧ Aside0 (w'.heap[gb640]? = some (.cells #[.int .i64 a0_0, .int .i64 a0_1, (.slice A0_2 l0_2.length c0_2)] 59 (0, 0))) ∧ Aside0 (Below w.heap.size w w'))
          case atStart => exact ⟨(0), (by first | rfl | (simp; done) | (simp [*]; done)), H', ⟨Nat.le_refl _⟩, ⟨bk_ BK640.out⟩, ⟨hb1_ HB.out GE640.out⟩⟩
          case round =>
            clear H'
            try clear c1
            try clear p2
            try clear c4
            try clear c6
            try clear p6
            try clear c8
            try clear c9
            try clear c16
            try clear c18
            try clear c18b0
            try clear c18b1
            try clear hcz11_0
            try clear hcz11_1
            try clear hcz11_2
            try clear hcz12_0
            try clear hcz12_1
            try clear hcz12_2
            try clear hcz14_0
            try clear hcz14_1
            try clear hcz14_2
            try clear hcz9_0
            try clear hcz9_1
            try clear hcz9_2
            try clear hfz11_0
            try clear hfz11_1
            try clear hfz11_2
            try clear hfz12_0
            try clear hfz12_1
            try clear hfz12_2
            try clear hfz14_0
            try clear hfz14_1
            try clear hfz14_2
            try clear hfz9_0
            try clear hfz9_1
            try clear hfz9_2
            try clear p2
            obtain ⟨x8_2, rfl, HA, HK2, BK640, HB⟩ := hrel
            cases gk with
            | zero => exact absurd HA.out (by simp [spec_SlotAt.l0])
            | succ k2 =>
              have H := HA.out
              clear HA
              simp only [spec_SlotAt.l0] at H
              by_cases c21 : x8_2 < (l0_2.length : Int)
              · rw [if_pos c21] at H
                have c21b0 : decide (x8_2 < (l0_2.length : Int)) = true := decide_eq_true c21
                clear c21
                replace H := Option.bind_eq_some_iff.mp H
                obtain ⟨⟨t644, t645, t646⟩, A220, H⟩ := H
                replace H : (if t646 = true then (if t644 ≤ a1 then (if a1 < t645 then (some (x8_2, (wrap64 (Int.tdiv (wrap64 (a1 - a0_0)) t643)), true)) else (spec_SlotAt.l0 k2 a1 (wrap64 (Int.tdiv (wrap64 (a1 - a0_0)) t643)) (wrap64 (x8_2 + 1)) a0_0 a0_1 l0_2)) else (spec_SlotAt.l0 k2 a1 (wrap64 (Int.tdiv (wrap64 (a1 - a0_0)) t643)) (wrap64 (x8_2 + 1)) a0_0 a0_1 l0_2)) else (spec_SlotAt.l0 k2 a1 (wrap64 (Int.tdiv (wrap64 (a1 - a0_0)) t643)) (wrap64 (x8_2 + 1)) a0_0 a0_1 l0_2)) = some (r1, r2, r3) := H
                have A22 := Aside0.mk A220
                clear A220
                by_cases c23 : t646 = true
                · subst c23
                  have H1 : (if t644 ≤ a1 then (if a1 < t645 then (some (x8_2, (wrap64 (Int.tdiv (wrap64 (a1 - a0_0)) t643)), true)) else (spec_SlotAt.l0 k2 a1 (wrap64 (Int.tdiv (wrap64 (a1 - a0_0)) t643)) (wrap64 (x8_2 + 1)) a0_0 a0_1 l0_2)) else (spec_SlotAt.l0 k2 a1 (wrap64 (Int.tdiv (wrap64 (a1 - a0_0)) t643)) (wrap64 (x8_2 + 1)) a0_0 a0_1 l0_2)) = some (r1, r2, r3) := by rw [if_pos rfl] at H; exact H
                  clear H
                  have H := H1
                  clear H1
                  by_cases c24 : t644 ≤ a1
                  · rw [if_pos c24] at H
                    have c24b0 : decide (t644 ≤ a1) = true := decide_eq_true c24
                    clear c24
                    by_cases c25 : a1 < t645
                    · rw [if_pos c25] at H
                      have c25b0 : decide (a1 < t645) = true := decide_eq_true c25
                      clear c25
                      simp only [Option.some.injEq, Prod.mk.injEq] at H
                      obtain ⟨rfl, rfl, rfl⟩ := H
                      have hcz26_0 := bc_ BK640.out 0 (.int .i64 a0_0) rfl
                      have hcz26_1 := bc_ BK640.out 1 (.int .i64 a0_1) rfl
                      have hcz26_2 := bc_ BK640.out 2 (.slice A0_2 l0_2.length c0_2) rfl
                      have hfz26_0 := blk_frozen BK640.out 0
                      have hfz26_1 := blk_frozen BK640.out 1
                      have hfz26_2 := blk_frozen BK640.out 2
                      go_wp2_with (first | ((with_reducible refine gate_callee (f := 92) rfl ?_); refine goesL_ (some 43) rfl rfl Try.func92 (by kernel_rfl) rfl #[.agg #[.int .i64 a0_0, .int .i64 a0_1, .slice A0_2 l0_2.length c0_2], .int .i64 x8_2, .int .i64 (wrap64 (Int.tdiv (wrap64 (a1 - a0_0)) t643))] rfl arr_ ?_; (with_reducible refine (spec_Occurrence.calls k2 a0_0 a0_1 _ _ l0_2 x8_2 (wrap64 (Int.tdiv (wrap64 (a1 - a0_0)) t643)) t644 t645 true _ ?side1 ?side2 A22.out).mono ?_); (case side1 => exact kc_ (Kd.C_below HR0_2.out HB.out)); (case side2 => exact HC0_2.out); rintro e w27 ⟨rfl, hb⟩; refine ⟨_, rfl, ?_⟩; have n0_ := Aside0.mk (bb_ BK640.out hb); have n1_ := Aside0.mk (below_step (hb1_ HB.out GE640.out) hb); clear BK640; clear HB; have BK640 := n0_; have HB := n1_; clear n0_ n1_; (try clear hb); (try clear hb2); (try clear hk); (try clear hi)) | ((with_reducible refine gate_dst (N := 9) rfl ?_); refine box_event ?hg (N := 9) ?hd (cs := #[.int .i64 0, .int .i64 0]) (t := 43) ?hr ?_; (case hd => rfl); (case hg => rfl); (case hr => first | (go_simp; done) | (go_simp; rfl)); intro gb647 hg w28 hbox hb; have n0_ := Aside0.mk (bb_ BK640.out hb); have n1_ := Aside0.mk (below_step (hb1_ HB.out GE640.out) hb); have n2_ := Aside0.mk (hbox); have n3_ := Aside0.mk ((by rw [hg]; exact (below_size (hb1_ HB.out GE640.out)) : w.heap.size ≤ gb647)); have n4_ := Aside0.mk ((by rw [hg]; exact (below_size (hb1_ HB.out GE640.out)) : w.heap.size ≤ gb647)); have n5_ := Aside0.mk ((bl_ hg BK640.out : gb640 ≠ gb647)); have n6_ := Aside0.mk ((bg_ hg BK640.out : gb647 ≠ gb640)); clear BK640; clear HB; have BK640 := n0_; have HB := n1_; have BK647 := n2_; have GW647 := n3_; have GE647 := n4_; have NB640_647 := n5_; have NB647_640 := n6_; clear n0_ n1_ n2_ n3_ n4_ n5_ n6_; clear hb hbox hg; have hnb29 := NB647_640.out; have hnc29 := NB640_647.out; have hcz30_0 := bc_ BK647.out 0 (.int .i64 0) rfl; have hcz30_1 := bc_ BK647.out 1 (.int .i64 0) rfl; have hfz30_0 := blk_frozen BK647.out 0; have hfz30_1 := blk_frozen BK647.out 1))
                      go_ret3
                      exact ⟨er_, hb2_ HB.out GE640.out GE647.out⟩
                    · rw [if_neg c25] at H
                      have c25b0 : decide (a1 < t645) = false := decide_eq_false c25
                      clear c25
                      have H' := Aside0.mk H
                      clear H
                      have hcz31_0 := bc_ BK640.out 0 (.int .i64 a0_0) rfl
                      have hcz31_1 := bc_ BK640.out 1 (.int .i64 a0_1) rfl
                      have hcz31_2 := bc_ BK640.out 2 (.slice A0_2 l0_2.length c0_2) rfl
                      have hfz31_0 := blk_frozen BK640.out 0
                      have hfz31_1 := blk_frozen BK640.out 1
                      have hfz31_2 := blk_frozen BK640.out 2
                      go_wp2_with (first | ((with_reducible refine gate_callee (f := 92) rfl ?_); refine goesL_ (some 43) rfl rfl Try.func92 (by kernel_rfl) rfl #[.agg #[.int .i64 a0_0, .int .i64 a0_1, .slice A0_2 l0_2.length c0_2], .int .i64 x8_2, .int .i64 (wrap64 (Int.tdiv (wrap64 (a1 - a0_0)) t643))] rfl arr_ ?_; (with_reducible refine (spec_Occurrence.calls k2 a0_0 a0_1 _ _ l0_2 x8_2 (wrap64 (Int.tdiv (wrap64 (a1 - a0_0)) t643)) t644 t645 true _ ?side1 ?side2 A22.out).mono ?_); (case side1 => exact kc_ (Kd.C_below HR0_2.out HB.out)); (case side2 => exact HC0_2.out); rintro e w32 ⟨rfl, hb⟩; refine ⟨_, rfl, ?_⟩; have n0_ := Aside0.mk (bb_ BK640.out hb); have n1_ := Aside0.mk (below_step (hb1_ HB.out GE640.out) hb); clear BK640; clear HB; have BK640 := n0_; have HB := n1_; clear n0_ n1_; (try clear hb); (try clear hb2); (try clear hk); (try clear hi)) | ((with_reducible refine gate_dst (N := 9) rfl ?_); refine box_event ?hg (N := 9) ?hd (cs := #[.int .i64 0, .int .i64 0]) (t := 43) ?hr ?_; (case hd => rfl); (case hg => rfl); (case hr => first | (go_simp; done) | (go_simp; rfl)); intro gb647 hg w33 hbox hb; have n0_ := Aside0.mk (bb_ BK640.out hb); have n1_ := Aside0.mk (below_step (hb1_ HB.out GE640.out) hb); have n2_ := Aside0.mk (hbox); have n3_ := Aside0.mk ((by rw [hg]; exact (below_size (hb1_ HB.out GE640.out)) : w.heap.size ≤ gb647)); have n4_ := Aside0.mk ((by rw [hg]; exact (below_size (hb1_ HB.out GE640.out)) : w.heap.size ≤ gb647)); have n5_ := Aside0.mk ((bl_ hg BK640.out : gb640 ≠ gb647)); have n6_ := Aside0.mk ((bg_ hg BK640.out : gb647 ≠ gb640)); clear BK640; clear HB; have BK640 := n0_; have HB := n1_; have BK647 := n2_; have GW647 := n3_; have GE647 := n4_; have NB640_647 := n5_; have NB647_640 := n6_; clear n0_ n1_ n2_ n3_ n4_ n5_ n6_; clear hb hbox hg; have hnb34 := NB647_640.out; have hnc34 := NB640_647.out; have hcz35_0 := bc_ BK647.out 0 (.int .i64 0) rfl; have hcz35_1 := bc_ BK647.out 1 (.int .i64 0) rfl; have hfz35_0 := blk_frozen BK647.out 0; have hfz35_1 := blk_frozen BK647.out 1))
                      go_roundg k2
                      case measure => have := HJ2.out; have := HK2.out; omega
                      case rel => exact ⟨(wrap64 (x8_2 + 1)), (by first | rfl | (simp; done) | (simp [*]; done)), H', ⟨by have := HJ2.out; have := HK2.out; omega⟩, ⟨by (with_reducible repeat (first | refine blk_drewN ?_ _ | refine blk_drew ?_ | refine blk_alloc ?_ _)); refine blk_far ?_ NB640_647.out _; (with_reducible repeat (first | refine blk_drewN ?_ _ | refine blk_drew ?_ | refine blk_alloc ?_ _)); refine blk_far ?_ NB640_647.out _; (with_reducible repeat (first | refine blk_drewN ?_ _ | refine blk_drew ?_ | refine blk_alloc ?_ _)); exact BK640.out⟩, ⟨hb2_ HB.out GE640.out GE647.out⟩⟩
                  · rw [if_neg c24] at H
                    have c24b0 : decide (t644 ≤ a1) = false := decide_eq_false c24
                    clear c24
                    have H' := Aside0.mk H
                    clear H
                    have hcz36_0 := bc_ BK640.out 0 (.int .i64 a0_0) rfl
                    have hcz36_1 := bc_ BK640.out 1 (.int .i64 a0_1) rfl
                    have hcz36_2 := bc_ BK640.out 2 (.slice A0_2 l0_2.length c0_2) rfl
                    have hfz36_0 := blk_frozen BK640.out 0
                    have hfz36_1 := blk_frozen BK640.out 1
                    have hfz36_2 := blk_frozen BK640.out 2
                    go_wp2_with (first | ((with_reducible refine gate_callee (f := 92) rfl ?_); refine goesL_ (some 43) rfl rfl Try.func92 (by kernel_rfl) rfl #[.agg #[.int .i64 a0_0, .int .i64 a0_1, .slice A0_2 l0_2.length c0_2], .int .i64 x8_2, .int .i64 (wrap64 (Int.tdiv (wrap64 (a1 - a0_0)) t643))] rfl arr_ ?_; (with_reducible refine (spec_Occurrence.calls k2 a0_0 a0_1 _ _ l0_2 x8_2 (wrap64 (Int.tdiv (wrap64 (a1 - a0_0)) t643)) t644 t645 true _ ?side1 ?side2 A22.out).mono ?_); (case side1 => exact kc_ (Kd.C_below HR0_2.out HB.out)); (case side2 => exact HC0_2.out); rintro e w37 ⟨rfl, hb⟩; refine ⟨_, rfl, ?_⟩; have n0_ := Aside0.mk (bb_ BK640.out hb); have n1_ := Aside0.mk (below_step (hb1_ HB.out GE640.out) hb); clear BK640; clear HB; have BK640 := n0_; have HB := n1_; clear n0_ n1_; (try clear hb); (try clear hb2); (try clear hk); (try clear hi)) | ((with_reducible refine gate_dst (N := 9) rfl ?_); refine box_event ?hg (N := 9) ?hd (cs := #[.int .i64 0, .int .i64 0]) (t := 43) ?hr ?_; (case hd => rfl); (case hg => rfl); (case hr => first | (go_simp; done) | (go_simp; rfl)); intro gb647 hg w38 hbox hb; have n0_ := Aside0.mk (bb_ BK640.out hb); have n1_ := Aside0.mk (below_step (hb1_ HB.out GE640.out) hb); have n2_ := Aside0.mk (hbox); have n3_ := Aside0.mk ((by rw [hg]; exact (below_size (hb1_ HB.out GE640.out)) : w.heap.size ≤ gb647)); have n4_ := Aside0.mk ((by rw [hg]; exact (below_size (hb1_ HB.out GE640.out)) : w.heap.size ≤ gb647)); have n5_ := Aside0.mk ((bl_ hg BK640.out : gb640 ≠ gb647)); have n6_ := Aside0.mk ((bg_ hg BK640.out : gb647 ≠ gb640)); clear BK640; clear HB; have BK640 := n0_; have HB := n1_; have BK647 := n2_; have GW647 := n3_; have GE647 := n4_; have NB640_647 := n5_; have NB647_640 := n6_; clear n0_ n1_ n2_ n3_ n4_ n5_ n6_; clear hb hbox hg; have hnb39 := NB647_640.out; have hnc39 := NB640_647.out; have hcz40_0 := bc_ BK647.out 0 (.int .i64 0) rfl; have hcz40_1 := bc_ BK647.out 1 (.int .i64 0) rfl; have hfz40_0 := blk_frozen BK647.out 0; have hfz40_1 := blk_frozen BK647.out 1))
                    go_roundg k2
                    case measure => have := HJ2.out; have := HK2.out; omega
                    case rel => exact ⟨(wrap64 (x8_2 + 1)), (by first | rfl | (simp; done) | (simp [*]; done)), H', ⟨by have := HJ2.out; have := HK2.out; omega⟩, ⟨by (with_reducible repeat (first | refine blk_drewN ?_ _ | refine blk_drew ?_ | refine blk_alloc ?_ _)); refine blk_far ?_ NB640_647.out _; (with_reducible repeat (first | refine blk_drewN ?_ _ | refine blk_drew ?_ | refine blk_alloc ?_ _)); refine blk_far ?_ NB640_647.out _; (with_reducible repeat (first | refine blk_drewN ?_ _ | refine blk_drew ?_ | refine blk_alloc ?_ _)); exact BK640.out⟩, ⟨hb2_ HB.out GE640.out GE647.out⟩⟩
                · replace c23 := Bool.eq_false_iff.mpr c23
                  subst c23
                  have H1 : (spec_SlotAt.l0 k2 a1 (wrap64 (Int.tdiv (wrap64 (a1 - a0_0)) t643)) (wrap64 (x8_2 + 1)) a0_0 a0_1 l0_2) = some (r1, r2, r3) := by rw [if_neg (show ¬ (false = true) by decide)] at H; exact H
                  clear H
                  have H := H1
                  clear H1
                  have H' := Aside0.mk H
                  clear H
                  have hcz41_0 := bc_ BK640.out 0 (.int .i64 a0_0) rfl
                  have hcz41_1 := bc_ BK640.out 1 (.int .i64 a0_1) rfl
                  have hcz41_2 := bc_ BK640.out 2 (.slice A0_2 l0_2.length c0_2) rfl
                  have hfz41_0 := blk_frozen BK640.out 0
                  have hfz41_1 := blk_frozen BK640.out 1
                  have hfz41_2 := blk_frozen BK640.out 2
                  go_wp2_with (first | ((with_reducible refine gate_callee (f := 92) rfl ?_); refine goesL_ (some 43) rfl rfl Try.func92 (by kernel_rfl) rfl #[.agg #[.int .i64 a0_0, .int .i64 a0_1, .slice A0_2 l0_2.length c0_2], .int .i64 x8_2, .int .i64 (wrap64 (Int.tdiv (wrap64 (a1 - a0_0)) t643))] rfl arr_ ?_; (with_reducible refine (spec_Occurrence.calls k2 a0_0 a0_1 _ _ l0_2 x8_2 (wrap64 (Int.tdiv (wrap64 (a1 - a0_0)) t643)) t644 t645 false _ ?side1 ?side2 A22.out).mono ?_); (case side1 => exact kc_ (Kd.C_below HR0_2.out HB.out)); (case side2 => exact HC0_2.out); rintro e w42 ⟨rfl, hb⟩; refine ⟨_, rfl, ?_⟩; have n0_ := Aside0.mk (bb_ BK640.out hb); have n1_ := Aside0.mk (below_step (hb1_ HB.out GE640.out) hb); clear BK640; clear HB; have BK640 := n0_; have HB := n1_; clear n0_ n1_; (try clear hb); (try clear hb2); (try clear hk); (try clear hi)) | ((with_reducible refine gate_dst (N := 9) rfl ?_); refine box_event ?hg (N := 9) ?hd (cs := #[.int .i64 0, .int .i64 0]) (t := 43) ?hr ?_; (case hd => rfl); (case hg => rfl); (case hr => first | (go_simp; done) | (go_simp; rfl)); intro gb647 hg w43 hbox hb; have n0_ := Aside0.mk (bb_ BK640.out hb); have n1_ := Aside0.mk (below_step (hb1_ HB.out GE640.out) hb); have n2_ := Aside0.mk (hbox); have n3_ := Aside0.mk ((by rw [hg]; exact (below_size (hb1_ HB.out GE640.out)) : w.heap.size ≤ gb647)); have n4_ := Aside0.mk ((by rw [hg]; exact (below_size (hb1_ HB.out GE640.out)) : w.heap.size ≤ gb647)); have n5_ := Aside0.mk ((bl_ hg BK640.out : gb640 ≠ gb647)); have n6_ := Aside0.mk ((bg_ hg BK640.out : gb647 ≠ gb640)); clear BK640; clear HB; have BK640 := n0_; have HB := n1_; have BK647 := n2_; have GW647 := n3_; have GE647 := n4_; have NB640_647 := n5_; have NB647_640 := n6_; clear n0_ n1_ n2_ n3_ n4_ n5_ n6_; clear hb hbox hg; have hnb44 := NB647_640.out; have hnc44 := NB640_647.out; have hcz45_0 := bc_ BK647.out 0 (.int .i64 0) rfl; have hcz45_1 := bc_ BK647.out 1 (.int .i64 0) rfl; have hfz45_0 := blk_frozen BK647.out 0; have hfz45_1 := blk_frozen BK647.out 1))
                  go_roundg k2
                  case measure => have := HJ2.out; have := HK2.out; omega
                  case rel => exact ⟨(wrap64 (x8_2 + 1)), (by first | rfl | (simp; done) | (simp [*]; done)), H', ⟨by have := HJ2.out; have := HK2.out; omega⟩, ⟨by (with_reducible repeat (first | refine blk_drewN ?_ _ | refine blk_drew ?_ | refine blk_alloc ?_ _)); refine blk_far ?_ NB640_647.out _; (with_reducible repeat (first | refine blk_drewN ?_ _ | refine blk_drew ?_ | refine blk_alloc ?_ _)); refine blk_far ?_ NB640_647.out _; (with_reducible repeat (first | refine blk_drewN ?_ _ | refine blk_drew ?_ | refine blk_alloc ?_ _)); exact BK640.out⟩, ⟨hb2_ HB.out GE640.out GE647.out⟩⟩
              · rw [if_neg c21] at H
                have c21b0 : decide (x8_2 < (l0_2.length : Int)) = false := decide_eq_false c21
                clear c21
                simp only [Option.some.injEq, Prod.mk.injEq] at H
                obtain ⟨rfl, rfl, rfl⟩ := H
                have hcz46_0 := bc_ BK640.out 0 (.int .i64 a0_0) rfl
                have hcz46_1 := bc_ BK640.out 1 (.int .i64 a0_1) rfl
                have hcz46_2 := bc_ BK640.out 2 (.slice A0_2 l0_2.length c0_2) rfl
                have hfz46_0 := blk_frozen BK640.out 0
                have hfz46_1 := blk_frozen BK640.out 1
                have hfz46_2 := blk_frozen BK640.out 2
                go_wp2
                go_ret3
                exact ⟨er_, hb1_ HB.out GE640.out⟩
end Go.Proofs.Ytjlmfnpgcmmdnaa.P

namespace Go.Proofs.Ytjlmfnpgcmmdnaa.P
open Go.RowKit Go.Proofs.YtjlmfnpgcmmdnaaW.PrintWords Go.Proofs.YtjlmfnpgcmmdnaaW.PrintLast Go.Proofs.YtjlmfnpgcmmdnaaW.PrintMore
attribute [local go_sem] max2_int min2_int max_two min_two max_three min_three max_four min_four
set_option linter.unusedVariables false
set_option linter.unusedSimpArgs false
def spec_InSlot.j0 : Nat → Int → Int → Int → Bool → Int → Int → List (S90) → Option (Int × Int × Bool)
  | 0, _, _, _, _, _, _, _ => none
  | k + 1, x3, x11, x12, x39, x800000, x800001, x800002 => if x39 = true then (some (0, 0, false)) else ((spec_Occurrence.f k x800000 x800001 x800002 x11 x12).bind fun bt804 => (if x3 > bt804.2.1 then (some (0, 0, false)) else (some (x11, x12, true))))
def spec_InSlot.f (k : Nat) (a0_0 : Int) (a0_1 : Int) (l0_2 : List (S90)) (a1 : Int) (a2 : Int) (a3 : Int) : Option (Int × Int × Bool) := (spec_SlotAt.f k a0_0 a0_1 l0_2 a2).bind fun bt800 => (if bt800.2.2 = true then (if 0 ≤ bt800.1 then (if bt800.1 < (l0_2.length : Int) then (if ((rd_T90 l0_2 bt800.1).f0) = a1 then (spec_InSlot.j0 k a3 bt800.1 bt800.2.1 (decide (a2 > a3)) a0_0 a0_1 l0_2) else (spec_InSlot.j0 k a3 bt800.1 bt800.2.1 true a0_0 a0_1 l0_2)) else (none)) else (none)) else (spec_InSlot.j0 k a3 bt800.1 bt800.2.1 true a0_0 a0_1 l0_2))
set_option maxHeartbeats 8000000 in
set_option maxRecDepth 100000 in
theorem spec_InSlot.calls (k : Nat) (a0_0 : Int) (a0_1 : Int) (A0_2 : Option Addr) (c0_2 : Nat) (l0_2 : List (S90)) (a1 : Int) (a2 : Int) (a3 : Int) (r1 : Int) (r2 : Int) (r3 : Bool) (w : World) (hr0_2 : Kd.C k90 w A0_2 l0_2.length l0_2) (hc0_2 : l0_2.length ≤ c0_2) (h : spec_InSlot.f k a0_0 a0_1 l0_2 a1 a2 a3 = some (r1, r2, r3)) :
    Calls Try.prog 74 #[.agg #[.int .i64 a0_0, .int .i64 a0_1, .slice A0_2 l0_2.length c0_2], .int .i64 a1, .int .i64 a2, .int .i64 a3] w fun e w' => e = .returned (.tuple #[.int .i64 r1, .int .i64 r2, .bool r3]) ∧ Below w.heap.size w w' := by
  have hu59 := Try.underlying59
  have hu43 := Try.underlying43
  have HR0_2 := Aside0.mk hr0_2
  have HC0_2 := Aside0.mk hc0_2
  clear hr0_2 hc0_2
  have HB := Aside0.mk (Below.refl w.heap.size w)
  have H : ((spec_SlotAt.f k a0_0 a0_1 l0_2 a2).bind fun bt800 => (if bt800.2.2 = true then (if 0 ≤ bt800.1 then (if bt800.1 < (l0_2.length : Int) then (if ((rd_T90 l0_2 bt800.1).f0) = a1 then (spec_InSlot.j0 k a3 bt800.1 bt800.2.1 (decide (a2 > a3)) a0_0 a0_1 l0_2) else (spec_InSlot.j0 k a3 bt800.1 bt800.2.1 true a0_0 a0_1 l0_2)) else (none)) else (none)) else (spec_InSlot.j0 k a3 bt800.1 bt800.2.1 true a0_0 a0_1 l0_2))) = some (r1, r2, r3) := h
  clear h
  replace H := Option.bind_eq_some_iff.mp H
  obtain ⟨⟨t800, t801, t802⟩, A50, H⟩ := H
  replace H : (if t802 = true then (if 0 ≤ t800 then (if t800 < (l0_2.length : Int) then (if ((rd_T90 l0_2 t800).f0) = a1 then (spec_InSlot.j0 k a3 t800 t801 (decide (a2 > a3)) a0_0 a0_1 l0_2) else (spec_InSlot.j0 k a3 t800 t801 true a0_0 a0_1 l0_2)) else (none)) else (none)) else (spec_InSlot.j0 k a3 t800 t801 true a0_0 a0_1 l0_2)) = some (r1, r2, r3) := H
  have A5 := Aside0.mk A50
  clear A50
  have HC6 := Aside0.mk H
  clear H
  go_enter Try.func74, Try.ntmps74
  go_upto_region 2 with (first | ((with_reducible refine gate_dst (N := 4) rfl ?_); refine box_event ?hg (N := 4) ?hd (cs := #[.int .i64 a0_0, .int .i64 a0_1, .slice A0_2 l0_2.length c0_2]) (t := 59) ?hr ?_; (case hd => rfl); (case hg => rfl); (case hr => first | (go_simp; done) | (go_simp; rfl)); intro gb799 hg w7 hbox hb; have n0_ := Aside0.mk (below_step (hb_ HB.out) hb); have n1_ := Aside0.mk (hbox); have n2_ := Aside0.mk ((by rw [hg]; exact (below_size (hb_ HB.out)) : w.heap.size ≤ gb799)); have n3_ := Aside0.mk ((by rw [hg]; exact (below_size (hb_ HB.out)) : w.heap.size ≤ gb799)); clear HB; have HB := n0_; have BK799 := n1_; have GW799 := n2_; have GE799 := n3_; clear n0_ n1_ n2_ n3_; clear hb hbox hg; have hcz8_0 := bc_ BK799.out 0 (.int .i64 a0_0) rfl; have hcz8_1 := bc_ BK799.out 1 (.int .i64 a0_1) rfl; have hcz8_2 := bc_ BK799.out 2 (.slice A0_2 l0_2.length c0_2) rfl; have hfz8_0 := blk_frozen BK799.out 0; have hfz8_1 := blk_frozen BK799.out 1; have hfz8_2 := blk_frozen BK799.out 2) | ((with_reducible refine gate_callee (f := 69) rfl ?_); refine goesL_ (some 19) rfl rfl Try.func69 (by kernel_rfl) rfl #[.agg #[.int .i64 a0_0, .int .i64 a0_1, .slice A0_2 l0_2.length c0_2], .int .i64 a2] rfl arr_ ?_; (with_reducible refine (spec_SlotAt.calls k a0_0 a0_1 _ _ l0_2 a2 t800 t801 t802 _ ?side1 ?side2 A5.out).mono ?_); (case side1 => exact kc_ (Kd.C_below HR0_2.out HB.out)); (case side2 => exact HC0_2.out); rintro e w9 ⟨rfl, hb⟩; refine ⟨_, rfl, ?_⟩; have n0_ := Aside0.mk (bb_ BK799.out hb); have n1_ := Aside0.mk (below_step (hb1_ HB.out GE799.out) hb); clear BK799; clear HB; have BK799 := n0_; have HB := n1_; clear n0_ n1_; (try clear hb); (try clear hb2); (try clear hk); (try clear hi)))
  (try simp only [Act.put, List.setIfInBounds_toArray, List.set_cons_zero, List.set_cons_succ])
  go_cut [39] (fun v39 wc => ∃ (kq : Nat) (x39_5 : Bool), v39 = .bool x39_5 ∧ Aside0 (spec_InSlot.j0 kq a3 t800 t801 x39_5 a0_0 a0_1 l0_2 = some (r1, r2, r3)) ∧ Aside0 (kq ≤ k) ∧ Aside0 (wc.heap[gb799]? = some (.cells #[.int .i64 a0_0, .int .i64 a0_1, (.slice A0_2 l0_2.length c0_2)] 59 (0, 0))) ∧ Aside0 (Below w.heap.size w wc))
  case first =>
    have H := HC6.out
    clear HC6
    by_cases c10 : t802 = true
    · subst c10
      have H1 : (if 0 ≤ t800 then (if t800 < (l0_2.length : Int) then (if ((rd_T90 l0_2 t800).f0) = a1 then (spec_InSlot.j0 k a3 t800 t801 (decide (a2 > a3)) a0_0 a0_1 l0_2) else (spec_InSlot.j0 k a3 t800 t801 true a0_0 a0_1 l0_2)) else (none)) else (none)) = some (r1, r2, r3) := by rw [if_pos rfl] at H; exact H
      clear H
      have H := H1
      clear H1
      by_cases c11 : 0 ≤ t800
      · rw [if_pos c11] at H
        have c11b0 : decide (0 ≤ t800) = true := decide_eq_true c11
        clear c11
        (first | rw [c11b0] | (simp only [i64_w, i32_w]; rw [c11b0]) | skip)
        by_cases c12 : t800 < (l0_2.length : Int)
        · rw [if_pos c12] at H
          have c12b0 : decide (t800 < (l0_2.length : Int)) = true := decide_eq_true c12
          clear c12
          by_cases c13 : ((rd_T90 l0_2 t800).f0) = a1
          · rw [if_pos c13] at H
            have c13b0 : (((rd_T90 l0_2 t800).f0) == a1) = true := beq_iff_eq.mpr c13
            have c13b1 : (((rd_T90 l0_2 t800).f0) != a1) = false := bne_eq_false_iff_eq.mpr c13
            clear c13
            have H' := Aside0.mk H
            clear H
            have hcz14_0 := bc_ BK799.out 0 (.int .i64 a0_0) rfl
            have hcz14_1 := bc_ BK799.out 1 (.int .i64 a0_1) rfl
            have hcz14_2 := bc_ BK799.out 2 (.slice A0_2 l0_2.length c0_2) rfl
            have hfz14_0 := blk_frozen BK799.out 0
            have hfz14_1 := blk_frozen BK799.out 1
            have hfz14_2 := blk_frozen BK799.out 2
            have p803 : 0 ≤ (t800 : Int) := of_decide_eq_true (by first | (with_reducible assumption) | assumption)
            have q803 : t800 < (l0_2.length : Int) := of_decide_eq_true (by first | (with_reducible assumption) | assumption)
            obtain ⟨ad803, e803, hx803_0, hx803_1⟩ := at_T90 HR0_2.out t800 p803 q803
            cases e803
            replace hx803_0 := (HB.out.cell (World.block_lt_of_cell? w _ hx803_0)).trans hx803_0
            replace hx803_1 := (HB.out.cell (World.block_lt_of_cell? w _ hx803_1)).trans hx803_1
            replace p803 := eq_true p803
            replace q803 := eq_true q803
            go_wp2
            go_meet
            case rel => exact ⟨_, (decide (a2 > a3)), (by first | rfl | (simp; done) | (simp [*]; done)), H', ⟨by first | omega | exact Nat.le_refl _⟩, ⟨bk_ BK799.out⟩, ⟨hb1_ HB.out GE799.out⟩⟩
          · rw [if_neg c13] at H
            have c13b0 : (((rd_T90 l0_2 t800).f0) == a1) = false := beq_eq_false_iff_ne.mpr c13
            have c13b1 : (((rd_T90 l0_2 t800).f0) != a1) = true := bne_iff_ne.mpr c13
            have H' := Aside0.mk H
            clear H
            have hcz15_0 := bc_ BK799.out 0 (.int .i64 a0_0) rfl
            have hcz15_1 := bc_ BK799.out 1 (.int .i64 a0_1) rfl
            have hcz15_2 := bc_ BK799.out 2 (.slice A0_2 l0_2.length c0_2) rfl
            have hfz15_0 := blk_frozen BK799.out 0
            have hfz15_1 := blk_frozen BK799.out 1
            have hfz15_2 := blk_frozen BK799.out 2
            have p803 : 0 ≤ (t800 : Int) := of_decide_eq_true (by first | (with_reducible assumption) | assumption)
            have q803 : t800 < (l0_2.length : Int) := of_decide_eq_true (by first | (with_reducible assumption) | assumption)
            obtain ⟨ad803, e803, hx803_0, hx803_1⟩ := at_T90 HR0_2.out t800 p803 q803
            cases e803
            replace hx803_0 := (HB.out.cell (World.block_lt_of_cell? w _ hx803_0)).trans hx803_0
            replace hx803_1 := (HB.out.cell (World.block_lt_of_cell? w _ hx803_1)).trans hx803_1
            replace p803 := eq_true p803
            replace q803 := eq_true q803
            go_wp2
            go_meet
            case rel => exact ⟨_, (true), (by first | rfl | (simp; done) | (simp [*]; done)), H', ⟨by first | omega | exact Nat.le_refl _⟩, ⟨bk_ BK799.out⟩, ⟨hb1_ HB.out GE799.out⟩⟩
        · rw [if_neg c12] at H
          exact absurd H (by simp)
      · rw [if_neg c11] at H
        exact absurd H (by simp)
    · replace c10 := Bool.eq_false_iff.mpr c10
      subst c10
      have H1 : (spec_InSlot.j0 k a3 t800 t801 true a0_0 a0_1 l0_2) = some (r1, r2, r3) := by rw [if_neg (show ¬ (false = true) by decide)] at H; exact H
      clear H
      have H := H1
      clear H1
      have H' := Aside0.mk H
      clear H
      go_wp2
      go_meet
      case rel => exact ⟨_, (true), (by first | rfl | (simp; done) | (simp [*]; done)), H', ⟨by first | omega | exact Nat.le_refl _⟩, ⟨bk_ BK799.out⟩, ⟨hb1_ HB.out GE799.out⟩⟩
  case rest =>
    clear HC6
    try clear c1
    try clear p2
    try clear c6
    try clear c7
    try clear p8
    try clear q8
    try clear hx8
    try clear c10
    try clear c11
    try clear c11b0
    try clear c12
    try clear c12b0
    try clear c13
    try clear c13b0
    try clear c13b1
    try clear hcz14_0
    try clear hcz14_1
    try clear hcz14_2
    try clear hcz15_0
    try clear hcz15_1
    try clear hcz15_2
    try clear hcz8_0
    try clear hcz8_1
    try clear hcz8_2
    try clear hfz14_0
    try clear hfz14_1
    try clear hfz14_2
    try clear hfz15_0
    try clear hfz15_1
    try clear hfz15_2
    try clear hfz8_0
    try clear hfz8_1
    try clear hfz8_2
    try clear hx803_0
    try clear hx803_1
    try clear p803
    try clear q803
    obtain ⟨kq, x39_5, rfl, HA, HJ5, BK799, HB⟩ := hcut
    cases kq with
    | zero => exact absurd HA.out (by simp [spec_InSlot.j0])
    | succ kj5 =>
      have H := HA.out
      clear HA
      simp only [spec_InSlot.j0] at H
      by_cases c16 : x39_5 = true
      · subst c16
        have H1 : (some (0, 0, false)) = some (r1, r2, r3) := by rw [if_pos rfl] at H; exact H
        clear H
        have H := H1
        clear H1
        simp only [Option.some.injEq, Prod.mk.injEq] at H
        obtain ⟨rfl, rfl, rfl⟩ := H
        go_wp2
        go_ret3
        exact ⟨er_, hb1_ HB.out GE799.out⟩
      · replace c16 := Bool.eq_false_iff.mpr c16
        subst c16
        have H1 : ((spec_Occurrence.f kj5 a0_0 a0_1 l0_2 t800 t801).bind fun bt804 => (if a3 > bt804.2.1 then (some (0, 0, false)) else (some (t800, t801, true)))) = some (r1, r2, r3) := by rw [if_neg (show ¬ (false = true) by decide)] at H; exact H
        clear H
        have H := H1
        clear H1
        replace H := Option.bind_eq_some_iff.mp H
        obtain ⟨⟨t804, t805, t806⟩, A170, H⟩ := H
        replace H : (if a3 > t805 then (some (0, 0, false)) else (some (t800, t801, true))) = some (r1, r2, r3) := H
        have A17 := Aside0.mk A170
        clear A170
        by_cases c18 : a3 > t805
        · rw [if_pos c18] at H
          have c18b0 : decide (t805 < a3) = true := decide_eq_true c18
          clear c18
          simp only [Option.some.injEq, Prod.mk.injEq] at H
          obtain ⟨rfl, rfl, rfl⟩ := H
          have hcz19_0 := bc_ BK799.out 0 (.int .i64 a0_0) rfl
          have hcz19_1 := bc_ BK799.out 1 (.int .i64 a0_1) rfl
          have hcz19_2 := bc_ BK799.out 2 (.slice A0_2 l0_2.length c0_2) rfl
          have hfz19_0 := blk_frozen BK799.out 0
          have hfz19_1 := blk_frozen BK799.out 1
          have hfz19_2 := blk_frozen BK799.out 2
          go_wp2_with (first | ((with_reducible refine gate_callee (f := 92) rfl ?_); refine goesL_ (some 44) rfl rfl Try.func92 (by kernel_rfl) rfl #[.agg #[.int .i64 a0_0, .int .i64 a0_1, .slice A0_2 l0_2.length c0_2], .int .i64 t800, .int .i64 t801] rfl arr_ ?_; (with_reducible refine (spec_Occurrence.calls kj5 a0_0 a0_1 _ _ l0_2 t800 t801 t804 t805 t806 _ ?side1 ?side2 A17.out).mono ?_); (case side1 => exact kc_ (Kd.C_below HR0_2.out HB.out)); (case side2 => exact HC0_2.out); rintro e w20 ⟨rfl, hb⟩; refine ⟨_, rfl, ?_⟩; have n0_ := Aside0.mk (bb_ BK799.out hb); have n1_ := Aside0.mk (below_step (hb1_ HB.out GE799.out) hb); clear BK799; clear HB; have BK799 := n0_; have HB := n1_; clear n0_ n1_; (try clear hb); (try clear hb2); (try clear hk); (try clear hi)) | ((with_reducible refine gate_dst (N := 14) rfl ?_); refine box_event ?hg (N := 14) ?hd (cs := #[.int .i64 0, .int .i64 0]) (t := 43) ?hr ?_; (case hd => rfl); (case hg => rfl); (case hr => first | (go_simp; done) | (go_simp; rfl)); intro gb807 hg w21 hbox hb; have n0_ := Aside0.mk (bb_ BK799.out hb); have n1_ := Aside0.mk (below_step (hb1_ HB.out GE799.out) hb); have n2_ := Aside0.mk (hbox); have n3_ := Aside0.mk ((by rw [hg]; exact (below_size (hb1_ HB.out GE799.out)) : w.heap.size ≤ gb807)); have n4_ := Aside0.mk ((by rw [hg]; exact (below_size (hb1_ HB.out GE799.out)) : w.heap.size ≤ gb807)); have n5_ := Aside0.mk ((bl_ hg BK799.out : gb799 ≠ gb807)); have n6_ := Aside0.mk ((bg_ hg BK799.out : gb807 ≠ gb799)); clear BK799; clear HB; have BK799 := n0_; have HB := n1_; have BK807 := n2_; have GW807 := n3_; have GE807 := n4_; have NB799_807 := n5_; have NB807_799 := n6_; clear n0_ n1_ n2_ n3_ n4_ n5_ n6_; clear hb hbox hg; have hnb22 := NB807_799.out; have hnc22 := NB799_807.out; have hcz23_0 := bc_ BK807.out 0 (.int .i64 0) rfl; have hcz23_1 := bc_ BK807.out 1 (.int .i64 0) rfl; have hfz23_0 := blk_frozen BK807.out 0; have hfz23_1 := blk_frozen BK807.out 1))
          go_ret3
          exact ⟨er_, hb2_ HB.out GE799.out GE807.out⟩
        · rw [if_neg c18] at H
          have c18b0 : decide (t805 < a3) = false := decide_eq_false c18
          clear c18
          simp only [Option.some.injEq, Prod.mk.injEq] at H
          obtain ⟨rfl, rfl, rfl⟩ := H
          have hcz24_0 := bc_ BK799.out 0 (.int .i64 a0_0) rfl
          have hcz24_1 := bc_ BK799.out 1 (.int .i64 a0_1) rfl
          have hcz24_2 := bc_ BK799.out 2 (.slice A0_2 l0_2.length c0_2) rfl
          have hfz24_0 := blk_frozen BK799.out 0
          have hfz24_1 := blk_frozen BK799.out 1
          have hfz24_2 := blk_frozen BK799.out 2
          go_wp2_with (first | ((with_reducible refine gate_callee (f := 92) rfl ?_); refine goesL_ (some 44) rfl rfl Try.func92 (by kernel_rfl) rfl #[.agg #[.int .i64 a0_0, .int .i64 a0_1, .slice A0_2 l0_2.length c0_2], .int .i64 t800, .int .i64 t801] rfl arr_ ?_; (with_reducible refine (spec_Occurrence.calls kj5 a0_0 a0_1 _ _ l0_2 t800 t801 t804 t805 t806 _ ?side1 ?side2 A17.out).mono ?_); (case side1 => exact kc_ (Kd.C_below HR0_2.out HB.out)); (case side2 => exact HC0_2.out); rintro e w25 ⟨rfl, hb⟩; refine ⟨_, rfl, ?_⟩; have n0_ := Aside0.mk (bb_ BK799.out hb); have n1_ := Aside0.mk (below_step (hb1_ HB.out GE799.out) hb); clear BK799; clear HB; have BK799 := n0_; have HB := n1_; clear n0_ n1_; (try clear hb); (try clear hb2); (try clear hk); (try clear hi)) | ((with_reducible refine gate_dst (N := 14) rfl ?_); refine box_event ?hg (N := 14) ?hd (cs := #[.int .i64 0, .int .i64 0]) (t := 43) ?hr ?_; (case hd => rfl); (case hg => rfl); (case hr => first | (go_simp; done) | (go_simp; rfl)); intro gb807 hg w26 hbox hb; have n0_ := Aside0.mk (bb_ BK799.out hb); have n1_ := Aside0.mk (below_step (hb1_ HB.out GE799.out) hb); have n2_ := Aside0.mk (hbox); have n3_ := Aside0.mk ((by rw [hg]; exact (below_size (hb1_ HB.out GE799.out)) : w.heap.size ≤ gb807)); have n4_ := Aside0.mk ((by rw [hg]; exact (below_size (hb1_ HB.out GE799.out)) : w.heap.size ≤ gb807)); have n5_ := Aside0.mk ((bl_ hg BK799.out : gb799 ≠ gb807)); have n6_ := Aside0.mk ((bg_ hg BK799.out : gb807 ≠ gb799)); clear BK799; clear HB; have BK799 := n0_; have HB := n1_; have BK807 := n2_; have GW807 := n3_; have GE807 := n4_; have NB799_807 := n5_; have NB807_799 := n6_; clear n0_ n1_ n2_ n3_ n4_ n5_ n6_; clear hb hbox hg; have hnb27 := NB807_799.out; have hnc27 := NB799_807.out; have hcz28_0 := bc_ BK807.out 0 (.int .i64 0) rfl; have hcz28_1 := bc_ BK807.out 1 (.int .i64 0) rfl; have hfz28_0 := blk_frozen BK807.out 0; have hfz28_1 := blk_frozen BK807.out 1))
          go_ret3
          exact ⟨er_, hb2_ HB.out GE799.out GE807.out⟩
end Go.Proofs.Ytjlmfnpgcmmdnaa.P
namespace Go.Proofs.Ytjlmfnpgcmmdnaa.P
open Go.RowKit Go.Proofs.YtjlmfnpgcmmdnaaW.PrintWords Go.Proofs.YtjlmfnpgcmmdnaaW.PrintLast Go.Proofs.YtjlmfnpgcmmdnaaW.PrintMore
attribute [local go_sem] max2_int min2_int max_two min_two max_three min_three max_four min_four
set_option linter.unusedVariables false
set_option linter.unusedSimpArgs false
mutual
def spec_BusStray.j0 : Nat → List (S33) → List Int → Bool → Int → Int → List (S90) → Option (List Int)
  | 0, _, _, _, _, _, _ => none
  | k + 1, x1, x5, x19, x702000, x702001, x702002 => if x19 = true then (some x5) else (spec_BusStray.l0 k x1 x5 0 x702000 x702001 x702002)
def spec_BusStray.l0 : Nat → List (S33) → List Int → Int → Int → Int → List (S90) → Option (List Int)
  | 0, _, _, _, _, _, _ => none
  | k + 1, x1, x5, x6, x702000, x702001, x702002 => if x6 < (x1.length : Int) then (if 0 ≤ x6 then ((spec_InSlot.f k x702000 x702001 x702002 ((rd_T33 x1 x6).f0) ((rd_T33 x1 x6).f3) ((rd_T33 x1 x6).f4)).bind fun bt709 => (if bt709.2.2 = true then (if bt709.1 = ((rd_T33 x1 x6).f1) then (if bt709.2.1 = ((rd_T33 x1 x6).f2) then (spec_BusStray.l0 k x1 x5 (wrap64 (x6 + 1)) x702000 x702001 x702002) else (if x5.length < 17592186044416 then (spec_BusStray.l0 k x1 (x5 ++ [x6]) (wrap64 (x6 + 1)) x702000 x702001 x702002) else (none))) else (if x5.length < 17592186044416 then (spec_BusStray.l0 k x1 (x5 ++ [x6]) (wrap64 (x6 + 1)) x702000 x702001 x702002) else (none))) else (if x5.length < 17592186044416 then (spec_BusStray.l0 k x1 (x5 ++ [x6]) (wrap64 (x6 + 1)) x702000 x702001 x702002) else (none)))) else (none)) else (some x5)
end
def spec_BusStray.f (k : Nat) (a0_0 : Int) (a0_1 : Int) (l0_2 : List (S90)) (l1 : List (S33)) : Option (List Int) := (some (([] : List Int) : List Int)).bind fun y702 => ((spec_PlanOk.f k a0_0 a0_1 l0_2).bind fun t705 => (if t705 = true then ((spec_BusOk.f k l1).bind fun t706 => (spec_BusStray.j0 k l1 y702 (!t706) a0_0 a0_1 l0_2)) else (spec_BusStray.j0 k l1 y702 true a0_0 a0_1 l0_2)))
set_option maxHeartbeats 8000000 in
set_option maxRecDepth 100000 in
theorem spec_BusStray.calls (k : Nat) (a0_0 : Int) (a0_1 : Int) (A0_2 : Option Addr) (c0_2 : Nat) (l0_2 : List (S90)) (A1 : Option Addr) (c1 : Nat) (l1 : List (S33)) (r : List Int) (w : World) (hr0_2 : Kd.C k90 w A0_2 l0_2.length l0_2) (hc0_2 : l0_2.length ≤ c0_2) (hr1 : Kd.C k33 w A1 l1.length l1) (hc1 : l1.length ≤ c1) (h : spec_BusStray.f k a0_0 a0_1 l0_2 l1 = some r) :
    Calls Try.prog 39 #[.agg #[.int .i64 a0_0, .int .i64 a0_1, .slice A0_2 l0_2.length c0_2], .slice A1 l1.length c1] w fun e w' => ∃ v0_ : Value, e = .returned (v0_) ∧ Kd.R (Kd.int .i64) 3 w' w.heap.size (fun _ => True) v0_ r ∧ Below w.heap.size w w' := by
  have hu59 := Try.underlying59
  have hu33 := Try.underlying33
  have HR0_2 := Aside0.mk hr0_2
  have HC0_2 := Aside0.mk hc0_2
  clear hr0_2 hc0_2
  have HR1 := Aside0.mk hr1
  have HC1 := Aside0.mk hc1
  clear hr1 hc1
  have HB := Aside0.mk (Below.refl w.heap.size w)
  have H : ((some (([] : List Int) : List Int)).bind fun y702 => ((spec_PlanOk.f k a0_0 a0_1 l0_2).bind fun t705 => (if t705 = true then ((spec_BusOk.f k l1).bind fun t706 => (spec_BusStray.j0 k l1 y702 (!t706) a0_0 a0_1 l0_2)) else (spec_BusStray.j0 k l1 y702 true a0_0 a0_1 l0_2)))) = some r := h
  clear h
  obtain ⟨y702, hy702⟩ : ∃ y_ : List Int, y_ = (([] : List Int)) := ⟨_, rfl⟩
  replace H : ((spec_PlanOk.f k a0_0 a0_1 l0_2).bind fun t705 => (if t705 = true then ((spec_BusOk.f k l1).bind fun t706 => (spec_BusStray.j0 k l1 y702 (!t706) a0_0 a0_1 l0_2)) else (spec_BusStray.j0 k l1 y702 true a0_0 a0_1 l0_2))) = some r := by first | (rw [hy702]; with_reducible exact H) | (have H2_ := (Option.bind_some _ _).symm.trans H; rw [hy702]; with_reducible exact H2_) | (have H2_ := (Option.bind_some _ _).symm.trans H; with_reducible exact H2_) | with_reducible exact H | (rw [hy702]; exact H) | exact H
  have Ny702 := Aside0.mk hy702
  clear hy702
  have HC3 := Aside0.mk H
  clear H
  go_enter Try.func39, Try.ntmps39
  go_upto_region 2 with (first | ((with_reducible refine gate_dst (N := 2) rfl ?_); refine box_event ?hg (N := 2) ?hd (cs := #[.int .i64 a0_0, .int .i64 a0_1, .slice A0_2 l0_2.length c0_2]) (t := 59) ?hr ?_; (case hd => rfl); (case hg => rfl); (case hr => first | (go_simp; done) | (go_simp; rfl)); intro gb701 hg w4 hbox hb; have n0_ := Aside0.mk (below_step (hb_ HB.out) hb); have n1_ := Aside0.mk (hbox); have n2_ := Aside0.mk ((by rw [hg]; exact (below_size (hb_ HB.out)) : w.heap.size ≤ gb701)); have n3_ := Aside0.mk ((by rw [hg]; exact (below_size (hb_ HB.out)) : w.heap.size ≤ gb701)); clear HB; have HB := n0_; have BK701 := n1_; have GW701 := n2_; have GE701 := n3_; clear n0_ n1_ n2_ n3_; clear hb hbox hg) | ((with_reducible refine gate_dst (N := 11) rfl ?_); refine Kd.R_lit (Kd.int .i64) _ 3 ?hg (N := 11) ?hd (xs := ([] : List Int)) (inner := []) (ok := fun _ => True) (okp := fun _ => True) ?hr ?hp (fun _ hk => hk) trivial (Below.refl _ _) (Nat.le_refl _) (by simp) ?_; (case hd => rfl); (case hg => rfl); (case hr => first | (go_simp; done) | (go_simp; rfl)); (case hp => exact (Reps.none _ _)); intro v703 w5 ho6 hb hg_ hnew_; clear hg_ hnew_; (first | rw [← Ny702.out] at ho6 | (simp only [Int.reduceToNat] at ho6; rw [← Ny702.out] at ho6)); have n0_ := Aside0.mk (Kd.R_lower ho6 (below_size (hb1_ HB.out GE701.out))); have n1_ := Aside0.mk (bb_ BK701.out hb); have n2_ := Aside0.mk (below_step (hb1_ HB.out GE701.out) hb); clear BK701; clear HB; have HO704 := n0_; have BK701 := n1_; have HB := n2_; clear n0_ n1_ n2_; clear hb ho6))
  (try simp only [Act.put, List.setIfInBounds_toArray, List.set_cons_zero, List.set_cons_succ])
  go_cut [19] (fun v19 wc => ∃ (kq : Nat) (x19_2 : Bool), v19 = .bool x19_2 ∧ Aside0 (spec_BusStray.j0 kq l1 y702 x19_2 a0_0 a0_1 l0_2 = some r) ∧ Aside0 (kq ≤ k) ∧ Aside0 (Kd.R (Kd.int .i64) 3 wc w.heap.size (fun _ => True) v703 y702) ∧ Aside0 (wc.heap[gb701]? = some (.cells #[.int .i64 a0_0, .int .i64 a0_1, (.slice A0_2 l0_2.length c0_2)] 59 (0, 0))) ∧ Aside0 (Below w.heap.size w wc))
  case first =>
    have H := HC3.out
    clear HC3
    replace H := Option.bind_eq_some_iff.mp H
    obtain ⟨t705, A70, H⟩ := H
    replace H : (if t705 = true then ((spec_BusOk.f k l1).bind fun t706 => (spec_BusStray.j0 k l1 y702 (!t706) a0_0 a0_1 l0_2)) else (spec_BusStray.j0 k l1 y702 true a0_0 a0_1 l0_2)) = some r := H
    have A7 := Aside0.mk A70
    clear A70
    by_cases c8 : t705 = true
    · subst c8
      have H1 : ((spec_BusOk.f k l1).bind fun t706 => (spec_BusStray.j0 k l1 y702 (!t706) a0_0 a0_1 l0_2)) = some r := by rw [if_pos rfl] at H; exact H
      clear H
      have H := H1
      clear H1
      replace H := Option.bind_eq_some_iff.mp H
      obtain ⟨t706, A90, H⟩ := H
      replace H : (spec_BusStray.j0 k l1 y702 (!t706) a0_0 a0_1 l0_2) = some r := H
      have A9 := Aside0.mk A90
      clear A90
      have H' := Aside0.mk H
      clear H
      have hcz10_0 := bc_ BK701.out 0 (.int .i64 a0_0) rfl
      have hcz10_1 := bc_ BK701.out 1 (.int .i64 a0_1) rfl
      have hcz10_2 := bc_ BK701.out 2 (.slice A0_2 l0_2.length c0_2) rfl
      have hfz10_0 := blk_frozen BK701.out 0
      have hfz10_1 := blk_frozen BK701.out 1
      have hfz10_2 := blk_frozen BK701.out 2
      go_wp2_with (first | ((with_reducible refine gate_callee (f := 40) rfl ?_); refine goesL_ (some 13) rfl rfl Try.func40 (by kernel_rfl) rfl #[.agg #[.int .i64 a0_0, .int .i64 a0_1, .slice A0_2 l0_2.length c0_2]] rfl arr_ ?_; (with_reducible refine (spec_PlanOk.calls k a0_0 a0_1 _ _ l0_2 true _ ?side1 ?side2 A7.out).mono ?_); (case side1 => exact kc_ (Kd.C_below HR0_2.out HB.out)); (case side2 => exact HC0_2.out); rintro e w11 ⟨rfl, hb⟩; refine ⟨_, rfl, ?_⟩; have n0_ := Aside0.mk (Kd.R_below (by (with_reducible repeat (first | apply Kd.R_alloc | apply Kd.R_drewN | apply Kd.R_drew)); exact HO704.out) hb); have n1_ := Aside0.mk (bb_ BK701.out hb); have n2_ := Aside0.mk (below_step (hb1_ HB.out GE701.out) hb); clear HO704; clear BK701; clear HB; have HO704 := n0_; have BK701 := n1_; have HB := n2_; clear n0_ n1_ n2_; (try clear hb); (try clear hb2); (try clear hk); (try clear hi)) | (go_at_call 14; (with_reducible refine (spec_BusOk.calls k _ _ l1 t706 _ ?side1 ?side2 A9.out).mono ?_); (case side1 => exact kc_ (Kd.C_below HR1.out HB.out)); (case side2 => exact HC1.out); rintro e w12 ⟨rfl, hb⟩; have n0_ := Aside0.mk (Kd.R_below (by (with_reducible repeat (first | apply Kd.R_alloc | apply Kd.R_drewN | apply Kd.R_drew)); exact HO704.out) hb); have n1_ := Aside0.mk (bb_ BK701.out hb); have n2_ := Aside0.mk (below_step (hb1_ HB.out GE701.out) hb); clear HO704; clear BK701; clear HB; have HO704 := n0_; have BK701 := n1_; have HB := n2_; clear n0_ n1_ n2_; (try clear hb); (try clear hb2); (try clear hk); (try clear hi)))
      go_meet
      case rel => exact ⟨_, (!t706), (by first | rfl | (simp; done) | (simp [*]; done)), H', ⟨by first | omega | exact Nat.le_refl _⟩, ⟨by (with_reducible repeat (first | apply Kd.R_alloc | apply Kd.R_drewN | apply Kd.R_drew)); exact HO704.out⟩, ⟨bk_ BK701.out⟩, ⟨hb1_ HB.out GE701.out⟩⟩
    · replace c8 := Bool.eq_false_iff.mpr c8
      subst c8
      have H1 : (spec_BusStray.j0 k l1 y702 true a0_0 a0_1 l0_2) = some r := by rw [if_neg (show ¬ (false = true) by decide)] at H; exact H
      clear H
      have H := H1
      clear H1
      have H' := Aside0.mk H
      clear H
      have hcz13_0 := bc_ BK701.out 0 (.int .i64 a0_0) rfl
      have hcz13_1 := bc_ BK701.out 1 (.int .i64 a0_1) rfl
      have hcz13_2 := bc_ BK701.out 2 (.slice A0_2 l0_2.length c0_2) rfl
      have hfz13_0 := blk_frozen BK701.out 0
      have hfz13_1 := blk_frozen BK701.out 1
      have hfz13_2 := blk_frozen BK701.out 2
      go_wp2_with (first | ((with_reducible refine gate_callee (f := 40) rfl ?_); refine goesL_ (some 13) rfl rfl Try.func40 (by kernel_rfl) rfl #[.agg #[.int .i64 a0_0, .int .i64 a0_1, .slice A0_2 l0_2.length c0_2]] rfl arr_ ?_; (with_reducible refine (spec_PlanOk.calls k a0_0 a0_1 _ _ l0_2 false _ ?side1 ?side2 A7.out).mono ?_); (case side1 => exact kc_ (Kd.C_below HR0_2.out HB.out)); (case side2 => exact HC0_2.out); rintro e w14 ⟨rfl, hb⟩; refine ⟨_, rfl, ?_⟩; have n0_ := Aside0.mk (Kd.R_below (by (with_reducible repeat (first | apply Kd.R_alloc | apply Kd.R_drewN | apply Kd.R_drew)); exact HO704.out) hb); have n1_ := Aside0.mk (bb_ BK701.out hb); have n2_ := Aside0.mk (below_step (hb1_ HB.out GE701.out) hb); clear HO704; clear BK701; clear HB; have HO704 := n0_; have BK701 := n1_; have HB := n2_; clear n0_ n1_ n2_; (try clear hb); (try clear hb2); (try clear hk); (try clear hi)))
      go_meet
      case rel => exact ⟨_, (true), (by first | rfl | (simp; done) | (simp [*]; done)), H', ⟨by first | omega | exact Nat.le_refl _⟩, ⟨by (with_reducible repeat (first | apply Kd.R_alloc | apply Kd.R_drewN | apply Kd.R_drew)); exact HO704.out⟩, ⟨bk_ BK701.out⟩, ⟨hb1_ HB.out GE701.out⟩⟩
  case rest =>
    clear HC3
    try clear c1
    try clear p2
    try clear c3
    try clear c4
    try clear c8
    try clear hcz10_0
    try clear hcz10_1
    try clear hcz10_2
    try clear hcz13_0
    try clear hcz13_1
    try clear hcz13_2
    try clear hfz10_0
    try clear hfz10_1
    try clear hfz10_2
    try clear hfz13_0
    try clear hfz13_1
    try clear hfz13_2
    obtain ⟨kq, x19_2, rfl, HA, HJ2, HO_5, BK701, HB⟩ := hcut
    cases kq with
    | zero => exact absurd HA.out (by simp [spec_BusStray.j0])
    | succ kj2 =>
      have H := HA.out
      clear HA
      simp only [spec_BusStray.j0] at H
      by_cases c15 : x19_2 = true
      · subst c15
        have H1 : (some y702) = some r := by rw [if_pos rfl] at H; exact H
        clear H
        have H := H1
        clear H1
        obtain rfl := Option.some.inj H
        go_wp2
        go_ret
        exact ⟨_, er_, by (with_reducible repeat (first | apply Kd.R_alloc | apply Kd.R_drewN | apply Kd.R_drew)); exact HO_5.out, hb1_ HB.out GE701.out⟩
      · replace c15 := Bool.eq_false_iff.mpr c15
        subst c15
        have H1 : (spec_BusStray.l0 kj2 l1 y702 0 a0_0 a0_1 l0_2) = some r := by rw [if_neg (show ¬ (false = true) by decide)] at H; exact H
        clear H
        have H := H1
        clear H1
        have H' := Aside0.mk H
        clear H
        go_wp2
        go_loopg [5, 6] kj2 (fun kq v5 v6 w' => ∃ (x5_2 : List Int) (x6_2 : Int), v6 = .int .i64 x6_2 ∧ Aside0 (spec_BusStray.l0 kq l1 x5_2 x6_2 a0_0 a0_1 l0_2 = some r) ∧ Aside0 (kq ≤ kj2) ∧ Aside0 (Kd.R (Kd.int .i64) 3 w' w.heap.size (fun _ => True) v5 x5_2) ∧ Aside0 (w'.heap[gb701]? = some (.cells #[.int .i64 a0_0, .int .i64 a0_1, (.slice A0_2 l0_2.length c0_2)] 59 (0, 0))) ∧ Aside0 (Below w.heap.size w w'))
        case atStart => exact ⟨(y702), (0), (by first | rfl | (simp; done) | (simp [*]; done)), H', ⟨Nat.le_refl _⟩, ⟨by (with_reducible repeat (first | apply Kd.R_alloc | apply Kd.R_drewN | apply Kd.R_drew)); exact HO_5.out⟩, ⟨bk_ BK701.out⟩, ⟨hb1_ HB.out GE701.out⟩⟩
        case round =>
          clear H'
          try clear c1
          try clear p2
          try clear c3
          try clear c4
          try clear c8
          try clear c15
          try clear hcz10_0
          try clear hcz10_1
          try clear hcz10_2
          try clear hcz13_0
          try clear hcz13_1
          try clear hcz13_2
          try clear hfz10_0
          try clear hfz10_1
          try clear hfz10_2
          try clear hfz13_0
          try clear hfz13_1
          try clear hfz13_2
          try clear p2
          obtain ⟨x5_2, x6_2, rfl, HA, HK2, HO_5, BK701, HB⟩ := hrel
          cases gk with
          | zero => exact absurd HA.out (by simp [spec_BusStray.l0])
          | succ k2 =>
            have H := HA.out
            clear HA
            simp only [spec_BusStray.l0] at H
            by_cases c16 : x6_2 < (l1.length : Int)
            · rw [if_pos c16] at H
              have c16b0 : decide (x6_2 < (l1.length : Int)) = true := decide_eq_true c16
              clear c16
              by_cases c17 : 0 ≤ x6_2
              · rw [if_pos c17] at H
                have c17b0 : decide (0 ≤ x6_2) = true := decide_eq_true c17
                clear c17
                replace H := Option.bind_eq_some_iff.mp H
                obtain ⟨⟨t709, t710, t711⟩, A180, H⟩ := H
                replace H : (if t711 = true then (if t709 = ((rd_T33 l1 x6_2).f1) then (if t710 = ((rd_T33 l1 x6_2).f2) then (spec_BusStray.l0 k2 l1 x5_2 (wrap64 (x6_2 + 1)) a0_0 a0_1 l0_2) else (if x5_2.length < 17592186044416 then (spec_BusStray.l0 k2 l1 (x5_2 ++ [x6_2]) (wrap64 (x6_2 + 1)) a0_0 a0_1 l0_2) else (none))) else (if x5_2.length < 17592186044416 then (spec_BusStray.l0 k2 l1 (x5_2 ++ [x6_2]) (wrap64 (x6_2 + 1)) a0_0 a0_1 l0_2) else (none))) else (if x5_2.length < 17592186044416 then (spec_BusStray.l0 k2 l1 (x5_2 ++ [x6_2]) (wrap64 (x6_2 + 1)) a0_0 a0_1 l0_2) else (none))) = some r := H
                have A18 := Aside0.mk A180
                clear A180
                by_cases c19 : t711 = true
                · subst c19
                  have H1 : (if t709 = ((rd_T33 l1 x6_2).f1) then (if t710 = ((rd_T33 l1 x6_2).f2) then (spec_BusStray.l0 k2 l1 x5_2 (wrap64 (x6_2 + 1)) a0_0 a0_1 l0_2) else (if x5_2.length < 17592186044416 then (spec_BusStray.l0 k2 l1 (x5_2 ++ [x6_2]) (wrap64 (x6_2 + 1)) a0_0 a0_1 l0_2) else (none))) else (if x5_2.length < 17592186044416 then (spec_BusStray.l0 k2 l1 (x5_2 ++ [x6_2]) (wrap64 (x6_2 + 1)) a0_0 a0_1 l0_2) else (none))) = some r := by rw [if_pos rfl] at H; exact H
                  clear H
                  have H := H1
                  clear H1
                  by_cases c20 : t709 = ((rd_T33 l1 x6_2).f1)
                  · rw [if_pos c20] at H
                    have c20b0 : (t709 == ((rd_T33 l1 x6_2).f1)) = true := beq_iff_eq.mpr c20
                    have c20b1 : (t709 != ((rd_T33 l1 x6_2).f1)) = false := bne_eq_false_iff_eq.mpr c20
                    clear c20
                    by_cases c21 : t710 = ((rd_T33 l1 x6_2).f2)
                    · rw [if_pos c21] at H
                      have c21b0 : (t710 == ((rd_T33 l1 x6_2).f2)) = true := beq_iff_eq.mpr c21
                      have c21b1 : (t710 != ((rd_T33 l1 x6_2).f2)) = false := bne_eq_false_iff_eq.mpr c21
                      clear c21
                      have H' := Aside0.mk H
                      clear H
                      have p707 : 0 ≤ (x6_2 : Int) := of_decide_eq_true (by first | (with_reducible assumption) | assumption)
                      have q707 : x6_2 < (l1.length : Int) := of_decide_eq_true (by first | (with_reducible assumption) | assumption)
                      obtain ⟨ad707, e707, hx707_0, hx707_1, hx707_2, hx707_3, hx707_4, hx707_5⟩ := at_T33 HR1.out x6_2 p707 q707
                      cases e707
                      replace hx707_0 := (HB.out.cell (World.block_lt_of_cell? w _ hx707_0)).trans hx707_0
                      replace hx707_1 := (HB.out.cell (World.block_lt_of_cell? w _ hx707_1)).trans hx707_1
                      replace hx707_2 := (HB.out.cell (World.block_lt_of_cell? w _ hx707_2)).trans hx707_2
                      replace hx707_3 := (HB.out.cell (World.block_lt_of_cell? w _ hx707_3)).trans hx707_3
                      replace hx707_4 := (HB.out.cell (World.block_lt_of_cell? w _ hx707_4)).trans hx707_4
                      replace hx707_5 := (HB.out.cell (World.block_lt_of_cell? w _ hx707_5)).trans hx707_5
                      replace p707 := eq_true p707
                      replace q707 := eq_true q707
                      go_wp2_with (first | ((with_reducible refine gate_dst (N := 7) rfl ?_); refine box_event ?hg (N := 7) ?hd (cs := #[.int .i64 0, .int .i64 0, .int .i64 0, .int .i64 0, .int .i64 0, .string (⟨#[]⟩ : ByteArray)]) (t := 33) ?hr ?_; (case hd => rfl); (case hg => rfl); (case hr => first | (go_simp; done) | (go_simp; rfl)); intro gb708 hg w22 hbox hb; have n0_ := Aside0.mk (Kd.R_below (by (with_reducible repeat (first | apply Kd.R_alloc | apply Kd.R_drewN | apply Kd.R_drew)); exact HO_5.out) hb); have n1_ := Aside0.mk (bb_ BK701.out hb); have n2_ := Aside0.mk (below_step (hb1_ HB.out GE701.out) hb); have n3_ := Aside0.mk (hbox); have n4_ := Aside0.mk ((by rw [hg]; exact (below_size (hb1_ HB.out GE701.out)) : w.heap.size ≤ gb708)); have n5_ := Aside0.mk ((by rw [hg]; exact (below_size (hb1_ HB.out GE701.out)) : w.heap.size ≤ gb708)); have n6_ := Aside0.mk ((bl_ hg BK701.out : gb701 ≠ gb708)); have n7_ := Aside0.mk ((bg_ hg BK701.out : gb708 ≠ gb701)); clear HO_5; clear BK701; clear HB; have HO_5 := n0_; have BK701 := n1_; have HB := n2_; have BK708 := n3_; have GW708 := n4_; have GE708 := n5_; have NB701_708 := n6_; have NB708_701 := n7_; clear n0_ n1_ n2_ n3_ n4_ n5_ n6_ n7_; clear hb hbox hg; have hnb23 := NB708_701.out; have hnc23 := NB701_708.out; have hcz24_0 := bc_ BK708.out 0 (.int .i64 0) rfl; have hcz24_1 := bc_ BK708.out 1 (.int .i64 0) rfl; have hcz24_2 := bc_ BK708.out 2 (.int .i64 0) rfl; have hcz24_3 := bc_ BK708.out 3 (.int .i64 0) rfl; have hcz24_4 := bc_ BK708.out 4 (.int .i64 0) rfl; have hcz24_5 : w22.cell? ⟨gb708, 5, none⟩ = some (.string (⟨#[]⟩ : ByteArray)) := (blk_cell BK708.out 5).trans rfl; have hfz24_0 := blk_frozen BK708.out 0; have hfz24_1 := blk_frozen BK708.out 1; have hfz24_2 := blk_frozen BK708.out 2; have hfz24_3 := blk_frozen BK708.out 3; have hfz24_4 := blk_frozen BK708.out 4; have hfz24_5 := blk_frozen BK708.out 5; have hcz25_0 := bc_ BK701.out 0 (.int .i64 a0_0) rfl; have hcz25_1 := bc_ BK701.out 1 (.int .i64 a0_1) rfl; have hcz25_2 := bc_ BK701.out 2 (.slice A0_2 l0_2.length c0_2) rfl; have hfz25_0 := blk_frozen BK701.out 0; have hfz25_1 := blk_frozen BK701.out 1; have hfz25_2 := blk_frozen BK701.out 2) | ((with_reducible refine gate_callee (f := 74) rfl ?_); refine goesL_ (some 39) rfl rfl Try.func74 (by kernel_rfl) rfl #[.agg #[.int .i64 a0_0, .int .i64 a0_1, .slice A0_2 l0_2.length c0_2], .int .i64 ((rd_T33 l1 x6_2).f0), .int .i64 ((rd_T33 l1 x6_2).f3), .int .i64 ((rd_T33 l1 x6_2).f4)] rfl arr_ ?_; (with_reducible refine (spec_InSlot.calls k2 a0_0 a0_1 _ _ l0_2 ((rd_T33 l1 x6_2).f0) ((rd_T33 l1 x6_2).f3) ((rd_T33 l1 x6_2).f4) t709 t710 true _ ?side1 ?side2 A18.out).mono ?_); (case side1 => exact Kd.C_below HR0_2.out (hb2_ HB.out GE701.out GE708.out)); (case side2 => exact HC0_2.out); rintro e w26 ⟨rfl, hb⟩; refine ⟨_, rfl, ?_⟩; have n0_ := Aside0.mk (Kd.R_below (by (with_reducible repeat (first | apply Kd.R_alloc | apply Kd.R_drewN | apply Kd.R_drew)); exact (Kd.R_mono (Kd.R_far (p := ⟨gb708, 5, none⟩) (Kd.R_far (p := ⟨gb708, 4, none⟩) (Kd.R_far (p := ⟨gb708, 3, none⟩) (Kd.R_far (p := ⟨gb708, 2, none⟩) (Kd.R_far (p := ⟨gb708, 1, none⟩) (Kd.R_far (p := ⟨gb708, 0, none⟩) (Kd.R_types HO_5.out BK708.out (by decide)) (fun _ hk => hk.2) (.int .i64 ((rd_T33 l1 x6_2).f0))) (fun _ hk => hk.2) (.int .i64 ((rd_T33 l1 x6_2).f1))) (fun _ hk => hk.2) (.int .i64 ((rd_T33 l1 x6_2).f2))) (fun _ hk => hk.2) (.int .i64 ((rd_T33 l1 x6_2).f3))) (fun _ hk => hk.2) (.int .i64 ((rd_T33 l1 x6_2).f4))) (fun _ hk => hk.2) (.string ((rd_T33 l1 x6_2).f5))) (fun _ h_ => h_.1))) hb); have n1_ := Aside0.mk (blk_below (g := gb701) (o := .cells #[.int .i64 a0_0, .int .i64 a0_1, .slice A0_2 l0_2.length c0_2] 59 (0, 0)) (by (with_reducible repeat (first | refine blk_drewN ?_ _ | refine blk_drew ?_ | refine blk_alloc ?_ _)); refine blk_far ?_ NB701_708.out _; (with_reducible repeat (first | refine blk_drewN ?_ _ | refine blk_drew ?_ | refine blk_alloc ?_ _)); refine blk_far ?_ NB701_708.out _; (with_reducible repeat (first | refine blk_drewN ?_ _ | refine blk_drew ?_ | refine blk_alloc ?_ _)); refine blk_far ?_ NB701_708.out _; (with_reducible repeat (first | refine blk_drewN ?_ _ | refine blk_drew ?_ | refine blk_alloc ?_ _)); refine blk_far ?_ NB701_708.out _; (with_reducible repeat (first | refine blk_drewN ?_ _ | refine blk_drew ?_ | refine blk_alloc ?_ _)); refine blk_far ?_ NB701_708.out _; (with_reducible repeat (first | refine blk_drewN ?_ _ | refine blk_drew ?_ | refine blk_alloc ?_ _)); refine blk_far ?_ NB701_708.out _; (with_reducible repeat (first | refine blk_drewN ?_ _ | refine blk_drew ?_ | refine blk_alloc ?_ _)); exact BK701.out) hb); have n2_ := Aside0.mk (blk_below (g := gb708) (o := .cells #[.int .i64 ((rd_T33 l1 x6_2).f0), .int .i64 ((rd_T33 l1 x6_2).f1), .int .i64 ((rd_T33 l1 x6_2).f2), .int .i64 ((rd_T33 l1 x6_2).f3), .int .i64 ((rd_T33 l1 x6_2).f4), .string ((rd_T33 l1 x6_2).f5)] 33 (0, 0)) (by (with_reducible repeat (first | refine blk_drewN ?_ _ | refine blk_drew ?_ | refine blk_alloc ?_ _)); refine blk_put (cs := #[.int .i64 ((rd_T33 l1 x6_2).f0), .int .i64 ((rd_T33 l1 x6_2).f1), .int .i64 ((rd_T33 l1 x6_2).f2), .int .i64 ((rd_T33 l1 x6_2).f3), .int .i64 ((rd_T33 l1 x6_2).f4), .string (⟨#[]⟩ : ByteArray)]) ?_ 5 _ rfl; (with_reducible repeat (first | refine blk_drewN ?_ _ | refine blk_drew ?_ | refine blk_alloc ?_ _)); refine blk_put (cs := #[.int .i64 ((rd_T33 l1 x6_2).f0), .int .i64 ((rd_T33 l1 x6_2).f1), .int .i64 ((rd_T33 l1 x6_2).f2), .int .i64 ((rd_T33 l1 x6_2).f3), .int .i64 0, .string (⟨#[]⟩ : ByteArray)]) ?_ 4 _ rfl; (with_reducible repeat (first | refine blk_drewN ?_ _ | refine blk_drew ?_ | refine blk_alloc ?_ _)); refine blk_put (cs := #[.int .i64 ((rd_T33 l1 x6_2).f0), .int .i64 ((rd_T33 l1 x6_2).f1), .int .i64 ((rd_T33 l1 x6_2).f2), .int .i64 0, .int .i64 0, .string (⟨#[]⟩ : ByteArray)]) ?_ 3 _ rfl; (with_reducible repeat (first | refine blk_drewN ?_ _ | refine blk_drew ?_ | refine blk_alloc ?_ _)); refine blk_put (cs := #[.int .i64 ((rd_T33 l1 x6_2).f0), .int .i64 ((rd_T33 l1 x6_2).f1), .int .i64 0, .int .i64 0, .int .i64 0, .string (⟨#[]⟩ : ByteArray)]) ?_ 2 _ rfl; (with_reducible repeat (first | refine blk_drewN ?_ _ | refine blk_drew ?_ | refine blk_alloc ?_ _)); refine blk_put (cs := #[.int .i64 ((rd_T33 l1 x6_2).f0), .int .i64 0, .int .i64 0, .int .i64 0, .int .i64 0, .string (⟨#[]⟩ : ByteArray)]) ?_ 1 _ rfl; (with_reducible repeat (first | refine blk_drewN ?_ _ | refine blk_drew ?_ | refine blk_alloc ?_ _)); refine blk_put (cs := #[.int .i64 0, .int .i64 0, .int .i64 0, .int .i64 0, .int .i64 0, .string (⟨#[]⟩ : ByteArray)]) ?_ 0 _ rfl; (with_reducible repeat (first | refine blk_drewN ?_ _ | refine blk_drew ?_ | refine blk_alloc ?_ _)); exact BK708.out) hb); have n3_ := Aside0.mk (below_step (hb2_ HB.out GE701.out GE708.out) hb); clear HO_5; clear BK701; clear BK708; clear HB; have HO_5 := n0_; have BK701 := n1_; have BK708 := n2_; have HB := n3_; clear n0_ n1_ n2_ n3_; (try clear hb); (try clear hb2); (try clear hk); (try clear hi); have hcz27_0 : w26.cell? ⟨gb708, 0, none⟩ = some (.int .i64 ((rd_T33 l1 x6_2).f0)) := (blk_cell BK708.out 0).trans rfl; have hcz27_1 : w26.cell? ⟨gb708, 1, none⟩ = some (.int .i64 ((rd_T33 l1 x6_2).f1)) := (blk_cell BK708.out 1).trans rfl; have hcz27_2 : w26.cell? ⟨gb708, 2, none⟩ = some (.int .i64 ((rd_T33 l1 x6_2).f2)) := (blk_cell BK708.out 2).trans rfl; have hcz27_3 : w26.cell? ⟨gb708, 3, none⟩ = some (.int .i64 ((rd_T33 l1 x6_2).f3)) := (blk_cell BK708.out 3).trans rfl; have hcz27_4 : w26.cell? ⟨gb708, 4, none⟩ = some (.int .i64 ((rd_T33 l1 x6_2).f4)) := (blk_cell BK708.out 4).trans rfl; have hcz27_5 : w26.cell? ⟨gb708, 5, none⟩ = some (.string ((rd_T33 l1 x6_2).f5)) := (blk_cell BK708.out 5).trans rfl; have hfz27_0 := blk_frozen BK708.out 0; have hfz27_1 := blk_frozen BK708.out 1; have hfz27_2 := blk_frozen BK708.out 2; have hfz27_3 := blk_frozen BK708.out 3; have hfz27_4 := blk_frozen BK708.out 4; have hfz27_5 := blk_frozen BK708.out 5))
                      go_roundg k2
                      case measure => have := HJ2.out; have := HK2.out; omega
                      case rel => exact ⟨(x5_2), (wrap64 (x6_2 + 1)), (by first | rfl | (simp; done) | (simp [*]; done)), H', ⟨by have := HJ2.out; have := HK2.out; omega⟩, ⟨by (with_reducible repeat (first | apply Kd.R_alloc | apply Kd.R_drewN | apply Kd.R_drew)); exact HO_5.out⟩, ⟨bk_ BK701.out⟩, ⟨hb2_ HB.out GE701.out GE708.out⟩⟩
                    · rw [if_neg c21] at H
                      have c21b0 : (t710 == ((rd_T33 l1 x6_2).f2)) = false := beq_eq_false_iff_ne.mpr c21
                      have c21b1 : (t710 != ((rd_T33 l1 x6_2).f2)) = true := bne_iff_ne.mpr c21
                      by_cases c28 : x5_2.length < 17592186044416
                      · rw [if_pos c28] at H
                        have LMc28 := Aside0.mk c28
                        clear c28
                        obtain ⟨y712, hy712⟩ : ∃ y_ : List Int, y_ = (x5_2 ++ [x6_2]) := ⟨_, rfl⟩
                        replace H : (spec_BusStray.l0 k2 l1 y712 (wrap64 (x6_2 + 1)) a0_0 a0_1 l0_2) = some r := by first | (rw [hy712]; with_reducible exact H) | (have H2_ := (Option.bind_some _ _).symm.trans H; rw [hy712]; with_reducible exact H2_) | (have H2_ := (Option.bind_some _ _).symm.trans H; with_reducible exact H2_) | with_reducible exact H | (rw [hy712]; exact H) | exact H
                        have Ny712 := Aside0.mk hy712
                        clear hy712
                        have H' := Aside0.mk H
                        clear H
                        have p707 : 0 ≤ (x6_2 : Int) := of_decide_eq_true (by first | (with_reducible assumption) | assumption)
                        have q707 : x6_2 < (l1.length : Int) := of_decide_eq_true (by first | (with_reducible assumption) | assumption)
                        obtain ⟨ad707, e707, hx707_0, hx707_1, hx707_2, hx707_3, hx707_4, hx707_5⟩ := at_T33 HR1.out x6_2 p707 q707
                        cases e707
                        replace hx707_0 := (HB.out.cell (World.block_lt_of_cell? w _ hx707_0)).trans hx707_0
                        replace hx707_1 := (HB.out.cell (World.block_lt_of_cell? w _ hx707_1)).trans hx707_1
                        replace hx707_2 := (HB.out.cell (World.block_lt_of_cell? w _ hx707_2)).trans hx707_2
                        replace hx707_3 := (HB.out.cell (World.block_lt_of_cell? w _ hx707_3)).trans hx707_3
                        replace hx707_4 := (HB.out.cell (World.block_lt_of_cell? w _ hx707_4)).trans hx707_4
                        replace hx707_5 := (HB.out.cell (World.block_lt_of_cell? w _ hx707_5)).trans hx707_5
                        replace p707 := eq_true p707
                        replace q707 := eq_true q707
                        go_wp2_with (first | ((with_reducible refine gate_dst (N := 7) rfl ?_); refine box_event ?hg (N := 7) ?hd (cs := #[.int .i64 0, .int .i64 0, .int .i64 0, .int .i64 0, .int .i64 0, .string (⟨#[]⟩ : ByteArray)]) (t := 33) ?hr ?_; (case hd => rfl); (case hg => rfl); (case hr => first | (go_simp; done) | (go_simp; rfl)); intro gb708 hg w29 hbox hb; have n0_ := Aside0.mk (Kd.R_below (by (with_reducible repeat (first | apply Kd.R_alloc | apply Kd.R_drewN | apply Kd.R_drew)); exact HO_5.out) hb); have n1_ := Aside0.mk (bb_ BK701.out hb); have n2_ := Aside0.mk (below_step (hb1_ HB.out GE701.out) hb); have n3_ := Aside0.mk (hbox); have n4_ := Aside0.mk ((by rw [hg]; exact (below_size (hb1_ HB.out GE701.out)) : w.heap.size ≤ gb708)); have n5_ := Aside0.mk ((by rw [hg]; exact (below_size (hb1_ HB.out GE701.out)) : w.heap.size ≤ gb708)); have n6_ := Aside0.mk ((bl_ hg BK701.out : gb701 ≠ gb708)); have n7_ := Aside0.mk ((bg_ hg BK701.out : gb708 ≠ gb701)); clear HO_5; clear BK701; clear HB; have HO_5 := n0_; have BK701 := n1_; have HB := n2_; have BK708 := n3_; have GW708 := n4_; have GE708 := n5_; have NB701_708 := n6_; have NB708_701 := n7_; clear n0_ n1_ n2_ n3_ n4_ n5_ n6_ n7_; clear hb hbox hg; have hnb30 := NB708_701.out; have hnc30 := NB701_708.out; have hcz31_0 := bc_ BK708.out 0 (.int .i64 0) rfl; have hcz31_1 := bc_ BK708.out 1 (.int .i64 0) rfl; have hcz31_2 := bc_ BK708.out 2 (.int .i64 0) rfl; have hcz31_3 := bc_ BK708.out 3 (.int .i64 0) rfl; have hcz31_4 := bc_ BK708.out 4 (.int .i64 0) rfl; have hcz31_5 : w29.cell? ⟨gb708, 5, none⟩ = some (.string (⟨#[]⟩ : ByteArray)) := (blk_cell BK708.out 5).trans rfl; have hfz31_0 := blk_frozen BK708.out 0; have hfz31_1 := blk_frozen BK708.out 1; have hfz31_2 := blk_frozen BK708.out 2; have hfz31_3 := blk_frozen BK708.out 3; have hfz31_4 := blk_frozen BK708.out 4; have hfz31_5 := blk_frozen BK708.out 5; have hcz32_0 := bc_ BK701.out 0 (.int .i64 a0_0) rfl; have hcz32_1 := bc_ BK701.out 1 (.int .i64 a0_1) rfl; have hcz32_2 := bc_ BK701.out 2 (.slice A0_2 l0_2.length c0_2) rfl; have hfz32_0 := blk_frozen BK701.out 0; have hfz32_1 := blk_frozen BK701.out 1; have hfz32_2 := blk_frozen BK701.out 2) | ((with_reducible refine gate_callee (f := 74) rfl ?_); refine goesL_ (some 39) rfl rfl Try.func74 (by kernel_rfl) rfl #[.agg #[.int .i64 a0_0, .int .i64 a0_1, .slice A0_2 l0_2.length c0_2], .int .i64 ((rd_T33 l1 x6_2).f0), .int .i64 ((rd_T33 l1 x6_2).f3), .int .i64 ((rd_T33 l1 x6_2).f4)] rfl arr_ ?_; (with_reducible refine (spec_InSlot.calls k2 a0_0 a0_1 _ _ l0_2 ((rd_T33 l1 x6_2).f0) ((rd_T33 l1 x6_2).f3) ((rd_T33 l1 x6_2).f4) t709 t710 true _ ?side1 ?side2 A18.out).mono ?_); (case side1 => exact Kd.C_below HR0_2.out (hb2_ HB.out GE701.out GE708.out)); (case side2 => exact HC0_2.out); rintro e w33 ⟨rfl, hb⟩; refine ⟨_, rfl, ?_⟩; have n0_ := Aside0.mk (Kd.R_below (by (with_reducible repeat (first | apply Kd.R_alloc | apply Kd.R_drewN | apply Kd.R_drew)); exact (Kd.R_mono (Kd.R_far (p := ⟨gb708, 5, none⟩) (Kd.R_far (p := ⟨gb708, 4, none⟩) (Kd.R_far (p := ⟨gb708, 3, none⟩) (Kd.R_far (p := ⟨gb708, 2, none⟩) (Kd.R_far (p := ⟨gb708, 1, none⟩) (Kd.R_far (p := ⟨gb708, 0, none⟩) (Kd.R_types HO_5.out BK708.out (by decide)) (fun _ hk => hk.2) (.int .i64 ((rd_T33 l1 x6_2).f0))) (fun _ hk => hk.2) (.int .i64 ((rd_T33 l1 x6_2).f1))) (fun _ hk => hk.2) (.int .i64 ((rd_T33 l1 x6_2).f2))) (fun _ hk => hk.2) (.int .i64 ((rd_T33 l1 x6_2).f3))) (fun _ hk => hk.2) (.int .i64 ((rd_T33 l1 x6_2).f4))) (fun _ hk => hk.2) (.string ((rd_T33 l1 x6_2).f5))) (fun _ h_ => h_.1))) hb); have n1_ := Aside0.mk (blk_below (g := gb701) (o := .cells #[.int .i64 a0_0, .int .i64 a0_1, .slice A0_2 l0_2.length c0_2] 59 (0, 0)) (by (with_reducible repeat (first | refine blk_drewN ?_ _ | refine blk_drew ?_ | refine blk_alloc ?_ _)); refine blk_far ?_ NB701_708.out _; (with_reducible repeat (first | refine blk_drewN ?_ _ | refine blk_drew ?_ | refine blk_alloc ?_ _)); refine blk_far ?_ NB701_708.out _; (with_reducible repeat (first | refine blk_drewN ?_ _ | refine blk_drew ?_ | refine blk_alloc ?_ _)); refine blk_far ?_ NB701_708.out _; (with_reducible repeat (first | refine blk_drewN ?_ _ | refine blk_drew ?_ | refine blk_alloc ?_ _)); refine blk_far ?_ NB701_708.out _; (with_reducible repeat (first | refine blk_drewN ?_ _ | refine blk_drew ?_ | refine blk_alloc ?_ _)); refine blk_far ?_ NB701_708.out _; (with_reducible repeat (first | refine blk_drewN ?_ _ | refine blk_drew ?_ | refine blk_alloc ?_ _)); refine blk_far ?_ NB701_708.out _; (with_reducible repeat (first | refine blk_drewN ?_ _ | refine blk_drew ?_ | refine blk_alloc ?_ _)); exact BK701.out) hb); have n2_ := Aside0.mk (blk_below (g := gb708) (o := .cells #[.int .i64 ((rd_T33 l1 x6_2).f0), .int .i64 ((rd_T33 l1 x6_2).f1), .int .i64 ((rd_T33 l1 x6_2).f2), .int .i64 ((rd_T33 l1 x6_2).f3), .int .i64 ((rd_T33 l1 x6_2).f4), .string ((rd_T33 l1 x6_2).f5)] 33 (0, 0)) (by (with_reducible repeat (first | refine blk_drewN ?_ _ | refine blk_drew ?_ | refine blk_alloc ?_ _)); refine blk_put (cs := #[.int .i64 ((rd_T33 l1 x6_2).f0), .int .i64 ((rd_T33 l1 x6_2).f1), .int .i64 ((rd_T33 l1 x6_2).f2), .int .i64 ((rd_T33 l1 x6_2).f3), .int .i64 ((rd_T33 l1 x6_2).f4), .string (⟨#[]⟩ : ByteArray)]) ?_ 5 _ rfl; (with_reducible repeat (first | refine blk_drewN ?_ _ | refine blk_drew ?_ | refine blk_alloc ?_ _)); refine blk_put (cs := #[.int .i64 ((rd_T33 l1 x6_2).f0), .int .i64 ((rd_T33 l1 x6_2).f1), .int .i64 ((rd_T33 l1 x6_2).f2), .int .i64 ((rd_T33 l1 x6_2).f3), .int .i64 0, .string (⟨#[]⟩ : ByteArray)]) ?_ 4 _ rfl; (with_reducible repeat (first | refine blk_drewN ?_ _ | refine blk_drew ?_ | refine blk_alloc ?_ _)); refine blk_put (cs := #[.int .i64 ((rd_T33 l1 x6_2).f0), .int .i64 ((rd_T33 l1 x6_2).f1), .int .i64 ((rd_T33 l1 x6_2).f2), .int .i64 0, .int .i64 0, .string (⟨#[]⟩ : ByteArray)]) ?_ 3 _ rfl; (with_reducible repeat (first | refine blk_drewN ?_ _ | refine blk_drew ?_ | refine blk_alloc ?_ _)); refine blk_put (cs := #[.int .i64 ((rd_T33 l1 x6_2).f0), .int .i64 ((rd_T33 l1 x6_2).f1), .int .i64 0, .int .i64 0, .int .i64 0, .string (⟨#[]⟩ : ByteArray)]) ?_ 2 _ rfl; (with_reducible repeat (first | refine blk_drewN ?_ _ | refine blk_drew ?_ | refine blk_alloc ?_ _)); refine blk_put (cs := #[.int .i64 ((rd_T33 l1 x6_2).f0), .int .i64 0, .int .i64 0, .int .i64 0, .int .i64 0, .string (⟨#[]⟩ : ByteArray)]) ?_ 1 _ rfl; (with_reducible repeat (first | refine blk_drewN ?_ _ | refine blk_drew ?_ | refine blk_alloc ?_ _)); refine blk_put (cs := #[.int .i64 0, .int .i64 0, .int .i64 0, .int .i64 0, .int .i64 0, .string (⟨#[]⟩ : ByteArray)]) ?_ 0 _ rfl; (with_reducible repeat (first | refine blk_drewN ?_ _ | refine blk_drew ?_ | refine blk_alloc ?_ _)); exact BK708.out) hb); have n3_ := Aside0.mk (below_step (hb2_ HB.out GE701.out GE708.out) hb); clear HO_5; clear BK701; clear BK708; clear HB; have HO_5 := n0_; have BK701 := n1_; have BK708 := n2_; have HB := n3_; clear n0_ n1_ n2_ n3_; (try clear hb); (try clear hb2); (try clear hk); (try clear hi); have hcz34_0 : w33.cell? ⟨gb708, 0, none⟩ = some (.int .i64 ((rd_T33 l1 x6_2).f0)) := (blk_cell BK708.out 0).trans rfl; have hcz34_1 : w33.cell? ⟨gb708, 1, none⟩ = some (.int .i64 ((rd_T33 l1 x6_2).f1)) := (blk_cell BK708.out 1).trans rfl; have hcz34_2 : w33.cell? ⟨gb708, 2, none⟩ = some (.int .i64 ((rd_T33 l1 x6_2).f2)) := (blk_cell BK708.out 2).trans rfl; have hcz34_3 : w33.cell? ⟨gb708, 3, none⟩ = some (.int .i64 ((rd_T33 l1 x6_2).f3)) := (blk_cell BK708.out 3).trans rfl; have hcz34_4 : w33.cell? ⟨gb708, 4, none⟩ = some (.int .i64 ((rd_T33 l1 x6_2).f4)) := (blk_cell BK708.out 4).trans rfl; have hcz34_5 : w33.cell? ⟨gb708, 5, none⟩ = some (.string ((rd_T33 l1 x6_2).f5)) := (blk_cell BK708.out 5).trans rfl; have hfz34_0 := blk_frozen BK708.out 0; have hfz34_1 := blk_frozen BK708.out 1; have hfz34_2 := blk_frozen BK708.out 2; have hfz34_3 := blk_frozen BK708.out 3; have hfz34_4 := blk_frozen BK708.out 4; have hfz34_5 := blk_frozen BK708.out 5) | ((with_reducible refine gate_builtin (b := .append) (xs := #[.tmp 57, .tmp 59]) rfl ?_); at_builtin; refine Kd.R_append (Kd.int .i64) (w0 := w) w.heap.size rfl (.tmp 57) (.tmp 59) 27 3 (.int .i64 0) 8 rfl Try.underlying27 info3 rfl (by decide) (by omega) u5 x5_2 x6_2 [.int .i64 x6_2] (fun _ => True) (fun _ => False) rfl rfl ?aP (fun _ hk => hk.elim) ?aF ?aO ?aB ?aS ?aL ?_; (case aP => exact rfl); (case aB => exact (hb2_ HB.out GE701.out GE708.out)); (case aF => exact (fun _ _ => trivial)); (case aO => exact (by (with_reducible repeat (first | apply Kd.R_alloc | apply Kd.R_drewN | apply Kd.R_drew)); exact HO_5.out)); (case aS => exact (below_size (hb2_ HB.out GE701.out GE708.out))); (case aL => have := LMc28.out; omega); intro v713 w35 ho hb hg hat; rw [← Ny712.out] at ho; have n0_ := Aside0.mk (blk_grown (g := gb701) (o := .cells #[.int .i64 a0_0, .int .i64 a0_1, .slice A0_2 l0_2.length c0_2] 59 (0, 0)) (bk_ BK701.out) hg (Kd.R_ne HO_5.out BK701.out (by decide))); have n1_ := Aside0.mk (blk_grown (g := gb708) (o := .cells #[.int .i64 ((rd_T33 l1 x6_2).f0), .int .i64 ((rd_T33 l1 x6_2).f1), .int .i64 ((rd_T33 l1 x6_2).f2), .int .i64 ((rd_T33 l1 x6_2).f3), .int .i64 ((rd_T33 l1 x6_2).f4), .string ((rd_T33 l1 x6_2).f5)] 33 (0, 0)) (bk_ BK708.out) hg (Kd.R_ne HO_5.out BK708.out (by decide))); have n2_ := Aside0.mk (hb); have n3_ := Aside0.mk (ho); clear BK701; clear BK708; clear HB; clear HO_5; have BK701 := n0_; have BK708 := n1_; have HB := n2_; have HO714 := n3_; clear n0_ n1_ n2_ n3_; clear ho hb hg hat))
                        go_roundg k2
                        case measure => have := HJ2.out; have := HK2.out; omega
                        case rel => exact ⟨(y712), (wrap64 (x6_2 + 1)), (by first | rfl | (simp; done) | (simp [*]; done)), H', ⟨by have := HJ2.out; have := HK2.out; omega⟩, ⟨by (with_reducible repeat (first | apply Kd.R_alloc | apply Kd.R_drewN | apply Kd.R_drew)); exact HO714.out⟩, ⟨bk_ BK701.out⟩, ⟨hb2_ HB.out GE701.out GE708.out⟩⟩
                      · rw [if_neg c28] at H
                        exact absurd H (by simp)
                  · rw [if_neg c20] at H
                    have c20b0 : (t709 == ((rd_T33 l1 x6_2).f1)) = false := beq_eq_false_iff_ne.mpr c20
                    have c20b1 : (t709 != ((rd_T33 l1 x6_2).f1)) = true := bne_iff_ne.mpr c20
                    by_cases c36 : x5_2.length < 17592186044416
                    · rw [if_pos c36] at H
                      have LMc36 := Aside0.mk c36
                      clear c36
                      obtain ⟨y715, hy715⟩ : ∃ y_ : List Int, y_ = (x5_2 ++ [x6_2]) := ⟨_, rfl⟩
                      replace H : (spec_BusStray.l0 k2 l1 y715 (wrap64 (x6_2 + 1)) a0_0 a0_1 l0_2) = some r := by first | (rw [hy715]; with_reducible exact H) | (have H2_ := (Option.bind_some _ _).symm.trans H; rw [hy715]; with_reducible exact H2_) | (have H2_ := (Option.bind_some _ _).symm.trans H; with_reducible exact H2_) | with_reducible exact H | (rw [hy715]; exact H) | exact H
                      have Ny715 := Aside0.mk hy715
                      clear hy715
                      have H' := Aside0.mk H
                      clear H
                      have p707 : 0 ≤ (x6_2 : Int) := of_decide_eq_true (by first | (with_reducible assumption) | assumption)
                      have q707 : x6_2 < (l1.length : Int) := of_decide_eq_true (by first | (with_reducible assumption) | assumption)
                      obtain ⟨ad707, e707, hx707_0, hx707_1, hx707_2, hx707_3, hx707_4, hx707_5⟩ := at_T33 HR1.out x6_2 p707 q707
                      cases e707
                      replace hx707_0 := (HB.out.cell (World.block_lt_of_cell? w _ hx707_0)).trans hx707_0
                      replace hx707_1 := (HB.out.cell (World.block_lt_of_cell? w _ hx707_1)).trans hx707_1
                      replace hx707_2 := (HB.out.cell (World.block_lt_of_cell? w _ hx707_2)).trans hx707_2
                      replace hx707_3 := (HB.out.cell (World.block_lt_of_cell? w _ hx707_3)).trans hx707_3
                      replace hx707_4 := (HB.out.cell (World.block_lt_of_cell? w _ hx707_4)).trans hx707_4
                      replace hx707_5 := (HB.out.cell (World.block_lt_of_cell? w _ hx707_5)).trans hx707_5
                      replace p707 := eq_true p707
                      replace q707 := eq_true q707
                      go_wp2_with (first | ((with_reducible refine gate_dst (N := 7) rfl ?_); refine box_event ?hg (N := 7) ?hd (cs := #[.int .i64 0, .int .i64 0, .int .i64 0, .int .i64 0, .int .i64 0, .string (⟨#[]⟩ : ByteArray)]) (t := 33) ?hr ?_; (case hd => rfl); (case hg => rfl); (case hr => first | (go_simp; done) | (go_simp; rfl)); intro gb708 hg w37 hbox hb; have n0_ := Aside0.mk (Kd.R_below (by (with_reducible repeat (first | apply Kd.R_alloc | apply Kd.R_drewN | apply Kd.R_drew)); exact HO_5.out) hb); have n1_ := Aside0.mk (bb_ BK701.out hb); have n2_ := Aside0.mk (below_step (hb1_ HB.out GE701.out) hb); have n3_ := Aside0.mk (hbox); have n4_ := Aside0.mk ((by rw [hg]; exact (below_size (hb1_ HB.out GE701.out)) : w.heap.size ≤ gb708)); have n5_ := Aside0.mk ((by rw [hg]; exact (below_size (hb1_ HB.out GE701.out)) : w.heap.size ≤ gb708)); have n6_ := Aside0.mk ((bl_ hg BK701.out : gb701 ≠ gb708)); have n7_ := Aside0.mk ((bg_ hg BK701.out : gb708 ≠ gb701)); clear HO_5; clear BK701; clear HB; have HO_5 := n0_; have BK701 := n1_; have HB := n2_; have BK708 := n3_; have GW708 := n4_; have GE708 := n5_; have NB701_708 := n6_; have NB708_701 := n7_; clear n0_ n1_ n2_ n3_ n4_ n5_ n6_ n7_; clear hb hbox hg; have hnb38 := NB708_701.out; have hnc38 := NB701_708.out; have hcz39_0 := bc_ BK708.out 0 (.int .i64 0) rfl; have hcz39_1 := bc_ BK708.out 1 (.int .i64 0) rfl; have hcz39_2 := bc_ BK708.out 2 (.int .i64 0) rfl; have hcz39_3 := bc_ BK708.out 3 (.int .i64 0) rfl; have hcz39_4 := bc_ BK708.out 4 (.int .i64 0) rfl; have hcz39_5 : w37.cell? ⟨gb708, 5, none⟩ = some (.string (⟨#[]⟩ : ByteArray)) := (blk_cell BK708.out 5).trans rfl; have hfz39_0 := blk_frozen BK708.out 0; have hfz39_1 := blk_frozen BK708.out 1; have hfz39_2 := blk_frozen BK708.out 2; have hfz39_3 := blk_frozen BK708.out 3; have hfz39_4 := blk_frozen BK708.out 4; have hfz39_5 := blk_frozen BK708.out 5; have hcz40_0 := bc_ BK701.out 0 (.int .i64 a0_0) rfl; have hcz40_1 := bc_ BK701.out 1 (.int .i64 a0_1) rfl; have hcz40_2 := bc_ BK701.out 2 (.slice A0_2 l0_2.length c0_2) rfl; have hfz40_0 := blk_frozen BK701.out 0; have hfz40_1 := blk_frozen BK701.out 1; have hfz40_2 := blk_frozen BK701.out 2) | ((with_reducible refine gate_callee (f := 74) rfl ?_); refine goesL_ (some 39) rfl rfl Try.func74 (by kernel_rfl) rfl #[.agg #[.int .i64 a0_0, .int .i64 a0_1, .slice A0_2 l0_2.length c0_2], .int .i64 ((rd_T33 l1 x6_2).f0), .int .i64 ((rd_T33 l1 x6_2).f3), .int .i64 ((rd_T33 l1 x6_2).f4)] rfl arr_ ?_; (with_reducible refine (spec_InSlot.calls k2 a0_0 a0_1 _ _ l0_2 ((rd_T33 l1 x6_2).f0) ((rd_T33 l1 x6_2).f3) ((rd_T33 l1 x6_2).f4) t709 t710 true _ ?side1 ?side2 A18.out).mono ?_); (case side1 => exact Kd.C_below HR0_2.out (hb2_ HB.out GE701.out GE708.out)); (case side2 => exact HC0_2.out); rintro e w41 ⟨rfl, hb⟩; refine ⟨_, rfl, ?_⟩; have n0_ := Aside0.mk (Kd.R_below (by (with_reducible repeat (first | apply Kd.R_alloc | apply Kd.R_drewN | apply Kd.R_drew)); exact (Kd.R_mono (Kd.R_far (p := ⟨gb708, 5, none⟩) (Kd.R_far (p := ⟨gb708, 4, none⟩) (Kd.R_far (p := ⟨gb708, 3, none⟩) (Kd.R_far (p := ⟨gb708, 2, none⟩) (Kd.R_far (p := ⟨gb708, 1, none⟩) (Kd.R_far (p := ⟨gb708, 0, none⟩) (Kd.R_types HO_5.out BK708.out (by decide)) (fun _ hk => hk.2) (.int .i64 ((rd_T33 l1 x6_2).f0))) (fun _ hk => hk.2) (.int .i64 ((rd_T33 l1 x6_2).f1))) (fun _ hk => hk.2) (.int .i64 ((rd_T33 l1 x6_2).f2))) (fun _ hk => hk.2) (.int .i64 ((rd_T33 l1 x6_2).f3))) (fun _ hk => hk.2) (.int .i64 ((rd_T33 l1 x6_2).f4))) (fun _ hk => hk.2) (.string ((rd_T33 l1 x6_2).f5))) (fun _ h_ => h_.1))) hb); have n1_ := Aside0.mk (blk_below (g := gb701) (o := .cells #[.int .i64 a0_0, .int .i64 a0_1, .slice A0_2 l0_2.length c0_2] 59 (0, 0)) (by (with_reducible repeat (first | refine blk_drewN ?_ _ | refine blk_drew ?_ | refine blk_alloc ?_ _)); refine blk_far ?_ NB701_708.out _; (with_reducible repeat (first | refine blk_drewN ?_ _ | refine blk_drew ?_ | refine blk_alloc ?_ _)); refine blk_far ?_ NB701_708.out _; (with_reducible repeat (first | refine blk_drewN ?_ _ | refine blk_drew ?_ | refine blk_alloc ?_ _)); refine blk_far ?_ NB701_708.out _; (with_reducible repeat (first | refine blk_drewN ?_ _ | refine blk_drew ?_ | refine blk_alloc ?_ _)); refine blk_far ?_ NB701_708.out _; (with_reducible repeat (first | refine blk_drewN ?_ _ | refine blk_drew ?_ | refine blk_alloc ?_ _)); refine blk_far ?_ NB701_708.out _; (with_reducible repeat (first | refine blk_drewN ?_ _ | refine blk_drew ?_ | refine blk_alloc ?_ _)); refine blk_far ?_ NB701_708.out _; (with_reducible repeat (first | refine blk_drewN ?_ _ | refine blk_drew ?_ | refine blk_alloc ?_ _)); exact BK701.out) hb); have n2_ := Aside0.mk (blk_below (g := gb708) (o := .cells #[.int .i64 ((rd_T33 l1 x6_2).f0), .int .i64 ((rd_T33 l1 x6_2).f1), .int .i64 ((rd_T33 l1 x6_2).f2), .int .i64 ((rd_T33 l1 x6_2).f3), .int .i64 ((rd_T33 l1 x6_2).f4), .string ((rd_T33 l1 x6_2).f5)] 33 (0, 0)) (by (with_reducible repeat (first | refine blk_drewN ?_ _ | refine blk_drew ?_ | refine blk_alloc ?_ _)); refine blk_put (cs := #[.int .i64 ((rd_T33 l1 x6_2).f0), .int .i64 ((rd_T33 l1 x6_2).f1), .int .i64 ((rd_T33 l1 x6_2).f2), .int .i64 ((rd_T33 l1 x6_2).f3), .int .i64 ((rd_T33 l1 x6_2).f4), .string (⟨#[]⟩ : ByteArray)]) ?_ 5 _ rfl; (with_reducible repeat (first | refine blk_drewN ?_ _ | refine blk_drew ?_ | refine blk_alloc ?_ _)); refine blk_put (cs := #[.int .i64 ((rd_T33 l1 x6_2).f0), .int .i64 ((rd_T33 l1 x6_2).f1), .int .i64 ((rd_T33 l1 x6_2).f2), .int .i64 ((rd_T33 l1 x6_2).f3), .int .i64 0, .string (⟨#[]⟩ : ByteArray)]) ?_ 4 _ rfl; (with_reducible repeat (first | refine blk_drewN ?_ _ | refine blk_drew ?_ | refine blk_alloc ?_ _)); refine blk_put (cs := #[.int .i64 ((rd_T33 l1 x6_2).f0), .int .i64 ((rd_T33 l1 x6_2).f1), .int .i64 ((rd_T33 l1 x6_2).f2), .int .i64 0, .int .i64 0, .string (⟨#[]⟩ : ByteArray)]) ?_ 3 _ rfl; (with_reducible repeat (first | refine blk_drewN ?_ _ | refine blk_drew ?_ | refine blk_alloc ?_ _)); refine blk_put (cs := #[.int .i64 ((rd_T33 l1 x6_2).f0), .int .i64 ((rd_T33 l1 x6_2).f1), .int .i64 0, .int .i64 0, .int .i64 0, .string (⟨#[]⟩ : ByteArray)]) ?_ 2 _ rfl; (with_reducible repeat (first | refine blk_drewN ?_ _ | refine blk_drew ?_ | refine blk_alloc ?_ _)); refine blk_put (cs := #[.int .i64 ((rd_T33 l1 x6_2).f0), .int .i64 0, .int .i64 0, .int .i64 0, .int .i64 0, .string (⟨#[]⟩ : ByteArray)]) ?_ 1 _ rfl; (with_reducible repeat (first | refine blk_drewN ?_ _ | refine blk_drew ?_ | refine blk_alloc ?_ _)); refine blk_put (cs := #[.int .i64 0, .int .i64 0, .int .i64 0, .int .i64 0, .int .i64 0, .string (⟨#[]⟩ : ByteArray)]) ?_ 0 _ rfl; (with_reducible repeat (first | refine blk_drewN ?_ _ | refine blk_drew ?_ | refine blk_alloc ?_ _)); exact BK708.out) hb); have n3_ := Aside0.mk (below_step (hb2_ HB.out GE701.out GE708.out) hb); clear HO_5; clear BK701; clear BK708; clear HB; have HO_5 := n0_; have BK701 := n1_; have BK708 := n2_; have HB := n3_; clear n0_ n1_ n2_ n3_; (try clear hb); (try clear hb2); (try clear hk); (try clear hi); have hcz42_0 : w41.cell? ⟨gb708, 0, none⟩ = some (.int .i64 ((rd_T33 l1 x6_2).f0)) := (blk_cell BK708.out 0).trans rfl; have hcz42_1 : w41.cell? ⟨gb708, 1, none⟩ = some (.int .i64 ((rd_T33 l1 x6_2).f1)) := (blk_cell BK708.out 1).trans rfl; have hcz42_2 : w41.cell? ⟨gb708, 2, none⟩ = some (.int .i64 ((rd_T33 l1 x6_2).f2)) := (blk_cell BK708.out 2).trans rfl; have hcz42_3 : w41.cell? ⟨gb708, 3, none⟩ = some (.int .i64 ((rd_T33 l1 x6_2).f3)) := (blk_cell BK708.out 3).trans rfl; have hcz42_4 : w41.cell? ⟨gb708, 4, none⟩ = some (.int .i64 ((rd_T33 l1 x6_2).f4)) := (blk_cell BK708.out 4).trans rfl; have hcz42_5 : w41.cell? ⟨gb708, 5, none⟩ = some (.string ((rd_T33 l1 x6_2).f5)) := (blk_cell BK708.out 5).trans rfl; have hfz42_0 := blk_frozen BK708.out 0; have hfz42_1 := blk_frozen BK708.out 1; have hfz42_2 := blk_frozen BK708.out 2; have hfz42_3 := blk_frozen BK708.out 3; have hfz42_4 := blk_frozen BK708.out 4; have hfz42_5 := blk_frozen BK708.out 5) | ((with_reducible refine gate_builtin (b := .append) (xs := #[.tmp 57, .tmp 59]) rfl ?_); at_builtin; refine Kd.R_append (Kd.int .i64) (w0 := w) w.heap.size rfl (.tmp 57) (.tmp 59) 27 3 (.int .i64 0) 8 rfl Try.underlying27 info3 rfl (by decide) (by omega) u5 x5_2 x6_2 [.int .i64 x6_2] (fun _ => True) (fun _ => False) rfl rfl ?aP (fun _ hk => hk.elim) ?aF ?aO ?aB ?aS ?aL ?_; (case aP => exact rfl); (case aB => exact (hb2_ HB.out GE701.out GE708.out)); (case aF => exact (fun _ _ => trivial)); (case aO => exact (by (with_reducible repeat (first | apply Kd.R_alloc | apply Kd.R_drewN | apply Kd.R_drew)); exact HO_5.out)); (case aS => exact (below_size (hb2_ HB.out GE701.out GE708.out))); (case aL => have := LMc36.out; omega); intro v716 w43 ho hb hg hat; rw [← Ny715.out] at ho; have n0_ := Aside0.mk (blk_grown (g := gb701) (o := .cells #[.int .i64 a0_0, .int .i64 a0_1, .slice A0_2 l0_2.length c0_2] 59 (0, 0)) (bk_ BK701.out) hg (Kd.R_ne HO_5.out BK701.out (by decide))); have n1_ := Aside0.mk (blk_grown (g := gb708) (o := .cells #[.int .i64 ((rd_T33 l1 x6_2).f0), .int .i64 ((rd_T33 l1 x6_2).f1), .int .i64 ((rd_T33 l1 x6_2).f2), .int .i64 ((rd_T33 l1 x6_2).f3), .int .i64 ((rd_T33 l1 x6_2).f4), .string ((rd_T33 l1 x6_2).f5)] 33 (0, 0)) (bk_ BK708.out) hg (Kd.R_ne HO_5.out BK708.out (by decide))); have n2_ := Aside0.mk (hb); have n3_ := Aside0.mk (ho); clear BK701; clear BK708; clear HB; clear HO_5; have BK701 := n0_; have BK708 := n1_; have HB := n2_; have HO717 := n3_; clear n0_ n1_ n2_ n3_; clear ho hb hg hat))
                      go_roundg k2
                      case measure => have := HJ2.out; have := HK2.out; omega
                      case rel => exact ⟨(y715), (wrap64 (x6_2 + 1)), (by first | rfl | (simp; done) | (simp [*]; done)), H', ⟨by have := HJ2.out; have := HK2.out; omega⟩, ⟨by (with_reducible repeat (first | apply Kd.R_alloc | apply Kd.R_drewN | apply Kd.R_drew)); exact HO717.out⟩, ⟨bk_ BK701.out⟩, ⟨hb2_ HB.out GE701.out GE708.out⟩⟩
                    · rw [if_neg c36] at H
                      exact absurd H (by simp)
                · replace c19 := Bool.eq_false_iff.mpr c19
                  subst c19
                  have H1 : (if x5_2.length < 17592186044416 then (spec_BusStray.l0 k2 l1 (x5_2 ++ [x6_2]) (wrap64 (x6_2 + 1)) a0_0 a0_1 l0_2) else (none)) = some r := by rw [if_neg (show ¬ (false = true) by decide)] at H; exact H
                  clear H
                  have H := H1
                  clear H1
                  by_cases c44 : x5_2.length < 17592186044416
                  · rw [if_pos c44] at H
                    have LMc44 := Aside0.mk c44
                    clear c44
                    obtain ⟨y718, hy718⟩ : ∃ y_ : List Int, y_ = (x5_2 ++ [x6_2]) := ⟨_, rfl⟩
                    replace H : (spec_BusStray.l0 k2 l1 y718 (wrap64 (x6_2 + 1)) a0_0 a0_1 l0_2) = some r := by first | (rw [hy718]; with_reducible exact H) | (have H2_ := (Option.bind_some _ _).symm.trans H; rw [hy718]; with_reducible exact H2_) | (have H2_ := (Option.bind_some _ _).symm.trans H; with_reducible exact H2_) | with_reducible exact H | (rw [hy718]; exact H) | exact H
                    have Ny718 := Aside0.mk hy718
                    clear hy718
                    have H' := Aside0.mk H
                    clear H
                    have p707 : 0 ≤ (x6_2 : Int) := of_decide_eq_true (by first | (with_reducible assumption) | assumption)
                    have q707 : x6_2 < (l1.length : Int) := of_decide_eq_true (by first | (with_reducible assumption) | assumption)
                    obtain ⟨ad707, e707, hx707_0, hx707_1, hx707_2, hx707_3, hx707_4, hx707_5⟩ := at_T33 HR1.out x6_2 p707 q707
                    cases e707
                    replace hx707_0 := (HB.out.cell (World.block_lt_of_cell? w _ hx707_0)).trans hx707_0
                    replace hx707_1 := (HB.out.cell (World.block_lt_of_cell? w _ hx707_1)).trans hx707_1
                    replace hx707_2 := (HB.out.cell (World.block_lt_of_cell? w _ hx707_2)).trans hx707_2
                    replace hx707_3 := (HB.out.cell (World.block_lt_of_cell? w _ hx707_3)).trans hx707_3
                    replace hx707_4 := (HB.out.cell (World.block_lt_of_cell? w _ hx707_4)).trans hx707_4
                    replace hx707_5 := (HB.out.cell (World.block_lt_of_cell? w _ hx707_5)).trans hx707_5
                    replace p707 := eq_true p707
                    replace q707 := eq_true q707
                    go_wp2_with (first | ((with_reducible refine gate_dst (N := 7) rfl ?_); refine box_event ?hg (N := 7) ?hd (cs := #[.int .i64 0, .int .i64 0, .int .i64 0, .int .i64 0, .int .i64 0, .string (⟨#[]⟩ : ByteArray)]) (t := 33) ?hr ?_; (case hd => rfl); (case hg => rfl); (case hr => first | (go_simp; done) | (go_simp; rfl)); intro gb708 hg w45 hbox hb; have n0_ := Aside0.mk (Kd.R_below (by (with_reducible repeat (first | apply Kd.R_alloc | apply Kd.R_drewN | apply Kd.R_drew)); exact HO_5.out) hb); have n1_ := Aside0.mk (bb_ BK701.out hb); have n2_ := Aside0.mk (below_step (hb1_ HB.out GE701.out) hb); have n3_ := Aside0.mk (hbox); have n4_ := Aside0.mk ((by rw [hg]; exact (below_size (hb1_ HB.out GE701.out)) : w.heap.size ≤ gb708)); have n5_ := Aside0.mk ((by rw [hg]; exact (below_size (hb1_ HB.out GE701.out)) : w.heap.size ≤ gb708)); have n6_ := Aside0.mk ((bl_ hg BK701.out : gb701 ≠ gb708)); have n7_ := Aside0.mk ((bg_ hg BK701.out : gb708 ≠ gb701)); clear HO_5; clear BK701; clear HB; have HO_5 := n0_; have BK701 := n1_; have HB := n2_; have BK708 := n3_; have GW708 := n4_; have GE708 := n5_; have NB701_708 := n6_; have NB708_701 := n7_; clear n0_ n1_ n2_ n3_ n4_ n5_ n6_ n7_; clear hb hbox hg; have hnb46 := NB708_701.out; have hnc46 := NB701_708.out; have hcz47_0 := bc_ BK708.out 0 (.int .i64 0) rfl; have hcz47_1 := bc_ BK708.out 1 (.int .i64 0) rfl; have hcz47_2 := bc_ BK708.out 2 (.int .i64 0) rfl; have hcz47_3 := bc_ BK708.out 3 (.int .i64 0) rfl; have hcz47_4 := bc_ BK708.out 4 (.int .i64 0) rfl; have hcz47_5 : w45.cell? ⟨gb708, 5, none⟩ = some (.string (⟨#[]⟩ : ByteArray)) := (blk_cell BK708.out 5).trans rfl; have hfz47_0 := blk_frozen BK708.out 0; have hfz47_1 := blk_frozen BK708.out 1; have hfz47_2 := blk_frozen BK708.out 2; have hfz47_3 := blk_frozen BK708.out 3; have hfz47_4 := blk_frozen BK708.out 4; have hfz47_5 := blk_frozen BK708.out 5; have hcz48_0 := bc_ BK701.out 0 (.int .i64 a0_0) rfl; have hcz48_1 := bc_ BK701.out 1 (.int .i64 a0_1) rfl; have hcz48_2 := bc_ BK701.out 2 (.slice A0_2 l0_2.length c0_2) rfl; have hfz48_0 := blk_frozen BK701.out 0; have hfz48_1 := blk_frozen BK701.out 1; have hfz48_2 := blk_frozen BK701.out 2) | ((with_reducible refine gate_callee (f := 74) rfl ?_); refine goesL_ (some 39) rfl rfl Try.func74 (by kernel_rfl) rfl #[.agg #[.int .i64 a0_0, .int .i64 a0_1, .slice A0_2 l0_2.length c0_2], .int .i64 ((rd_T33 l1 x6_2).f0), .int .i64 ((rd_T33 l1 x6_2).f3), .int .i64 ((rd_T33 l1 x6_2).f4)] rfl arr_ ?_; (with_reducible refine (spec_InSlot.calls k2 a0_0 a0_1 _ _ l0_2 ((rd_T33 l1 x6_2).f0) ((rd_T33 l1 x6_2).f3) ((rd_T33 l1 x6_2).f4) t709 t710 false _ ?side1 ?side2 A18.out).mono ?_); (case side1 => exact Kd.C_below HR0_2.out (hb2_ HB.out GE701.out GE708.out)); (case side2 => exact HC0_2.out); rintro e w49 ⟨rfl, hb⟩; refine ⟨_, rfl, ?_⟩; have n0_ := Aside0.mk (Kd.R_below (by (with_reducible repeat (first | apply Kd.R_alloc | apply Kd.R_drewN | apply Kd.R_drew)); exact (Kd.R_mono (Kd.R_far (p := ⟨gb708, 5, none⟩) (Kd.R_far (p := ⟨gb708, 4, none⟩) (Kd.R_far (p := ⟨gb708, 3, none⟩) (Kd.R_far (p := ⟨gb708, 2, none⟩) (Kd.R_far (p := ⟨gb708, 1, none⟩) (Kd.R_far (p := ⟨gb708, 0, none⟩) (Kd.R_types HO_5.out BK708.out (by decide)) (fun _ hk => hk.2) (.int .i64 ((rd_T33 l1 x6_2).f0))) (fun _ hk => hk.2) (.int .i64 ((rd_T33 l1 x6_2).f1))) (fun _ hk => hk.2) (.int .i64 ((rd_T33 l1 x6_2).f2))) (fun _ hk => hk.2) (.int .i64 ((rd_T33 l1 x6_2).f3))) (fun _ hk => hk.2) (.int .i64 ((rd_T33 l1 x6_2).f4))) (fun _ hk => hk.2) (.string ((rd_T33 l1 x6_2).f5))) (fun _ h_ => h_.1))) hb); have n1_ := Aside0.mk (blk_below (g := gb701) (o := .cells #[.int .i64 a0_0, .int .i64 a0_1, .slice A0_2 l0_2.length c0_2] 59 (0, 0)) (by (with_reducible repeat (first | refine blk_drewN ?_ _ | refine blk_drew ?_ | refine blk_alloc ?_ _)); refine blk_far ?_ NB701_708.out _; (with_reducible repeat (first | refine blk_drewN ?_ _ | refine blk_drew ?_ | refine blk_alloc ?_ _)); refine blk_far ?_ NB701_708.out _; (with_reducible repeat (first | refine blk_drewN ?_ _ | refine blk_drew ?_ | refine blk_alloc ?_ _)); refine blk_far ?_ NB701_708.out _; (with_reducible repeat (first | refine blk_drewN ?_ _ | refine blk_drew ?_ | refine blk_alloc ?_ _)); refine blk_far ?_ NB701_708.out _; (with_reducible repeat (first | refine blk_drewN ?_ _ | refine blk_drew ?_ | refine blk_alloc ?_ _)); refine blk_far ?_ NB701_708.out _; (with_reducible repeat (first | refine blk_drewN ?_ _ | refine blk_drew ?_ | refine blk_alloc ?_ _)); refine blk_far ?_ NB701_708.out _; (with_reducible repeat (first | refine blk_drewN ?_ _ | refine blk_drew ?_ | refine blk_alloc ?_ _)); exact BK701.out) hb); have n2_ := Aside0.mk (blk_below (g := gb708) (o := .cells #[.int .i64 ((rd_T33 l1 x6_2).f0), .int .i64 ((rd_T33 l1 x6_2).f1), .int .i64 ((rd_T33 l1 x6_2).f2), .int .i64 ((rd_T33 l1 x6_2).f3), .int .i64 ((rd_T33 l1 x6_2).f4), .string ((rd_T33 l1 x6_2).f5)] 33 (0, 0)) (by (with_reducible repeat (first | refine blk_drewN ?_ _ | refine blk_drew ?_ | refine blk_alloc ?_ _)); refine blk_put (cs := #[.int .i64 ((rd_T33 l1 x6_2).f0), .int .i64 ((rd_T33 l1 x6_2).f1), .int .i64 ((rd_T33 l1 x6_2).f2), .int .i64 ((rd_T33 l1 x6_2).f3), .int .i64 ((rd_T33 l1 x6_2).f4), .string (⟨#[]⟩ : ByteArray)]) ?_ 5 _ rfl; (with_reducible repeat (first | refine blk_drewN ?_ _ | refine blk_drew ?_ | refine blk_alloc ?_ _)); refine blk_put (cs := #[.int .i64 ((rd_T33 l1 x6_2).f0), .int .i64 ((rd_T33 l1 x6_2).f1), .int .i64 ((rd_T33 l1 x6_2).f2), .int .i64 ((rd_T33 l1 x6_2).f3), .int .i64 0, .string (⟨#[]⟩ : ByteArray)]) ?_ 4 _ rfl; (with_reducible repeat (first | refine blk_drewN ?_ _ | refine blk_drew ?_ | refine blk_alloc ?_ _)); refine blk_put (cs := #[.int .i64 ((rd_T33 l1 x6_2).f0), .int .i64 ((rd_T33 l1 x6_2).f1), .int .i64 ((rd_T33 l1 x6_2).f2), .int .i64 0, .int .i64 0, .string (⟨#[]⟩ : ByteArray)]) ?_ 3 _ rfl; (with_reducible repeat (first | refine blk_drewN ?_ _ | refine blk_drew ?_ | refine blk_alloc ?_ _)); refine blk_put (cs := #[.int .i64 ((rd_T33 l1 x6_2).f0), .int .i64 ((rd_T33 l1 x6_2).f1), .int .i64 0, .int .i64 0, .int .i64 0, .string (⟨#[]⟩ : ByteArray)]) ?_ 2 _ rfl; (with_reducible repeat (first | refine blk_drewN ?_ _ | refine blk_drew ?_ | refine blk_alloc ?_ _)); refine blk_put (cs := #[.int .i64 ((rd_T33 l1 x6_2).f0), .int .i64 0, .int .i64 0, .int .i64 0, .int .i64 0, .string (⟨#[]⟩ : ByteArray)]) ?_ 1 _ rfl; (with_reducible repeat (first | refine blk_drewN ?_ _ | refine blk_drew ?_ | refine blk_alloc ?_ _)); refine blk_put (cs := #[.int .i64 0, .int .i64 0, .int .i64 0, .int .i64 0, .int .i64 0, .string (⟨#[]⟩ : ByteArray)]) ?_ 0 _ rfl; (with_reducible repeat (first | refine blk_drewN ?_ _ | refine blk_drew ?_ | refine blk_alloc ?_ _)); exact BK708.out) hb); have n3_ := Aside0.mk (below_step (hb2_ HB.out GE701.out GE708.out) hb); clear HO_5; clear BK701; clear BK708; clear HB; have HO_5 := n0_; have BK701 := n1_; have BK708 := n2_; have HB := n3_; clear n0_ n1_ n2_ n3_; (try clear hb); (try clear hb2); (try clear hk); (try clear hi)) | ((with_reducible refine gate_builtin (b := .append) (xs := #[.tmp 57, .tmp 59]) rfl ?_); at_builtin; refine Kd.R_append (Kd.int .i64) (w0 := w) w.heap.size rfl (.tmp 57) (.tmp 59) 27 3 (.int .i64 0) 8 rfl Try.underlying27 info3 rfl (by decide) (by omega) u5 x5_2 x6_2 [.int .i64 x6_2] (fun _ => True) (fun _ => False) rfl rfl ?aP (fun _ hk => hk.elim) ?aF ?aO ?aB ?aS ?aL ?_; (case aP => exact rfl); (case aB => exact (hb2_ HB.out GE701.out GE708.out)); (case aF => exact (fun _ _ => trivial)); (case aO => exact (by (with_reducible repeat (first | apply Kd.R_alloc | apply Kd.R_drewN | apply Kd.R_drew)); exact HO_5.out)); (case aS => exact (below_size (hb2_ HB.out GE701.out GE708.out))); (case aL => have := LMc44.out; omega); intro v719 w50 ho hb hg hat; rw [← Ny718.out] at ho; have n0_ := Aside0.mk (blk_grown (g := gb701) (o := .cells #[.int .i64 a0_0, .int .i64 a0_1, .slice A0_2 l0_2.length c0_2] 59 (0, 0)) (bk_ BK701.out) hg (Kd.R_ne HO_5.out BK701.out (by decide))); have n1_ := Aside0.mk (blk_grown (g := gb708) (o := .cells #[.int .i64 ((rd_T33 l1 x6_2).f0), .int .i64 ((rd_T33 l1 x6_2).f1), .int .i64 ((rd_T33 l1 x6_2).f2), .int .i64 ((rd_T33 l1 x6_2).f3), .int .i64 ((rd_T33 l1 x6_2).f4), .string ((rd_T33 l1 x6_2).f5)] 33 (0, 0)) (bk_ BK708.out) hg (Kd.R_ne HO_5.out BK708.out (by decide))); have n2_ := Aside0.mk (hb); have n3_ := Aside0.mk (ho); clear BK701; clear BK708; clear HB; clear HO_5; have BK701 := n0_; have BK708 := n1_; have HB := n2_; have HO720 := n3_; clear n0_ n1_ n2_ n3_; clear ho hb hg hat))
                    go_roundg k2
                    case measure => have := HJ2.out; have := HK2.out; omega
                    case rel => exact ⟨(y718), (wrap64 (x6_2 + 1)), (by first | rfl | (simp; done) | (simp [*]; done)), H', ⟨by have := HJ2.out; have := HK2.out; omega⟩, ⟨by (with_reducible repeat (first | apply Kd.R_alloc | apply Kd.R_drewN | apply Kd.R_drew)); exact HO720.out⟩, ⟨bk_ BK701.out⟩, ⟨hb2_ HB.out GE701.out GE708.out⟩⟩
                  · rw [if_neg c44] at H
                    exact absurd H (by simp)
              · rw [if_neg c17] at H
                exact absurd H (by simp)
            · rw [if_neg c16] at H
              have c16b0 : decide (x6_2 < (l1.length : Int)) = false := decide_eq_false c16
              clear c16
              obtain rfl := Option.some.inj H
              go_wp2
              go_ret
              exact ⟨_, er_, by (with_reducible repeat (first | apply Kd.R_alloc | apply Kd.R_drewN | apply Kd.R_drew)); exact HO_5.out, hb1_ HB.out GE701.out⟩
end Go.Proofs.Ytjlmfnpgcmmdnaa.P

namespace Go.Proofs.Ytjlmfnpgcmmdnaa.P
open Go.RowKit Go.Proofs.YtjlmfnpgcmmdnaaW.PrintWords Go.Proofs.YtjlmfnpgcmmdnaaW.PrintLast Go.Proofs.YtjlmfnpgcmmdnaaW.PrintMore
attribute [local go_sem] max2_int min2_int max_two min_two max_three min_three max_four min_four
set_option linter.unusedVariables false
set_option linter.unusedSimpArgs false
def laws_szSlotS.f (l0 : List (S110)) (a1 : Int) : Option (Int) := if (wrap64 (a1 - (l0.length : Int))) < 0 then (some (-1)) else (some (wrap64 (a1 - (l0.length : Int))))
set_option maxHeartbeats 8000000 in
set_option maxRecDepth 100000 in
theorem laws_szSlotS.calls (A0 : Option Addr) (c0 : Nat) (l0 : List (S110)) (a1 : Int) (r : Int) (w : World) (hr0 : Kd.C k110 w A0 l0.length l0) (hc0 : l0.length ≤ c0) (h : laws_szSlotS.f l0 a1 = some r) :
    Calls Try.prog 78 #[.slice A0 l0.length c0, .int .i64 a1] w fun e w' => e = .returned (.int .i64 r) ∧ Drawn0 w w' := by
  have HR0 := Aside0.mk hr0
  have HC0 := Aside0.mk hc0
  clear hr0 hc0
  have H : (if (wrap64 (a1 - (l0.length : Int))) < 0 then (some (-1)) else (some (wrap64 (a1 - (l0.length : Int))))) = some r := h
  clear h
  by_cases c3 : (wrap64 (a1 - (l0.length : Int))) < 0
  · rw [if_pos c3] at H
    have c3b0 : decide ((wrap64 (a1 - (l0.length : Int))) < 0) = true := decide_eq_true c3
    clear c3
    obtain rfl := Option.some.inj H
    go_enter Try.func78, Try.ntmps78
    go_wp2
    go_ret
    exact ⟨by first | rfl | (simp; done) | (simp [*]; done), by repeat (first | exact Drawn0.refl _ | apply Drawn0.step)⟩
  · rw [if_neg c3] at H
    have c3b0 : decide ((wrap64 (a1 - (l0.length : Int))) < 0) = false := decide_eq_false c3
    clear c3
    obtain rfl := Option.some.inj H
    go_enter Try.func78, Try.ntmps78
    go_wp2
    go_ret
    exact ⟨by first | rfl | (simp; done) | (simp [*]; done), by repeat (first | exact Drawn0.refl _ | apply Drawn0.step)⟩
def laws_szPlan.f (a0_0 : Int) (a0_1 : Int) (l0_2 : List (S110)) (a1 : Int) : Option (Int) := (laws_szSlotS.f l0_2 a1).bind fun t745 => (if t745 < 0 then (some (-1)) else (some t745))
set_option maxHeartbeats 8000000 in
set_option maxRecDepth 100000 in
theorem laws_szPlan.calls (a0_0 : Int) (a0_1 : Int) (A0_2 : Option Addr) (c0_2 : Nat) (l0_2 : List (S110)) (a1 : Int) (r : Int) (w : World) (hr0_2 : Kd.C k110 w A0_2 l0_2.length l0_2) (hc0_2 : l0_2.length ≤ c0_2) (h : laws_szPlan.f a0_0 a0_1 l0_2 a1 = some r) :
    Calls Try.prog 42 #[.agg #[.int .i64 a0_0, .int .i64 a0_1, .slice A0_2 l0_2.length c0_2], .int .i64 a1] w fun e w' => e = .returned (.int .i64 r) ∧ Below w.heap.size w w' := by
  have hu66 := Try.underlying66
  have HR0_2 := Aside0.mk hr0_2
  have HC0_2 := Aside0.mk hc0_2
  clear hr0_2 hc0_2
  have HB := Aside0.mk (Below.refl w.heap.size w)
  have H : ((laws_szSlotS.f l0_2 a1).bind fun t745 => (if t745 < 0 then (some (-1)) else (some t745))) = some r := h
  clear h
  replace H := Option.bind_eq_some_iff.mp H
  obtain ⟨t745, A30, H⟩ := H
  replace H : (if t745 < 0 then (some (-1)) else (some t745)) = some r := H
  have A3 := Aside0.mk A30
  clear A30
  by_cases c4 : t745 < 0
  · rw [if_pos c4] at H
    have c4b0 : decide (t745 < 0) = true := decide_eq_true c4
    clear c4
    obtain rfl := Option.some.inj H
    go_enter Try.func42, Try.ntmps42
    go_wp2_with (first | ((with_reducible refine gate_dst (N := 2) rfl ?_); refine box_event ?hg (N := 2) ?hd (cs := #[.int .i64 a0_0, .int .i64 a0_1, .slice A0_2 l0_2.length c0_2]) (t := 66) ?hr ?_; (case hd => rfl); (case hg => rfl); (case hr => first | (go_simp; done) | (go_simp; rfl)); intro gb744 hg w5 hbox hb; have n0_ := Aside0.mk (below_step (hb_ HB.out) hb); have n1_ := Aside0.mk (hbox); have n2_ := Aside0.mk ((by rw [hg]; exact (below_size (hb_ HB.out)) : w.heap.size ≤ gb744)); have n3_ := Aside0.mk ((by rw [hg]; exact (below_size (hb_ HB.out)) : w.heap.size ≤ gb744)); clear HB; have HB := n0_; have BK744 := n1_; have GW744 := n2_; have GE744 := n3_; clear n0_ n1_ n2_ n3_; clear hb hbox hg; have hcz6_0 := bc_ BK744.out 0 (.int .i64 a0_0) rfl; have hcz6_1 := bc_ BK744.out 1 (.int .i64 a0_1) rfl; have hcz6_2 := bc_ BK744.out 2 (.slice A0_2 l0_2.length c0_2) rfl; have hfz6_0 := blk_frozen BK744.out 0; have hfz6_1 := blk_frozen BK744.out 1; have hfz6_2 := blk_frozen BK744.out 2) | ((with_reducible refine gate_callee (f := 78) rfl ?_); refine goesL_ (some 8) rfl rfl Try.func78 (by kernel_rfl) rfl #[.slice A0_2 l0_2.length c0_2, .int .i64 a1] rfl arr_ ?_; (with_reducible refine (laws_szSlotS.calls _ _ l0_2 a1 t745 _ ?side1 ?side2 A3.out).mono ?_); (case side1 => exact kc_ (Kd.C_below HR0_2.out HB.out)); (case side2 => exact HC0_2.out); rintro e w' ⟨rfl, ⟨nd, rfl⟩⟩; refine ⟨_, rfl, ?_⟩))
    go_ret
    exact ⟨er_, hb1_ HB.out GE744.out⟩
  · rw [if_neg c4] at H
    have c4b0 : decide (t745 < 0) = false := decide_eq_false c4
    clear c4
    obtain rfl := Option.some.inj H
    go_enter Try.func42, Try.ntmps42
    go_wp2_with (first | ((with_reducible refine gate_dst (N := 2) rfl ?_); refine box_event ?hg (N := 2) ?hd (cs := #[.int .i64 a0_0, .int .i64 a0_1, .slice A0_2 l0_2.length c0_2]) (t := 66) ?hr ?_; (case hd => rfl); (case hg => rfl); (case hr => first | (go_simp; done) | (go_simp; rfl)); intro gb744 hg w7 hbox hb; have n0_ := Aside0.mk (below_step (hb_ HB.out) hb); have n1_ := Aside0.mk (hbox); have n2_ := Aside0.mk ((by rw [hg]; exact (below_size (hb_ HB.out)) : w.heap.size ≤ gb744)); have n3_ := Aside0.mk ((by rw [hg]; exact (below_size (hb_ HB.out)) : w.heap.size ≤ gb744)); clear HB; have HB := n0_; have BK744 := n1_; have GW744 := n2_; have GE744 := n3_; clear n0_ n1_ n2_ n3_; clear hb hbox hg; have hcz8_0 := bc_ BK744.out 0 (.int .i64 a0_0) rfl; have hcz8_1 := bc_ BK744.out 1 (.int .i64 a0_1) rfl; have hcz8_2 := bc_ BK744.out 2 (.slice A0_2 l0_2.length c0_2) rfl; have hfz8_0 := blk_frozen BK744.out 0; have hfz8_1 := blk_frozen BK744.out 1; have hfz8_2 := blk_frozen BK744.out 2) | ((with_reducible refine gate_callee (f := 78) rfl ?_); refine goesL_ (some 8) rfl rfl Try.func78 (by kernel_rfl) rfl #[.slice A0_2 l0_2.length c0_2, .int .i64 a1] rfl arr_ ?_; (with_reducible refine (laws_szSlotS.calls _ _ l0_2 a1 t745 _ ?side1 ?side2 A3.out).mono ?_); (case side1 => exact kc_ (Kd.C_below HR0_2.out HB.out)); (case side2 => exact HC0_2.out); rintro e w' ⟨rfl, ⟨nd, rfl⟩⟩; refine ⟨_, rfl, ?_⟩))
    go_ret
    exact ⟨er_, hb1_ HB.out GE744.out⟩
def laws_toSlot.f (a0_0 : Int) (a0_1 : Int) : Option (Int × Int) := some (a0_0, a0_1)
set_option maxHeartbeats 8000000 in
set_option maxRecDepth 100000 in
theorem laws_toSlot.calls (a0_0 : Int) (a0_1 : Int) (r1 : Int) (r2 : Int) (w : World) (h : laws_toSlot.f a0_0 a0_1 = some (r1, r2)) :
    Calls Try.prog 97 #[.agg #[.int .i64 a0_0, .int .i64 a0_1]] w fun e w' => e = .returned (.agg #[.int .i64 r1, .int .i64 r2]) ∧ Below w.heap.size w w' := by
  have hu110 := Try.underlying110
  have hu90 := Try.underlying90
  have HB := Aside0.mk (Below.refl w.heap.size w)
  have H : (some (a0_0, a0_1)) = some (r1, r2) := h
  clear h
  simp only [Option.some.injEq, Prod.mk.injEq] at H
  obtain ⟨rfl, rfl⟩ := H
  go_enter Try.func97, Try.ntmps97
  go_wp2_with (first | ((with_reducible refine gate_dst (N := 1) rfl ?_); refine box_event ?hg (N := 1) ?hd (cs := #[.int .i64 a0_0, .int .i64 a0_1]) (t := 110) ?hr ?_; (case hd => rfl); (case hg => rfl); (case hr => first | (go_simp; done) | (go_simp; rfl)); intro gb746 hg w2 hbox hb; have n0_ := Aside0.mk (below_step (hb_ HB.out) hb); have n1_ := Aside0.mk (hbox); have n2_ := Aside0.mk ((by rw [hg]; exact (below_size (hb_ HB.out)) : w.heap.size ≤ gb746)); have n3_ := Aside0.mk ((by rw [hg]; exact (below_size (hb_ HB.out)) : w.heap.size ≤ gb746)); clear HB; have HB := n0_; have BK746 := n1_; have GW746 := n2_; have GE746 := n3_; clear n0_ n1_ n2_ n3_; clear hb hbox hg) | ((with_reducible refine gate_dst (N := 2) rfl ?_); refine box_event ?hg (N := 2) ?hd (cs := #[.int .i64 0, .int .i64 0]) (t := 90) ?hr ?_; (case hd => rfl); (case hg => rfl); (case hr => first | (go_simp; done) | (go_simp; rfl)); intro gb747 hg w3 hbox hb; have n0_ := Aside0.mk (bb_ BK746.out hb); have n1_ := Aside0.mk (below_step (hb1_ HB.out GE746.out) hb); have n2_ := Aside0.mk (hbox); have n3_ := Aside0.mk ((by rw [hg]; exact (below_size (hb1_ HB.out GE746.out)) : w.heap.size ≤ gb747)); have n4_ := Aside0.mk ((by rw [hg]; exact (below_size (hb1_ HB.out GE746.out)) : w.heap.size ≤ gb747)); have n5_ := Aside0.mk ((bl_ hg BK746.out : gb746 ≠ gb747)); have n6_ := Aside0.mk ((bg_ hg BK746.out : gb747 ≠ gb746)); clear BK746; clear HB; have BK746 := n0_; have HB := n1_; have BK747 := n2_; have GW747 := n3_; have GE747 := n4_; have NB746_747 := n5_; have NB747_746 := n6_; clear n0_ n1_ n2_ n3_ n4_ n5_ n6_; clear hb hbox hg) | ((with_reducible refine gate_dst (N := 3) rfl ?_); refine box_event ?hg (N := 3) ?hd (cs := #[.int .i64 0, .int .i64 0]) (t := 90) ?hr ?_; (case hd => rfl); (case hg => rfl); (case hr => first | (go_simp; done) | (go_simp; rfl)); intro gb748 hg w4 hbox hb; have n0_ := Aside0.mk (bb_ BK746.out hb); have n1_ := Aside0.mk (bb_ BK747.out hb); have n2_ := Aside0.mk (below_step (hb2_ HB.out GE746.out GE747.out) hb); have n3_ := Aside0.mk (hbox); have n4_ := Aside0.mk ((by rw [hg]; exact (below_size (hb2_ HB.out GE746.out GE747.out)) : w.heap.size ≤ gb748)); have n5_ := Aside0.mk ((by rw [hg]; exact (below_size (hb2_ HB.out GE746.out GE747.out)) : w.heap.size ≤ gb748)); have n6_ := Aside0.mk ((bl_ hg BK746.out : gb746 ≠ gb748)); have n7_ := Aside0.mk ((bg_ hg BK746.out : gb748 ≠ gb746)); have n8_ := Aside0.mk ((bl_ hg BK747.out : gb747 ≠ gb748)); have n9_ := Aside0.mk ((bg_ hg BK747.out : gb748 ≠ gb747)); clear BK746; clear BK747; clear HB; have BK746 := n0_; have BK747 := n1_; have HB := n2_; have BK748 := n3_; have GW748 := n4_; have GE748 := n5_; have NB746_748 := n6_; have NB748_746 := n7_; have NB747_748 := n8_; have NB748_747 := n9_; clear n0_ n1_ n2_ n3_ n4_ n5_ n6_ n7_ n8_ n9_; clear hb hbox hg; have hnb5 := NB746_747.out; have hnc5 := NB747_746.out; have hnb6 := NB746_748.out; have hnc6 := NB748_746.out; have hcz7_0 := bc_ BK746.out 0 (.int .i64 a0_0) rfl; have hcz7_1 := bc_ BK746.out 1 (.int .i64 a0_1) rfl; have hfz7_0 := blk_frozen BK746.out 0; have hfz7_1 := blk_frozen BK746.out 1; have hnb8 := NB748_747.out; have hnc8 := NB747_748.out; have hcz9_0 := bc_ BK748.out 0 (.int .i64 0) rfl; have hcz9_1 := bc_ BK748.out 1 (.int .i64 0) rfl; have hfz9_0 := blk_frozen BK748.out 0; have hfz9_1 := blk_frozen BK748.out 1; have hcz10_0 := bc_ BK747.out 0 (.int .i64 0) rfl; have hcz10_1 := bc_ BK747.out 1 (.int .i64 0) rfl; have hfz10_0 := blk_frozen BK747.out 0; have hfz10_1 := blk_frozen BK747.out 1))
  refine bodyPost_ret (results_cell_row rfl _ _ gb747 90 #[.int .i64 a0_0, .int .i64 a0_1] (0, 0) _ rfl (by (with_reducible repeat (first | refine blk_drewN ?_ _ | refine blk_drew ?_ | refine blk_alloc ?_ _)); refine blk_put (cs := #[.int .i64 a0_0, .int .i64 0]) ?_ 1 _ rfl; (with_reducible repeat (first | refine blk_drewN ?_ _ | refine blk_drew ?_ | refine blk_alloc ?_ _)); refine blk_put (cs := #[.int .i64 0, .int .i64 0]) ?_ 0 _ rfl; (with_reducible repeat (first | refine blk_drewN ?_ _ | refine blk_drew ?_ | refine blk_alloc ?_ _)); refine blk_far ?_ NB747_748.out _; (with_reducible repeat (first | refine blk_drewN ?_ _ | refine blk_drew ?_ | refine blk_alloc ?_ _)); refine blk_far ?_ NB747_748.out _; (with_reducible repeat (first | refine blk_drewN ?_ _ | refine blk_drew ?_ | refine blk_alloc ?_ _)); exact BK747.out) Try.underlying90 rfl (by kernel_rfl)) rfl ?_
  exact ⟨er_, hb3_ HB.out GE746.out GE747.out GE748.out⟩
def laws_toSlotS.l0 : Nat → List (S110) → List (S90) → Int → Option ((List (S90)))
  | 0, _, _, _ => none
  | k + 1, x0, x3, x4 => if x4 < (x0.length : Int) then (if 0 ≤ x4 then ((laws_toSlot.f ((rd_T110 x0 x4).f0) ((rd_T110 x0 x4).f1)).bind fun bt753 => (if x4 < (x3.length : Int) then (laws_toSlotS.l0 k x0 (x3.set (x4 : Int).toNat (⟨bt753.1, bt753.2⟩ : S90)) (wrap64 (x4 + 1))) else (none))) else (none)) else (some x3)
def laws_toSlotS.f (k : Nat) (l0 : List (S110)) : Option ((List (S90))) := if 0 ≤ (l0.length : Int) then (if ((l0.length : Int) : Int).toNat ≤ 17592186044416 then (laws_toSlotS.l0 k l0 (List.replicate ((l0.length : Int) : Int).toNat z90) 0) else (none)) else (none)
set_option maxHeartbeats 8000000 in
set_option maxRecDepth 100000 in
theorem laws_toSlotS.calls (k : Nat) (A0 : Option Addr) (c0 : Nat) (l0 : List (S110)) (r : List (S90)) (w : World) (hr0 : Kd.C k110 w A0 l0.length l0) (hc0 : l0.length ≤ c0) (h : laws_toSlotS.f k l0 = some r) :
    Calls Try.prog 79 #[.slice A0 l0.length c0] w fun e w' => ∃ v0_ : Value, e = .returned (v0_) ∧ Kd.R k90 90 w' w.heap.size (fun _ => True) v0_ r ∧ Below w.heap.size w w' := by
  have hu110 := Try.underlying110
  have hu90 := Try.underlying90
  have HR0 := Aside0.mk hr0
  have HC0 := Aside0.mk hc0
  clear hr0 hc0
  have HB := Aside0.mk (Below.refl w.heap.size w)
  have H : (if 0 ≤ (l0.length : Int) then (if ((l0.length : Int) : Int).toNat ≤ 17592186044416 then (laws_toSlotS.l0 k l0 (List.replicate ((l0.length : Int) : Int).toNat z90) 0) else (none)) else (none)) = some r := h
  clear h
  by_cases c2 : 0 ≤ (l0.length : Int)
  · rw [if_pos c2] at H
    have c2b0 := eq_true c2
    have c2b1 : decide (0 ≤ (l0.length : Int)) = true := decide_eq_true c2
    clear c2
    by_cases c3 : ((l0.length : Int) : Int).toNat ≤ 17592186044416
    · rw [if_pos c3] at H
      have c3b0 := eq_true c3
      have c3b1 : decide (((l0.length : Int) : Int).toNat ≤ 17592186044416) = true := decide_eq_true c3
      clear c3
      obtain ⟨y749, hy749⟩ : ∃ y_ : List (S90), y_ = (List.replicate ((l0.length : Int) : Int).toNat z90) := ⟨_, rfl⟩
      replace H : (laws_toSlotS.l0 k l0 y749 0) = some r := by first | (rw [hy749]; with_reducible exact H) | (have H2_ := (Option.bind_some _ _).symm.trans H; rw [hy749]; with_reducible exact H2_) | (have H2_ := (Option.bind_some _ _).symm.trans H; with_reducible exact H2_) | with_reducible exact H | (rw [hy749]; exact H) | exact H
      have Ny749 := Aside0.mk hy749
      clear hy749
      have H' := Aside0.mk H
      clear H
      go_enter Try.func79, Try.ntmps79
      go_wp2_with (first | ((with_reducible refine gate_dst (N := 7) rfl ?_); refine Kd.R_make k90 _ 90 rfl (N := 7) rfl 57 _ _ rfl (l0.length : Int) rfl rfl Try.underlying57 (.agg #[(.int .i64 0), (.int .i64 0)]) 16 info90 rfl (by decide) (by omega) z90 (ok := fun _ => True) (okp := fun _ => True) (k90_mkM _ _ _ z90 ) (fun _ hk => hk) trivial (of_decide_eq_true (by first | (with_reducible assumption) | assumption)) (Nat.le_trans (Nat.mul_le_mul_right _ (of_decide_eq_true (by first | (with_reducible assumption) | assumption) : (l0.length : Int).toNat ≤ 17592186044416)) (by omega)) (Below.refl _ _) (Nat.le_refl _) ?_; intro v750 w4 ho5 hb hg_ hnew_; clear hg_ hnew_; (first | rw [← Ny749.out] at ho5 | (simp only [Int.reduceToNat] at ho5; rw [← Ny749.out] at ho5)); have n0_ := Aside0.mk (Kd.R_lower ho5 (below_size (hb_ HB.out))); have n1_ := Aside0.mk (below_step (hb_ HB.out) hb); clear HB; have HO751 := n0_; have HB := n1_; clear n0_ n1_; clear hb ho5))
      go_loopg [4] k (fun kq v4 w' => ∃ (x3_1 : List (S90)) (x4_1 : Int), v4 = .int .i64 x4_1 ∧ Aside0 (laws_toSlotS.l0 kq l0 x3_1 x4_1 = some r) ∧ Aside0 (kq ≤ k) ∧ Aside0 (Kd.R k90 90 w' w.heap.size (fun _ => True) v750 x3_1) ∧ Aside0 (Below w.heap.size w w'))
      case atStart => exact ⟨(y749), (0), (by first | rfl | (simp; done) | (simp [*]; done)), H', ⟨Nat.le_refl _⟩, ⟨by (with_reducible repeat (first | apply Kd.R_alloc | apply Kd.R_drewN | apply Kd.R_drew)); exact HO751.out⟩, ⟨hb_ HB.out⟩⟩
      case round =>
        clear H'
        try clear c2
        try clear c2b0
        try clear c2b1
        try clear p2
        try clear c3
        try clear c3b0
        try clear c3b1
        obtain ⟨x3_1, x4_1, rfl, HA, HK1, HO_3, HB⟩ := hrel
        cases gk with
        | zero => exact absurd HA.out (by simp [laws_toSlotS.l0])
        | succ k1 =>
          have H := HA.out
          clear HA
          simp only [laws_toSlotS.l0] at H
          by_cases c6 : x4_1 < (l0.length : Int)
          · rw [if_pos c6] at H
            have c6b0 : decide (x4_1 < (l0.length : Int)) = true := decide_eq_true c6
            clear c6
            by_cases c7 : 0 ≤ x4_1
            · rw [if_pos c7] at H
              have c7b0 : decide (0 ≤ x4_1) = true := decide_eq_true c7
              clear c7
              replace H := Option.bind_eq_some_iff.mp H
              obtain ⟨⟨t753, t754⟩, A80, H⟩ := H
              replace H : (if x4_1 < (x3_1.length : Int) then (laws_toSlotS.l0 k1 l0 (x3_1.set (x4_1 : Int).toNat (⟨t753, t754⟩ : S90)) (wrap64 (x4_1 + 1))) else (none)) = some r := H
              have A8 := Aside0.mk A80
              clear A80
              by_cases c9 : x4_1 < (x3_1.length : Int)
              · rw [if_pos c9] at H
                have c9b0 : decide (x4_1 < (x3_1.length : Int)) = true := decide_eq_true c9
                clear c9
                obtain ⟨y755, hy755⟩ : ∃ y_ : List (S90), y_ = (x3_1.set (x4_1 : Int).toNat (⟨t753, t754⟩ : S90)) := ⟨_, rfl⟩
                replace H : (laws_toSlotS.l0 k1 l0 y755 (wrap64 (x4_1 + 1))) = some r := by first | (rw [hy755]; with_reducible exact H) | (have H2_ := (Option.bind_some _ _).symm.trans H; rw [hy755]; with_reducible exact H2_) | (have H2_ := (Option.bind_some _ _).symm.trans H; with_reducible exact H2_) | with_reducible exact H | (rw [hy755]; exact H) | exact H
                have Ny755 := Aside0.mk hy755
                clear hy755
                have H' := Aside0.mk H
                clear H
                have p752 : 0 ≤ (x4_1 : Int) := of_decide_eq_true (by first | (with_reducible assumption) | assumption)
                have q752 : x4_1 < (l0.length : Int) := of_decide_eq_true (by first | (with_reducible assumption) | assumption)
                obtain ⟨ad752, e752, hx752_0, hx752_1⟩ := at_T110 HR0.out x4_1 p752 q752
                cases e752
                replace hx752_0 := (HB.out.cell (World.block_lt_of_cell? w _ hx752_0)).trans hx752_0
                replace hx752_1 := (HB.out.cell (World.block_lt_of_cell? w _ hx752_1)).trans hx752_1
                replace p752 := eq_true p752
                replace q752 := eq_true q752
                go_wp2_with (first | ((with_reducible refine gate_callee (f := 97) rfl ?_); refine goesL_ (some 20) rfl rfl Try.func97 (by kernel_rfl) rfl #[.agg #[.int .i64 ((rd_T110 l0 x4_1).f0), .int .i64 ((rd_T110 l0 x4_1).f1)]] rfl arr_ ?_; (with_reducible refine (laws_toSlot.calls ((rd_T110 l0 x4_1).f0) ((rd_T110 l0 x4_1).f1) t753 t754 _ A8.out).mono ?_); rintro e w11 ⟨rfl, hb⟩; refine ⟨_, rfl, ?_⟩; have n0_ := Aside0.mk (Kd.R_below (by (with_reducible repeat (first | apply Kd.R_alloc | apply Kd.R_drewN | apply Kd.R_drew)); exact HO_3.out) hb); have n1_ := Aside0.mk (below_step (hb_ HB.out) hb); clear HO_3; clear HB; have HO_3 := n0_; have HB := n1_; clear n0_ n1_; (try clear hb); (try clear hb2); (try clear hk); (try clear hi); have p10 : 0 ≤ (x4_1 : Int) := of_decide_eq_true (by first | (with_reducible assumption) | assumption); have q10 : (x4_1 : Int) < ((x3_1.length : Int) : Int) := of_decide_eq_true (by first | (with_reducible assumption) | assumption); obtain ⟨go10, co10, eo10, gb10, gl10, cl10, HG10⟩ := Kd.R_form HO_3.out (by omega); (first | cases eo10 | (injection eo10 with ea_ en_ ec_; (first | subst ea_ | (injection ea_ with ea_; subst ea_)); subst ec_; clear en_)); have GB10 := Aside0.mk gb10; have GG10 := Aside0.mk HG10; clear gb10 gl10 HG10; obtain ⟨ce10, hcl10, hM10, hcc10, hfr10⟩ := Kd.R_elem HO_3.out z90 (x4_1 : Int) p10 q10; obtain rfl := k90_openM hM10; have hx10_0 : w11.cell? ⟨go10, (x4_1 : Int).toNat * 2, none⟩ = some (.int .i64 ((rd_T90 x3_1 x4_1).f0)) := hcc10 0 _ rfl; have hx10_1 : w11.cell? ⟨go10, (x4_1 : Int).toNat * 2 + 1, none⟩ = some (.int .i64 ((rd_T90 x3_1 x4_1).f1)) := hcc10 1 _ rfl; have hf10_0 : w11.frozen? ⟨go10, (x4_1 : Int).toNat * 2, none⟩ = false := hfr10 0; have hf10_1 : w11.frozen? ⟨go10, (x4_1 : Int).toNat * 2 + 1, none⟩ = false := hfr10 1; clear hcl10 hcc10 hfr10 hM10; replace p10 := eq_true p10; replace q10 := eq_true q10; have HX12 := Aside0.mk (show Kd.R k90 90 w11 w.heap.size (fun _ => True) (.slice (some ⟨go10, 0, none⟩) x3_1.length co10) x3_1 from (by (with_reducible repeat (first | apply Kd.R_alloc | apply Kd.R_drewN | apply Kd.R_drew)); exact HO_3.out)); obtain ⟨ce12, hcl12, hM12, hcc12, hfr12⟩ := Kd.R_elem HX12.out z90 (x4_1 : Int) (of_decide_eq_true (by first | (with_reducible assumption) | assumption)) (by have h_ : (x4_1 : Int) < ((x3_1.length : Int) : Int) := of_decide_eq_true (by first | (with_reducible assumption) | assumption); first | exact h_ | (have e_ := (Kd.R_reads' HO_3.out).1; omega) | simpa using h_); obtain rfl := k90_openM hM12; have HP12 := Kd.R_seg HX12.out (x4_1 : Int) (of_decide_eq_true (by first | (with_reducible assumption) | assumption)) (by have h_ : (x4_1 : Int) < ((x3_1.length : Int) : Int) := of_decide_eq_true (by first | (with_reducible assumption) | assumption); first | exact h_ | (have e_ := (Kd.R_reads' HO_3.out).1; omega) | simpa using h_) (seg := [.int .i64 t753, .int .i64 t754]) (j := 0) hcl12 hcc12 (show 2 ≤ 2 from by decide) (x' := (⟨t753, t754⟩ : S90)) (k90_mkM _ _ _ (⟨t753, t754⟩ : S90) ) (fun _ hk => hk); have hx12_0 := hcc12 0 _ rfl; (try simp only [show (k90).sz = 2 from rfl, Nat.mul_one, Nat.add_zero] at hx12_0); have hf12_0 := hfr12 0; (try simp only [show (k90).sz = 2 from rfl, Nat.mul_one, Nat.add_zero] at hf12_0); have hx12_1 := hcc12 1 _ rfl; (try simp only [show (k90).sz = 2 from rfl, Nat.mul_one, Nat.add_zero] at hx12_1); have hf12_1 := hfr12 1; (try simp only [show (k90).sz = 2 from rfl, Nat.mul_one, Nat.add_zero] at hf12_1); clear hcl12 hcc12 hfr12 hM12) | ((with_reducible refine gate_store (t := 90) (p := 21) rfl ?_); refine store_event (t := 90) (p := 21) (v := ?vo_w13) (w1 := ((w11.setCell ⟨go10, (x4_1 : Int).toNat * 2, none⟩ (.int .i64 t753)).setCell ⟨go10, (x4_1 : Int).toNat * 2 + 1, none⟩ (.int .i64 t754))) ?hg ?ho ?hn ?hr ?_; (case ho => rfl); (case hg => rfl); (case hn => rfl); (case hr => first | (go_simp; done) | (go_simp; rfl)); intro w13 hw; have hg : w11.grownBy w13 (some go10) := (by rw [hw]; exact HP12.2); have hp_ : Kd.R k90 90 w13 w.heap.size (fun _ => True) (.slice (some ⟨go10, 0, none⟩) x3_1.length co10) y755 := (by rw [hw, Ny755.out]; exact HP12.1); clear HP12; have n0_ := Aside0.mk (hp_); have n1_ := Aside0.mk ((by rw [hw]; exact below_set (below_set (HB.out) GB10.out) GB10.out : Below w.heap.size w w13)); clear HO_3; clear HB; have HO_3 := n0_; have HB := n1_; clear n0_ n1_; clear hg hw hp_))
                go_roundg k1
                case measure => have := HK1.out; omega
                case rel => exact ⟨(y755), (wrap64 (x4_1 + 1)), (by first | rfl | (simp; done) | (simp [*]; done)), H', ⟨by have := HK1.out; omega⟩, ⟨by (with_reducible repeat (first | apply Kd.R_alloc | apply Kd.R_drewN | apply Kd.R_drew)); exact HO_3.out⟩, ⟨hb_ HB.out⟩⟩
              · rw [if_neg c9] at H
                exact absurd H (by simp)
            · rw [if_neg c7] at H
              exact absurd H (by simp)
          · rw [if_neg c6] at H
            have c6b0 : decide (x4_1 < (l0.length : Int)) = false := decide_eq_false c6
            clear c6
            obtain rfl := Option.some.inj H
            go_wp2
            go_ret
            exact ⟨_, er_, by (with_reducible repeat (first | apply Kd.R_alloc | apply Kd.R_drewN | apply Kd.R_drew)); exact HO_3.out, hb_ HB.out⟩
    · rw [if_neg c3] at H
      exact absurd H (by simp)
  · rw [if_neg c2] at H
    exact absurd H (by simp)
end Go.Proofs.Ytjlmfnpgcmmdnaa.P
