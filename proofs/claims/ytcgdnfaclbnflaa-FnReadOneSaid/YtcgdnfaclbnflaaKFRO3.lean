/- Texts of the seat's proofs, part 3: functions of the program told as plain functions, with their contracts, and what is shown of them. No condition. -/
import Derived.Test.YtcgdnfaclbnflaaUKFRO
import Derived.Test.YtcgdnfaclbnflaaKFRO1
import Derived.Test.YtcgdnfaclbnflaaKFRO2
set_option linter.unusedVariables false
set_option linter.unusedSimpArgs false
namespace Go.Proofs.Ytcgdnfaclbnflaa.P
open Go.RowKit Go.Proofs.YtcgdnfaclbnflaaW.PrintWords Go.Proofs.YtcgdnfaclbnflaaW.PrintLast Go.Proofs.YtcgdnfaclbnflaaW.PrintMore
attribute [local go_sem] max2_int min2_int max_two min_two max_three min_three max_four min_four
set_option linter.unusedVariables false
set_option linter.unusedSimpArgs false
mutual
def impl_AppRead.j0 : Nat → Bool → Bool → Bool → Int → Int → Int → Option (Bool × Int × Int × Bool × Int)
  | 0, _, _, _, _, _, _ => none
  | k + 1, x1, x12, x584000, x584001, x585000, x585001 => if x12 = true then (some (false, 0, 0, false, 1)) else (if x1 = true then (impl_AppRead.j1 k x1 false x584000 x584001 x585000 x585001) else (impl_AppRead.j1 k x1 (!x584000) x584000 x584001 x585000 x585001))
def impl_AppRead.j1 : Nat → Bool → Bool → Bool → Int → Int → Int → Option (Bool × Int × Int × Bool × Int)
  | 0, _, _, _, _, _, _ => none
  | k + 1, x1, x25, x584000, x584001, x585000, x585001 => if x25 = true then (some (x584000, x584001, 0, false, 2)) else (if x1 = true then (if x584000 = true then (impl_AppRead.j2 k (decide (x584001 > x585001)) x584000 x584001 x585000 x585001) else (impl_AppRead.j2 k false x584000 x584001 x585000 x585001)) else (impl_AppRead.j2 k true x584000 x584001 x585000 x585001))
def impl_AppRead.j2 : Nat → Bool → Bool → Int → Int → Int → Option (Bool × Int × Int × Bool × Int)
  | 0, _, _, _, _, _ => none
  | k + 1, x34, x584000, x584001, x585000, x585001 => if x34 = true then (some (x584000, x584001, x584001, true, 0)) else ((impl_Middle.f x585000 x585001).bind fun bt588 => (if x584000 = true then (some (true, mx bt588.1 x584001, mx bt588.1 x584001, false, 0)) else (some (true, bt588.1, bt588.1, false, 0))))
end
def impl_AppRead.f (k : Nat) (a0_0 : Bool) (a0_1 : Int) (a1 : Bool) (a2_0 : Int) (a2_1 : Int) : Option (Bool × Int × Int × Bool × Int) := (impl_AppOk.f a0_0 a0_1).bind fun t586 => (if t586 = true then (if a1 = true then ((impl_IvalOk.f a2_0 a2_1).bind fun t587 => (impl_AppRead.j0 k a1 (!t587) a0_0 a0_1 a2_0 a2_1)) else (impl_AppRead.j0 k a1 false a0_0 a0_1 a2_0 a2_1)) else (impl_AppRead.j0 k a1 true a0_0 a0_1 a2_0 a2_1))
set_option maxHeartbeats 8000000 in
set_option maxRecDepth 100000 in
theorem impl_AppRead.calls (k : Nat) (a0_0 : Bool) (a0_1 : Int) (a1 : Bool) (a2_0 : Int) (a2_1 : Int) (r1 : Bool) (r2 : Int) (r3 : Int) (r4 : Bool) (r5 : Int) (w : World) (h : impl_AppRead.f k a0_0 a0_1 a1 a2_0 a2_1 = some (r1, r2, r3, r4, r5)) :
    Calls Try.prog 53 #[.agg #[.bool a0_0, .int .i64 a0_1], .bool a1, .agg #[.int .i64 a2_0, .int .i64 a2_1]] w fun e w' => e = .returned (.tuple #[.agg #[.bool r1, .int .i64 r2], .int .i64 r3, .bool r4, .int .i64 r5]) ∧ Below w.heap.size w w' := by
  have hu66 := Try.underlying66
  have hu81 := Try.underlying81
  have HB := Aside0.mk (Below.refl w.heap.size w)
  have H : ((impl_AppOk.f a0_0 a0_1).bind fun t586 => (if t586 = true then (if a1 = true then ((impl_IvalOk.f a2_0 a2_1).bind fun t587 => (impl_AppRead.j0 k a1 (!t587) a0_0 a0_1 a2_0 a2_1)) else (impl_AppRead.j0 k a1 false a0_0 a0_1 a2_0 a2_1)) else (impl_AppRead.j0 k a1 true a0_0 a0_1 a2_0 a2_1))) = some (r1, r2, r3, r4, r5) := h
  clear h
  have HC4 := Aside0.mk H
  clear H
  go_enter Try.func53, Try.ntmps53
  go_upto_region 1 with (first | ((with_reducible refine gate_dst (N := 3) rfl ?_); refine box_event ?hg (N := 3) ?hd (cs := #[.bool a0_0, .int .i64 a0_1]) (t := 66) ?hr ?_; (case hd => rfl); (case hg => rfl); (case hr => first | (go_simp; done) | (go_simp; rfl)); intro gb583 hg w5 hbox hb; have n0_ := Aside0.mk (below_step (hb_ HB.out) hb); have n1_ := Aside0.mk (hbox); have n2_ := Aside0.mk ((by rw [hg]; exact (below_size (hb_ HB.out)) : w.heap.size ≤ gb583)); have n3_ := Aside0.mk ((by rw [hg]; exact (below_size (hb_ HB.out)) : w.heap.size ≤ gb583)); clear HB; have HB := n0_; have BK583 := n1_; have GW583 := n2_; have GE583 := n3_; clear n0_ n1_ n2_ n3_; clear hb hbox hg) | ((with_reducible refine gate_dst (N := 5) rfl ?_); refine box_event ?hg (N := 5) ?hd (cs := #[.int .i64 a2_0, .int .i64 a2_1]) (t := 81) ?hr ?_; (case hd => rfl); (case hg => rfl); (case hr => first | (go_simp; done) | (go_simp; rfl)); intro gb584 hg w6 hbox hb; have n0_ := Aside0.mk (bb_ BK583.out hb); have n1_ := Aside0.mk (below_step (hb1_ HB.out GE583.out) hb); have n2_ := Aside0.mk (hbox); have n3_ := Aside0.mk ((by rw [hg]; exact (below_size (hb1_ HB.out GE583.out)) : w.heap.size ≤ gb584)); have n4_ := Aside0.mk ((by rw [hg]; exact (below_size (hb1_ HB.out GE583.out)) : w.heap.size ≤ gb584)); have n5_ := Aside0.mk ((bl_ hg BK583.out : gb583 ≠ gb584)); have n6_ := Aside0.mk ((bg_ hg BK583.out : gb584 ≠ gb583)); clear BK583; clear HB; have BK583 := n0_; have HB := n1_; have BK584 := n2_; have GW584 := n3_; have GE584 := n4_; have NB583_584 := n5_; have NB584_583 := n6_; clear n0_ n1_ n2_ n3_ n4_ n5_ n6_; clear hb hbox hg) | ((with_reducible refine gate_dst (N := 6) rfl ?_); refine box_event ?hg (N := 6) ?hd (cs := #[.bool false, .int .i64 0]) (t := 66) ?hr ?_; (case hd => rfl); (case hg => rfl); (case hr => first | (go_simp; done) | (go_simp; rfl)); intro gb585 hg w7 hbox hb; have n0_ := Aside0.mk (bb_ BK583.out hb); have n1_ := Aside0.mk (bb_ BK584.out hb); have n2_ := Aside0.mk (below_step (hb2_ HB.out GE583.out GE584.out) hb); have n3_ := Aside0.mk (hbox); have n4_ := Aside0.mk ((by rw [hg]; exact (below_size (hb2_ HB.out GE583.out GE584.out)) : w.heap.size ≤ gb585)); have n5_ := Aside0.mk ((by rw [hg]; exact (below_size (hb2_ HB.out GE583.out GE584.out)) : w.heap.size ≤ gb585)); have n6_ := Aside0.mk ((bl_ hg BK583.out : gb583 ≠ gb585)); have n7_ := Aside0.mk ((bg_ hg BK583.out : gb585 ≠ gb583)); have n8_ := Aside0.mk ((bl_ hg BK584.out : gb584 ≠ gb585)); have n9_ := Aside0.mk ((bg_ hg BK584.out : gb585 ≠ gb584)); clear BK583; clear BK584; clear HB; have BK583 := n0_; have BK584 := n1_; have HB := n2_; have BK585 := n3_; have GW585 := n4_; have GE585 := n5_; have NB583_585 := n6_; have NB585_583 := n7_; have NB584_585 := n8_; have NB585_584 := n9_; clear n0_ n1_ n2_ n3_ n4_ n5_ n6_ n7_ n8_ n9_; clear hb hbox hg))
  (try simp only [Act.put, List.setIfInBounds_toArray, List.set_cons_zero, List.set_cons_succ])
  go_cut [12] (fun v12 wc => ∃ (kq : Nat) (x12_3 : Bool), v12 = .bool x12_3 ∧ Aside0 (impl_AppRead.j0 kq a1 x12_3 a0_0 a0_1 a2_0 a2_1 = some (r1, r2, r3, r4, r5)) ∧ Aside0 (kq ≤ k) ∧ Aside0 (wc.heap[gb583]? = some (.cells #[.bool a0_0, .int .i64 a0_1] 66 (0, 0))) ∧ Aside0 (wc.heap[gb584]? = some (.cells #[.int .i64 a2_0, .int .i64 a2_1] 81 (0, 0))) ∧ Aside0 (wc.heap[gb585]? = some (.cells #[.bool false, .int .i64 0] 66 (0, 0))) ∧ Aside0 (Below w.heap.size w wc))
  case first =>
    have H := HC4.out
    clear HC4
    replace H := Option.bind_eq_some_iff.mp H
    obtain ⟨t586, A80, H⟩ := H
    replace H : (if t586 = true then (if a1 = true then ((impl_IvalOk.f a2_0 a2_1).bind fun t587 => (impl_AppRead.j0 k a1 (!t587) a0_0 a0_1 a2_0 a2_1)) else (impl_AppRead.j0 k a1 false a0_0 a0_1 a2_0 a2_1)) else (impl_AppRead.j0 k a1 true a0_0 a0_1 a2_0 a2_1)) = some (r1, r2, r3, r4, r5) := H
    have A8 := Aside0.mk A80
    clear A80
    by_cases c9 : t586 = true
    · subst c9
      have H1 : (if a1 = true then ((impl_IvalOk.f a2_0 a2_1).bind fun t587 => (impl_AppRead.j0 k a1 (!t587) a0_0 a0_1 a2_0 a2_1)) else (impl_AppRead.j0 k a1 false a0_0 a0_1 a2_0 a2_1)) = some (r1, r2, r3, r4, r5) := by rw [if_pos rfl] at H; exact H
      clear H
      have H := H1
      clear H1
      by_cases c10 : a1 = true
      · subst c10
        have H1 : ((impl_IvalOk.f a2_0 a2_1).bind fun t587 => (impl_AppRead.j0 k true (!t587) a0_0 a0_1 a2_0 a2_1)) = some (r1, r2, r3, r4, r5) := by rw [if_pos rfl] at H; exact H
        clear H
        have H := H1
        clear H1
        replace H := Option.bind_eq_some_iff.mp H
        obtain ⟨t587, A110, H⟩ := H
        replace H : (impl_AppRead.j0 k true (!t587) a0_0 a0_1 a2_0 a2_1) = some (r1, r2, r3, r4, r5) := H
        have A11 := Aside0.mk A110
        clear A110
        have H' := Aside0.mk H
        clear H
        have hnb12 := NB583_584.out
        have hnc12 := NB584_583.out
        have hnb13 := NB583_585.out
        have hnc13 := NB585_583.out
        have hcz14_0 := bc_ BK583.out 0 (.bool a0_0) rfl
        have hcz14_1 := bc_ BK583.out 1 (.int .i64 a0_1) rfl
        have hfz14_0 := blk_frozen BK583.out 0
        have hfz14_1 := blk_frozen BK583.out 1
        go_wp2_with (first | ((with_reducible refine gate_callee (f := 51) rfl ?_); refine goesL_ (some 14) rfl rfl Try.func51 (by kernel_rfl) rfl #[.agg #[.bool a0_0, .int .i64 a0_1]] rfl arr_ ?_; (with_reducible refine (impl_AppOk.calls a0_0 a0_1 true _ A8.out).mono ?_); rintro e w15 ⟨rfl, hb⟩; refine ⟨_, rfl, ?_⟩; have n0_ := Aside0.mk (bb_ BK583.out hb); have n1_ := Aside0.mk (bb_ BK584.out hb); have n2_ := Aside0.mk (bb_ BK585.out hb); have n3_ := Aside0.mk (below_step (hb3_ HB.out GE583.out GE584.out GE585.out) hb); clear BK583; clear BK584; clear BK585; clear HB; have BK583 := n0_; have BK584 := n1_; have BK585 := n2_; have HB := n3_; clear n0_ n1_ n2_ n3_; (try clear hb); (try clear hb2); (try clear hk); (try clear hi); have hnb16 := NB584_585.out; have hnc16 := NB585_584.out; have hcz17_0 := bc_ BK584.out 0 (.int .i64 a2_0) rfl; have hcz17_1 := bc_ BK584.out 1 (.int .i64 a2_1) rfl; have hfz17_0 := blk_frozen BK584.out 0; have hfz17_1 := blk_frozen BK584.out 1) | (go_at_call 94; (with_reducible refine (impl_IvalOk.calls a2_0 a2_1 t587 _ A11.out).mono ?_); rintro e w18 ⟨rfl, hb⟩; have n0_ := Aside0.mk (bb_ BK583.out hb); have n1_ := Aside0.mk (bb_ BK584.out hb); have n2_ := Aside0.mk (bb_ BK585.out hb); have n3_ := Aside0.mk (below_step (hb3_ HB.out GE583.out GE584.out GE585.out) hb); clear BK583; clear BK584; clear BK585; clear HB; have BK583 := n0_; have BK584 := n1_; have BK585 := n2_; have HB := n3_; clear n0_ n1_ n2_ n3_; (try clear hb); (try clear hb2); (try clear hk); (try clear hi)))
        go_meet
        case rel => exact ⟨_, (!t587), (by first | rfl | (simp; done) | (simp [*]; done)), H', ⟨by first | omega | exact Nat.le_refl _⟩, ⟨bk_ BK583.out⟩, ⟨bk_ BK584.out⟩, ⟨bk_ BK585.out⟩, ⟨hb3_ HB.out GE583.out GE584.out GE585.out⟩⟩
      · replace c10 := Bool.eq_false_iff.mpr c10
        subst c10
        have H1 : (impl_AppRead.j0 k false false a0_0 a0_1 a2_0 a2_1) = some (r1, r2, r3, r4, r5) := by rw [if_neg (show ¬ (false = true) by decide)] at H; exact H
        clear H
        have H := H1
        clear H1
        have H' := Aside0.mk H
        clear H
        have hnb19 := NB583_584.out
        have hnc19 := NB584_583.out
        have hnb20 := NB583_585.out
        have hnc20 := NB585_583.out
        have hcz21_0 := bc_ BK583.out 0 (.bool a0_0) rfl
        have hcz21_1 := bc_ BK583.out 1 (.int .i64 a0_1) rfl
        have hfz21_0 := blk_frozen BK583.out 0
        have hfz21_1 := blk_frozen BK583.out 1
        go_wp2_with (first | ((with_reducible refine gate_callee (f := 51) rfl ?_); refine goesL_ (some 14) rfl rfl Try.func51 (by kernel_rfl) rfl #[.agg #[.bool a0_0, .int .i64 a0_1]] rfl arr_ ?_; (with_reducible refine (impl_AppOk.calls a0_0 a0_1 true _ A8.out).mono ?_); rintro e w22 ⟨rfl, hb⟩; refine ⟨_, rfl, ?_⟩; have n0_ := Aside0.mk (bb_ BK583.out hb); have n1_ := Aside0.mk (bb_ BK584.out hb); have n2_ := Aside0.mk (bb_ BK585.out hb); have n3_ := Aside0.mk (below_step (hb3_ HB.out GE583.out GE584.out GE585.out) hb); clear BK583; clear BK584; clear BK585; clear HB; have BK583 := n0_; have BK584 := n1_; have BK585 := n2_; have HB := n3_; clear n0_ n1_ n2_ n3_; (try clear hb); (try clear hb2); (try clear hk); (try clear hi)))
        go_meet
        case rel => exact ⟨_, (false), (by first | rfl | (simp; done) | (simp [*]; done)), H', ⟨by first | omega | exact Nat.le_refl _⟩, ⟨bk_ BK583.out⟩, ⟨bk_ BK584.out⟩, ⟨bk_ BK585.out⟩, ⟨hb3_ HB.out GE583.out GE584.out GE585.out⟩⟩
    · replace c9 := Bool.eq_false_iff.mpr c9
      subst c9
      have H1 : (impl_AppRead.j0 k a1 true a0_0 a0_1 a2_0 a2_1) = some (r1, r2, r3, r4, r5) := by rw [if_neg (show ¬ (false = true) by decide)] at H; exact H
      clear H
      have H := H1
      clear H1
      have H' := Aside0.mk H
      clear H
      have hnb23 := NB583_584.out
      have hnc23 := NB584_583.out
      have hnb24 := NB583_585.out
      have hnc24 := NB585_583.out
      have hcz25_0 := bc_ BK583.out 0 (.bool a0_0) rfl
      have hcz25_1 := bc_ BK583.out 1 (.int .i64 a0_1) rfl
      have hfz25_0 := blk_frozen BK583.out 0
      have hfz25_1 := blk_frozen BK583.out 1
      go_wp2_with (first | ((with_reducible refine gate_callee (f := 51) rfl ?_); refine goesL_ (some 14) rfl rfl Try.func51 (by kernel_rfl) rfl #[.agg #[.bool a0_0, .int .i64 a0_1]] rfl arr_ ?_; (with_reducible refine (impl_AppOk.calls a0_0 a0_1 false _ A8.out).mono ?_); rintro e w26 ⟨rfl, hb⟩; refine ⟨_, rfl, ?_⟩; have n0_ := Aside0.mk (bb_ BK583.out hb); have n1_ := Aside0.mk (bb_ BK584.out hb); have n2_ := Aside0.mk (bb_ BK585.out hb); have n3_ := Aside0.mk (below_step (hb3_ HB.out GE583.out GE584.out GE585.out) hb); clear BK583; clear BK584; clear BK585; clear HB; have BK583 := n0_; have BK584 := n1_; have BK585 := n2_; have HB := n3_; clear n0_ n1_ n2_ n3_; (try clear hb); (try clear hb2); (try clear hk); (try clear hi)))
      go_meet
      case rel => exact ⟨_, (true), (by first | rfl | (simp; done) | (simp [*]; done)), H', ⟨by first | omega | exact Nat.le_refl _⟩, ⟨bk_ BK583.out⟩, ⟨bk_ BK584.out⟩, ⟨bk_ BK585.out⟩, ⟨hb3_ HB.out GE583.out GE584.out GE585.out⟩⟩
  case rest =>
    clear HC4
    try clear c1
    try clear c2
    try clear p2
    try clear c5
    try clear c9
    try clear c10
    try clear c12
    try clear c13
    try clear c16
    try clear c19
    try clear c20
    try clear c23
    try clear c24
    try clear hcz14_0
    try clear hcz14_1
    try clear hcz17_0
    try clear hcz17_1
    try clear hcz21_0
    try clear hcz21_1
    try clear hcz25_0
    try clear hcz25_1
    try clear hfz14_0
    try clear hfz14_1
    try clear hfz17_0
    try clear hfz17_1
    try clear hfz21_0
    try clear hfz21_1
    try clear hfz25_0
    try clear hfz25_1
    obtain ⟨kq, x12_3, rfl, HA, HJ3, BK583, BK584, BK585, HB⟩ := hcut
    cases kq with
    | zero => exact absurd HA.out (by simp [impl_AppRead.j0])
    | succ kj3 =>
      have H := HA.out
      clear HA
      simp only [impl_AppRead.j0] at H
      by_cases c27 : x12_3 = true
      · subst c27
        have H1 : (some (false, 0, 0, false, 1)) = some (r1, r2, r3, r4, r5) := by rw [if_pos rfl] at H; exact H
        clear H
        have H := H1
        clear H1
        simp only [Option.some.injEq, Prod.mk.injEq] at H
        obtain ⟨rfl, rfl, rfl, rfl, rfl⟩ := H
        have hnb28 := NB585_583.out
        have hnc28 := NB583_585.out
        have hnb29 := NB585_584.out
        have hnc29 := NB584_585.out
        have hcz30_0 := bc_ BK585.out 0 (.bool false) rfl
        have hcz30_1 := bc_ BK585.out 1 (.int .i64 0) rfl
        have hfz30_0 := blk_frozen BK585.out 0
        have hfz30_1 := blk_frozen BK585.out 1
        go_wp2
        refine bodyPost_ret (results_list (rs := [.cell 6 66, .tmp 7, .tmp 8, .tmp 9]) rfl (by simp) (.cell gb585 66 #[.bool false, .int .i64 0] (0, 0) _ rfl (by (with_reducible repeat (first | refine blk_drewN ?_ _ | refine blk_drew ?_ | refine blk_alloc ?_ _)); refine blk_put (cs := #[.bool false, .int .i64 0]) ?_ 1 _ rfl; (with_reducible repeat (first | refine blk_drewN ?_ _ | refine blk_drew ?_ | refine blk_alloc ?_ _)); refine blk_put (cs := #[.bool false, .int .i64 0]) ?_ 0 _ rfl; (with_reducible repeat (first | refine blk_drewN ?_ _ | refine blk_drew ?_ | refine blk_alloc ?_ _)); exact BK585.out) Try.underlying66 rfl (by kernel_rfl) (.tmp (.tmp (.tmp .nil))))) rfl ?_
        exact ⟨er_, hb3_ HB.out GE583.out GE584.out GE585.out⟩
      · replace c27 := Bool.eq_false_iff.mpr c27
        subst c27
        have H1 : (if a1 = true then (impl_AppRead.j1 kj3 a1 false a0_0 a0_1 a2_0 a2_1) else (impl_AppRead.j1 kj3 a1 (!a0_0) a0_0 a0_1 a2_0 a2_1)) = some (r1, r2, r3, r4, r5) := by rw [if_neg (show ¬ (false = true) by decide)] at H; exact H
        clear H
        have H := H1
        clear H1
        have HC31 := Aside0.mk H
        clear H
        go_upto_region 3 with (fail)
        go_cut [25] (fun v25 wc => ∃ (kq : Nat) (x25_30 : Bool), v25 = .bool x25_30 ∧ Aside0 (impl_AppRead.j1 kq a1 x25_30 a0_0 a0_1 a2_0 a2_1 = some (r1, r2, r3, r4, r5)) ∧ Aside0 (kq ≤ kj3) ∧ Aside0 (wc.heap[gb583]? = some (.cells #[.bool a0_0, .int .i64 a0_1] 66 (0, 0))) ∧ Aside0 (wc.heap[gb584]? = some (.cells #[.int .i64 a2_0, .int .i64 a2_1] 81 (0, 0))) ∧ Aside0 (wc.heap[gb585]? = some (.cells #[.bool false, .int .i64 0] 66 (0, 0))) ∧ Aside0 (Below w.heap.size w wc))
        case first =>
          have H := HC31.out
          clear HC31
          by_cases c32 : a1 = true
          · subst c32
            have H1 : (impl_AppRead.j1 kj3 true false a0_0 a0_1 a2_0 a2_1) = some (r1, r2, r3, r4, r5) := by rw [if_pos rfl] at H; exact H
            clear H
            have H := H1
            clear H1
            have H' := Aside0.mk H
            clear H
            go_wp2
            go_meet
            case rel => exact ⟨_, (false), (by first | rfl | (simp; done) | (simp [*]; done)), H', ⟨by have := HJ3.out; first | omega | exact Nat.le_refl _⟩, ⟨bk_ BK583.out⟩, ⟨bk_ BK584.out⟩, ⟨bk_ BK585.out⟩, ⟨hb3_ HB.out GE583.out GE584.out GE585.out⟩⟩
          · replace c32 := Bool.eq_false_iff.mpr c32
            subst c32
            have H1 : (impl_AppRead.j1 kj3 false (!a0_0) a0_0 a0_1 a2_0 a2_1) = some (r1, r2, r3, r4, r5) := by rw [if_neg (show ¬ (false = true) by decide)] at H; exact H
            clear H
            have H := H1
            clear H1
            have H' := Aside0.mk H
            clear H
            have hnb33 := NB583_584.out
            have hnc33 := NB584_583.out
            have hnb34 := NB583_585.out
            have hnc34 := NB585_583.out
            have hcz35_0 := bc_ BK583.out 0 (.bool a0_0) rfl
            have hcz35_1 := bc_ BK583.out 1 (.int .i64 a0_1) rfl
            have hfz35_0 := blk_frozen BK583.out 0
            have hfz35_1 := blk_frozen BK583.out 1
            go_wp2
            go_meet
            case rel => exact ⟨_, (!a0_0), (by first | rfl | (simp; done) | (simp [*]; done)), H', ⟨by have := HJ3.out; first | omega | exact Nat.le_refl _⟩, ⟨bk_ BK583.out⟩, ⟨bk_ BK584.out⟩, ⟨bk_ BK585.out⟩, ⟨hb3_ HB.out GE583.out GE584.out GE585.out⟩⟩
        case rest =>
          clear HC31
          try clear c1
          try clear c2
          try clear p2
          try clear c3
          try clear c5
          try clear c9
          try clear c10
          try clear c12
          try clear c13
          try clear c16
          try clear c19
          try clear c20
          try clear c23
          try clear c24
          try clear c27
          try clear c28
          try clear c29
          try clear c32
          try clear c33
          try clear c34
          try clear hcz14_0
          try clear hcz14_1
          try clear hcz17_0
          try clear hcz17_1
          try clear hcz21_0
          try clear hcz21_1
          try clear hcz25_0
          try clear hcz25_1
          try clear hcz30_0
          try clear hcz30_1
          try clear hcz35_0
          try clear hcz35_1
          try clear hfz14_0
          try clear hfz14_1
          try clear hfz17_0
          try clear hfz17_1
          try clear hfz21_0
          try clear hfz21_1
          try clear hfz25_0
          try clear hfz25_1
          try clear hfz30_0
          try clear hfz30_1
          try clear hfz35_0
          try clear hfz35_1
          try clear p2
          obtain ⟨kq, x25_30, rfl, HA, HJ30, BK583, BK584, BK585, HB⟩ := hcut
          cases kq with
          | zero => exact absurd HA.out (by simp [impl_AppRead.j1])
          | succ kj30 =>
            have H := HA.out
            clear HA
            simp only [impl_AppRead.j1] at H
            by_cases c36 : x25_30 = true
            · subst c36
              have H1 : (some (a0_0, a0_1, 0, false, 2)) = some (r1, r2, r3, r4, r5) := by rw [if_pos rfl] at H; exact H
              clear H
              have H := H1
              clear H1
              simp only [Option.some.injEq, Prod.mk.injEq] at H
              obtain ⟨rfl, rfl, rfl, rfl, rfl⟩ := H
              have hnb37 := NB583_584.out
              have hnc37 := NB584_583.out
              have hnb38 := NB583_585.out
              have hnc38 := NB585_583.out
              have hcz39_0 := bc_ BK583.out 0 (.bool a0_0) rfl
              have hcz39_1 := bc_ BK583.out 1 (.int .i64 a0_1) rfl
              have hfz39_0 := blk_frozen BK583.out 0
              have hfz39_1 := blk_frozen BK583.out 1
              have hnb40 := NB585_584.out
              have hnc40 := NB584_585.out
              have hcz41_0 := bc_ BK585.out 0 (.bool false) rfl
              have hcz41_1 := bc_ BK585.out 1 (.int .i64 0) rfl
              have hfz41_0 := blk_frozen BK585.out 0
              have hfz41_1 := blk_frozen BK585.out 1
              go_wp2
              refine bodyPost_ret (results_list (rs := [.cell 6 66, .tmp 7, .tmp 8, .tmp 9]) rfl (by simp) (.cell gb585 66 #[.bool a0_0, .int .i64 a0_1] (0, 0) _ rfl (by (with_reducible repeat (first | refine blk_drewN ?_ _ | refine blk_drew ?_ | refine blk_alloc ?_ _)); refine blk_put (cs := #[.bool a0_0, .int .i64 0]) ?_ 1 _ rfl; (with_reducible repeat (first | refine blk_drewN ?_ _ | refine blk_drew ?_ | refine blk_alloc ?_ _)); refine blk_put (cs := #[.bool false, .int .i64 0]) ?_ 0 _ rfl; (with_reducible repeat (first | refine blk_drewN ?_ _ | refine blk_drew ?_ | refine blk_alloc ?_ _)); exact BK585.out) Try.underlying66 rfl (by kernel_rfl) (.tmp (.tmp (.tmp .nil))))) rfl ?_
              exact ⟨er_, hb3_ HB.out GE583.out GE584.out GE585.out⟩
            · replace c36 := Bool.eq_false_iff.mpr c36
              subst c36
              have H1 : (if a1 = true then (if a0_0 = true then (impl_AppRead.j2 kj30 (decide (a0_1 > a2_1)) a0_0 a0_1 a2_0 a2_1) else (impl_AppRead.j2 kj30 false a0_0 a0_1 a2_0 a2_1)) else (impl_AppRead.j2 kj30 true a0_0 a0_1 a2_0 a2_1)) = some (r1, r2, r3, r4, r5) := by rw [if_neg (show ¬ (false = true) by decide)] at H; exact H
              clear H
              have H := H1
              clear H1
              have HC42 := Aside0.mk H
              clear H
              go_upto_region 5 with (fail)
              go_cut [34] (fun v34 wc => ∃ (kq : Nat) (x34_41 : Bool), v34 = .bool x34_41 ∧ Aside0 (impl_AppRead.j2 kq x34_41 a0_0 a0_1 a2_0 a2_1 = some (r1, r2, r3, r4, r5)) ∧ Aside0 (kq ≤ kj30) ∧ Aside0 (wc.heap[gb583]? = some (.cells #[.bool a0_0, .int .i64 a0_1] 66 (0, 0))) ∧ Aside0 (wc.heap[gb584]? = some (.cells #[.int .i64 a2_0, .int .i64 a2_1] 81 (0, 0))) ∧ Aside0 (wc.heap[gb585]? = some (.cells #[.bool false, .int .i64 0] 66 (0, 0))) ∧ Aside0 (Below w.heap.size w wc))
              case first =>
                have H := HC42.out
                clear HC42
                by_cases c43 : a1 = true
                · subst c43
                  have H1 : (if a0_0 = true then (impl_AppRead.j2 kj30 (decide (a0_1 > a2_1)) a0_0 a0_1 a2_0 a2_1) else (impl_AppRead.j2 kj30 false a0_0 a0_1 a2_0 a2_1)) = some (r1, r2, r3, r4, r5) := by rw [if_pos rfl] at H; exact H
                  clear H
                  have H := H1
                  clear H1
                  by_cases c44 : a0_0 = true
                  · subst c44
                    have H1 : (impl_AppRead.j2 kj30 (decide (a0_1 > a2_1)) true a0_1 a2_0 a2_1) = some (r1, r2, r3, r4, r5) := by rw [if_pos rfl] at H; exact H
                    clear H
                    have H := H1
                    clear H1
                    have H' := Aside0.mk H
                    clear H
                    have hnb45 := NB583_584.out
                    have hnc45 := NB584_583.out
                    have hnb46 := NB583_585.out
                    have hnc46 := NB585_583.out
                    have hcz47_0 := bc_ BK583.out 0 (.bool true) rfl
                    have hcz47_1 := bc_ BK583.out 1 (.int .i64 a0_1) rfl
                    have hfz47_0 := blk_frozen BK583.out 0
                    have hfz47_1 := blk_frozen BK583.out 1
                    have hnb48 := NB584_585.out
                    have hnc48 := NB585_584.out
                    have hcz49_0 := bc_ BK584.out 0 (.int .i64 a2_0) rfl
                    have hcz49_1 := bc_ BK584.out 1 (.int .i64 a2_1) rfl
                    have hfz49_0 := blk_frozen BK584.out 0
                    have hfz49_1 := blk_frozen BK584.out 1
                    go_wp2
                    go_meet
                    case rel => exact ⟨_, (decide (a0_1 > a2_1)), (by first | rfl | (simp; done) | (simp [*]; done)), H', ⟨by have := HJ3.out; have := HJ30.out; first | omega | exact Nat.le_refl _⟩, ⟨bk_ BK583.out⟩, ⟨bk_ BK584.out⟩, ⟨bk_ BK585.out⟩, ⟨hb3_ HB.out GE583.out GE584.out GE585.out⟩⟩
                  · replace c44 := Bool.eq_false_iff.mpr c44
                    subst c44
                    have H1 : (impl_AppRead.j2 kj30 false false a0_1 a2_0 a2_1) = some (r1, r2, r3, r4, r5) := by rw [if_neg (show ¬ (false = true) by decide)] at H; exact H
                    clear H
                    have H := H1
                    clear H1
                    have H' := Aside0.mk H
                    clear H
                    have hnb50 := NB583_584.out
                    have hnc50 := NB584_583.out
                    have hnb51 := NB583_585.out
                    have hnc51 := NB585_583.out
                    have hcz52_0 := bc_ BK583.out 0 (.bool false) rfl
                    have hcz52_1 := bc_ BK583.out 1 (.int .i64 a0_1) rfl
                    have hfz52_0 := blk_frozen BK583.out 0
                    have hfz52_1 := blk_frozen BK583.out 1
                    go_wp2
                    go_meet
                    case rel => exact ⟨_, (false), (by first | rfl | (simp; done) | (simp [*]; done)), H', ⟨by have := HJ3.out; have := HJ30.out; first | omega | exact Nat.le_refl _⟩, ⟨bk_ BK583.out⟩, ⟨bk_ BK584.out⟩, ⟨bk_ BK585.out⟩, ⟨hb3_ HB.out GE583.out GE584.out GE585.out⟩⟩
                · replace c43 := Bool.eq_false_iff.mpr c43
                  subst c43
                  have H1 : (impl_AppRead.j2 kj30 true a0_0 a0_1 a2_0 a2_1) = some (r1, r2, r3, r4, r5) := by rw [if_neg (show ¬ (false = true) by decide)] at H; exact H
                  clear H
                  have H := H1
                  clear H1
                  have H' := Aside0.mk H
                  clear H
                  go_wp2
                  go_meet
                  case rel => exact ⟨_, (true), (by first | rfl | (simp; done) | (simp [*]; done)), H', ⟨by have := HJ3.out; have := HJ30.out; first | omega | exact Nat.le_refl _⟩, ⟨bk_ BK583.out⟩, ⟨bk_ BK584.out⟩, ⟨bk_ BK585.out⟩, ⟨hb3_ HB.out GE583.out GE584.out GE585.out⟩⟩
              case rest =>
                clear HC42
                try clear c1
                try clear c2
                try clear p2
                try clear c3
                try clear c4
                try clear c5
                try clear c9
                try clear c10
                try clear c12
                try clear c13
                try clear c16
                try clear c19
                try clear c20
                try clear c23
                try clear c24
                try clear c27
                try clear c28
                try clear c29
                try clear c32
                try clear c33
                try clear c34
                try clear c36
                try clear c37
                try clear c38
                try clear c40
                try clear c43
                try clear c44
                try clear c45
                try clear c46
                try clear c48
                try clear c50
                try clear c51
                try clear hcz14_0
                try clear hcz14_1
                try clear hcz17_0
                try clear hcz17_1
                try clear hcz21_0
                try clear hcz21_1
                try clear hcz25_0
                try clear hcz25_1
                try clear hcz30_0
                try clear hcz30_1
                try clear hcz35_0
                try clear hcz35_1
                try clear hcz39_0
                try clear hcz39_1
                try clear hcz41_0
                try clear hcz41_1
                try clear hcz47_0
                try clear hcz47_1
                try clear hcz49_0
                try clear hcz49_1
                try clear hcz52_0
                try clear hcz52_1
                try clear hfz14_0
                try clear hfz14_1
                try clear hfz17_0
                try clear hfz17_1
                try clear hfz21_0
                try clear hfz21_1
                try clear hfz25_0
                try clear hfz25_1
                try clear hfz30_0
                try clear hfz30_1
                try clear hfz35_0
                try clear hfz35_1
                try clear hfz39_0
                try clear hfz39_1
                try clear hfz41_0
                try clear hfz41_1
                try clear hfz47_0
                try clear hfz47_1
                try clear hfz49_0
                try clear hfz49_1
                try clear hfz52_0
                try clear hfz52_1
                try clear p2
                obtain ⟨kq, x34_41, rfl, HA, HJ41, BK583, BK584, BK585, HB⟩ := hcut
                cases kq with
                | zero => exact absurd HA.out (by simp [impl_AppRead.j2])
                | succ kj41 =>
                  have H := HA.out
                  clear HA
                  simp only [impl_AppRead.j2] at H
                  by_cases c53 : x34_41 = true
                  · subst c53
                    have H1 : (some (a0_0, a0_1, a0_1, true, 0)) = some (r1, r2, r3, r4, r5) := by rw [if_pos rfl] at H; exact H
                    clear H
                    have H := H1
                    clear H1
                    simp only [Option.some.injEq, Prod.mk.injEq] at H
                    obtain ⟨rfl, rfl, rfl, rfl, rfl⟩ := H
                    try go_wp2
                    have n0_ := Aside0.mk (blk_drew BK583.out)
                    have n1_ := Aside0.mk (blk_drew BK584.out)
                    have n2_ := Aside0.mk (blk_drew BK585.out)
                    have n3_ := Aside0.mk (below_drew1 HB.out)
                    clear BK583
                    clear BK584
                    clear BK585
                    clear HB
                    have BK583 := n0_
                    have BK584 := n1_
                    have BK585 := n2_
                    have HB := n3_
                    clear n0_ n1_ n2_ n3_
                    refine start_ (n := 7) (S := fun w' => w'.cell? ⟨gb583, 0, none⟩ = some (.bool a0_0) ∧ w'.cell? ⟨gb583, 1, none⟩ = some (.int .i64 a0_1)) (ds := []) #[false, false, false, false, false, false, false] (by kernel_rfl) rfl rfl ⟨(blk_cell BK583.out 0).trans rfl, (blk_cell BK583.out 1).trans rfl⟩ (fun hHeld => ?_)
                    generalize wc.drew = w54 at BK583 BK584 BK585 HB hHeld ⊢
                    refine pure_ (i := 1) (N := some 49) (v := ?_) (a' := ?_) #[false, true, false, false, false, false, false] rfl rfl (by kernel_rfl) (fun _ _ _ h => h) (Or.inl ⟨by rfl, ?_⟩) ?_ ?_
                    rotate_left
                    · intro w'
                      go_simp
                      with_reducible rfl
                    rotate_left
                    · simp only [Act.put, List.setIfInBounds_toArray, List.set_cons_zero, List.set_cons_succ, i64_w, i32_w]
                      rfl
                    refine take_ (i := 0) (N := some 48) (v := ?_) (a' := ?_) #[true, true, false, false, false, false, false] rfl rfl (by kernel_rfl) (fun _ _ _ h => h) (Or.inl ⟨by rfl, ?_⟩) hHeld ?_ ?_
                    rotate_left
                    · rintro w' ⟨s0, s1⟩
                      go_simp
                      with_reducible rfl
                    rotate_left
                    · simp only [Act.put, List.setIfInBounds_toArray, List.set_cons_zero, List.set_cons_succ, i64_w, i32_w]
                      rfl
                    refine take_ (i := 2) (N := some 50) (v := ?_) (a' := ?_) #[true, true, true, false, false, false, false] rfl rfl (by kernel_rfl) (fun _ _ _ h => h) (Or.inl ⟨by rfl, ?_⟩) hHeld ?_ ?_
                    rotate_left
                    · rintro w' ⟨s0, s1⟩
                      go_simp
                      with_reducible rfl
                    rotate_left
                    · simp only [Act.put, List.setIfInBounds_toArray, List.set_cons_zero, List.set_cons_succ, i64_w, i32_w]
                      rfl
                    refine one_ (i := 3) (N := none) #[true, true, true, true, false, false, false] rfl rfl (by kernel_rfl) (by decide) (fun K hK => ?_)
                    have hs55 : w54.cell? ⟨gb585, 0, none⟩ = some (.bool false) := (blk_cell BK585.out 0).trans rfl
                    have hfs55 := blk_frozen BK585.out 0
                    have hns55_0 := NB583_585.out
                    have hns55_1 := NB584_585.out
                    have hms55_0 := NB585_583.out
                    have hms55_1 := NB585_584.out
                    have hs56 : w54.cell? ⟨gb585, 1, none⟩ = some (.int .i64 0) := (blk_cell BK585.out 1).trans rfl
                    have hfs56 := blk_frozen BK585.out 1
                    have hns56_0 := NB583_585.out
                    have hns56_1 := NB584_585.out
                    have hms56_0 := NB585_583.out
                    have hms56_1 := NB585_584.out
                    refine skip_ (w1 := ?_) (by rfl) rfl ?_ ?_
                    rotate_left
                    · go_simp
                      rfl
                    refine hK.out _ _ ⟨((cell_far (p := ⟨gb585, _, none⟩) NB583_585.out _).trans (((cell_far (p := ⟨gb585, _, none⟩) NB583_585.out _).trans (hHeld.1)))), ((cell_far (p := ⟨gb585, _, none⟩) NB583_585.out _).trans (((cell_far (p := ⟨gb585, _, none⟩) NB583_585.out _).trans (hHeld.2))))⟩ (fun hHeld => ?_)
                    clear hK K
                    refine pure_ (i := 4) (N := some 7) (v := ?_) (a' := ?_) #[true, true, true, true, true, false, false] rfl rfl (by kernel_rfl) (fun _ _ _ h => h) (Or.inl ⟨by rfl, ?_⟩) ?_ ?_
                    rotate_left
                    · intro w'
                      go_simp
                      with_reducible rfl
                    rotate_left
                    · simp only [Act.put, List.setIfInBounds_toArray, List.set_cons_zero, List.set_cons_succ, i64_w, i32_w]
                      rfl
                    refine pure_ (i := 5) (N := some 8) (v := ?_) (a' := ?_) #[true, true, true, true, true, true, false] rfl rfl (by kernel_rfl) (fun _ _ _ h => h) (Or.inl ⟨by rfl, ?_⟩) ?_ ?_
                    rotate_left
                    · intro w'
                      go_simp
                      with_reducible rfl
                    rotate_left
                    · simp only [Act.put, List.setIfInBounds_toArray, List.set_cons_zero, List.set_cons_succ, i64_w, i32_w]
                      rfl
                    refine pure_ (i := 6) (N := some 9) (v := ?_) (a' := ?_) #[true, true, true, true, true, true, true] rfl rfl (by kernel_rfl) (fun _ _ _ h => h) (Or.inl ⟨by rfl, ?_⟩) ?_ ?_
                    rotate_left
                    · intro w'
                      go_simp
                      with_reducible rfl
                    rotate_left
                    · simp only [Act.put, List.setIfInBounds_toArray, List.set_cons_zero, List.set_cons_succ, i64_w, i32_w]
                      rfl
                    refine done_ (by kernel_rfl) ?_
                    try go_wp2
                    refine bodyPost_ret (results_list (rs := [.cell 6 66, .tmp 7, .tmp 8, .tmp 9]) rfl (by simp) (.cell gb585 66 #[.bool a0_0, .int .i64 a0_1] (0, 0) _ rfl (by (with_reducible repeat (first | refine blk_drewN ?_ _ | refine blk_drew ?_ | refine blk_alloc ?_ _)); refine blk_put (cs := #[.bool a0_0, .int .i64 0]) ?_ 1 _ rfl; (with_reducible repeat (first | refine blk_drewN ?_ _ | refine blk_drew ?_ | refine blk_alloc ?_ _)); refine blk_put (cs := #[.bool false, .int .i64 0]) ?_ 0 _ rfl; (with_reducible repeat (first | refine blk_drewN ?_ _ | refine blk_drew ?_ | refine blk_alloc ?_ _)); exact BK585.out) Try.underlying66 rfl (by kernel_rfl) (.tmp (.tmp (.tmp .nil))))) rfl ?_
                    exact ⟨er_, hb3_ HB.out GE583.out GE584.out GE585.out⟩
                  · replace c53 := Bool.eq_false_iff.mpr c53
                    subst c53
                    have H1 : ((impl_Middle.f a2_0 a2_1).bind fun bt588 => (if a0_0 = true then (some (true, mx bt588.1 a0_1, mx bt588.1 a0_1, false, 0)) else (some (true, bt588.1, bt588.1, false, 0)))) = some (r1, r2, r3, r4, r5) := by rw [if_neg (show ¬ (false = true) by decide)] at H; exact H
                    clear H
                    have H := H1
                    clear H1
                    replace H := Option.bind_eq_some_iff.mp H
                    obtain ⟨⟨t588, t589⟩, A570, H⟩ := H
                    replace H : (if a0_0 = true then (some (true, mx t588 a0_1, mx t588 a0_1, false, 0)) else (some (true, t588, t588, false, 0))) = some (r1, r2, r3, r4, r5) := H
                    have A57 := Aside0.mk A570
                    clear A570
                    by_cases c58 : a0_0 = true
                    · subst c58
                      have H1 : (some (true, mx t588 a0_1, mx t588 a0_1, false, 0)) = some (r1, r2, r3, r4, r5) := by rw [if_pos rfl] at H; exact H
                      clear H
                      have H := H1
                      clear H1
                      obtain ⟨ji59, hji59⟩ : ∃ j_ : Int, (mx t588 a0_1) = j_ := ⟨_, rfl⟩
                      replace H : (some (true, ji59, ji59, false, 0)) = some (r1, r2, r3, r4, r5) := by first | (rw [hji59] at H; exact H) | (simp only [hji59] at H ⊢; exact H)
                      (try rw [hji59] at A57)
                      have hji59_ : (if t588 < a0_1 then a0_1 else t588) = ji59 := hji59
                      simp only [Option.some.injEq, Prod.mk.injEq] at H
                      obtain ⟨rfl, rfl, rfl, rfl, rfl⟩ := H
                      have hnb60 := NB584_583.out
                      have hnc60 := NB583_584.out
                      have hnb61 := NB584_585.out
                      have hnc61 := NB585_584.out
                      have hcz62_0 := bc_ BK584.out 0 (.int .i64 a2_0) rfl
                      have hcz62_1 := bc_ BK584.out 1 (.int .i64 a2_1) rfl
                      have hfz62_0 := blk_frozen BK584.out 0
                      have hfz62_1 := blk_frozen BK584.out 1
                      go_wp2_with (first | ((with_reducible refine gate_callee (f := 96) rfl ?_); refine goesL_ (some 53) rfl rfl Try.func96 (by kernel_rfl) rfl #[.agg #[.int .i64 a2_0, .int .i64 a2_1]] rfl arr_ ?_; (with_reducible refine (impl_Middle.calls a2_0 a2_1 t588 t589 _ A57.out).mono ?_); rintro e w63 ⟨rfl, hb⟩; refine ⟨_, rfl, ?_⟩; have n0_ := Aside0.mk (bb_ BK583.out hb); have n1_ := Aside0.mk (bb_ BK584.out hb); have n2_ := Aside0.mk (bb_ BK585.out hb); have n3_ := Aside0.mk (below_step (hb3_ HB.out GE583.out GE584.out GE585.out) hb); clear BK583; clear BK584; clear BK585; clear HB; have BK583 := n0_; have BK584 := n1_; have BK585 := n2_; have HB := n3_; clear n0_ n1_ n2_ n3_; (try clear hb); (try clear hb2); (try clear hk); (try clear hi); have hnb64 := NB583_585.out; have hnc64 := NB585_583.out; have hcz65_0 := bc_ BK583.out 0 (.bool true) rfl; have hcz65_1 := bc_ BK583.out 1 (.int .i64 a0_1) rfl; have hfz65_0 := blk_frozen BK583.out 0; have hfz65_1 := blk_frozen BK583.out 1; have hcz66_0 := bc_ BK585.out 0 (.bool false) rfl; have hcz66_1 := bc_ BK585.out 1 (.int .i64 0) rfl; have hfz66_0 := blk_frozen BK585.out 0; have hfz66_1 := blk_frozen BK585.out 1))
                      refine bodyPost_ret (results_list (rs := [.cell 6 66, .tmp 7, .tmp 8, .tmp 9]) rfl (by simp) (.cell gb585 66 #[.bool true, .int .i64 ji59] (0, 0) _ rfl (by (with_reducible repeat (first | refine blk_drewN ?_ _ | refine blk_drew ?_ | refine blk_alloc ?_ _)); refine blk_put (cs := #[.bool true, .int .i64 0]) ?_ 1 _ rfl; (with_reducible repeat (first | refine blk_drewN ?_ _ | refine blk_drew ?_ | refine blk_alloc ?_ _)); refine blk_put (cs := #[.bool false, .int .i64 0]) ?_ 0 _ rfl; (with_reducible repeat (first | refine blk_drewN ?_ _ | refine blk_drew ?_ | refine blk_alloc ?_ _)); exact BK585.out) Try.underlying66 rfl (by kernel_rfl) (.tmp (.tmp (.tmp .nil))))) rfl ?_
                      exact ⟨by first | rfl | (simp [errW_none, errW_some] <;> rfl) | (simp only [← hji59]; first | rfl | (simp [errW_none, errW_some] <;> rfl)) | (simp [*, errW_none, errW_some] <;> rfl), hb3_ HB.out GE583.out GE584.out GE585.out⟩
                    · replace c58 := Bool.eq_false_iff.mpr c58
                      subst c58
                      have H1 : (some (true, t588, t588, false, 0)) = some (r1, r2, r3, r4, r5) := by rw [if_neg (show ¬ (false = true) by decide)] at H; exact H
                      clear H
                      have H := H1
                      clear H1
                      simp only [Option.some.injEq, Prod.mk.injEq] at H
                      obtain ⟨rfl, rfl, rfl, rfl, rfl⟩ := H
                      have hnb67 := NB584_583.out
                      have hnc67 := NB583_584.out
                      have hnb68 := NB584_585.out
                      have hnc68 := NB585_584.out
                      have hcz69_0 := bc_ BK584.out 0 (.int .i64 a2_0) rfl
                      have hcz69_1 := bc_ BK584.out 1 (.int .i64 a2_1) rfl
                      have hfz69_0 := blk_frozen BK584.out 0
                      have hfz69_1 := blk_frozen BK584.out 1
                      go_wp2_with (first | ((with_reducible refine gate_callee (f := 96) rfl ?_); refine goesL_ (some 53) rfl rfl Try.func96 (by kernel_rfl) rfl #[.agg #[.int .i64 a2_0, .int .i64 a2_1]] rfl arr_ ?_; (with_reducible refine (impl_Middle.calls a2_0 a2_1 t588 t589 _ A57.out).mono ?_); rintro e w70 ⟨rfl, hb⟩; refine ⟨_, rfl, ?_⟩; have n0_ := Aside0.mk (bb_ BK583.out hb); have n1_ := Aside0.mk (bb_ BK584.out hb); have n2_ := Aside0.mk (bb_ BK585.out hb); have n3_ := Aside0.mk (below_step (hb3_ HB.out GE583.out GE584.out GE585.out) hb); clear BK583; clear BK584; clear BK585; clear HB; have BK583 := n0_; have BK584 := n1_; have BK585 := n2_; have HB := n3_; clear n0_ n1_ n2_ n3_; (try clear hb); (try clear hb2); (try clear hk); (try clear hi); have hnb71 := NB583_585.out; have hnc71 := NB585_583.out; have hcz72_0 := bc_ BK583.out 0 (.bool false) rfl; have hcz72_1 := bc_ BK583.out 1 (.int .i64 a0_1) rfl; have hfz72_0 := blk_frozen BK583.out 0; have hfz72_1 := blk_frozen BK583.out 1; have hcz73_0 := bc_ BK585.out 0 (.bool false) rfl; have hcz73_1 := bc_ BK585.out 1 (.int .i64 0) rfl; have hfz73_0 := blk_frozen BK585.out 0; have hfz73_1 := blk_frozen BK585.out 1))
                      refine bodyPost_ret (results_list (rs := [.cell 6 66, .tmp 7, .tmp 8, .tmp 9]) rfl (by simp) (.cell gb585 66 #[.bool true, .int .i64 t588] (0, 0) _ rfl (by (with_reducible repeat (first | refine blk_drewN ?_ _ | refine blk_drew ?_ | refine blk_alloc ?_ _)); refine blk_put (cs := #[.bool true, .int .i64 0]) ?_ 1 _ rfl; (with_reducible repeat (first | refine blk_drewN ?_ _ | refine blk_drew ?_ | refine blk_alloc ?_ _)); refine blk_put (cs := #[.bool false, .int .i64 0]) ?_ 0 _ rfl; (with_reducible repeat (first | refine blk_drewN ?_ _ | refine blk_drew ?_ | refine blk_alloc ?_ _)); exact BK585.out) Try.underlying66 rfl (by kernel_rfl) (.tmp (.tmp (.tmp .nil))))) rfl ?_
                      exact ⟨er_, hb3_ HB.out GE583.out GE584.out GE585.out⟩
end Go.Proofs.Ytcgdnfaclbnflaa.P

namespace Go.Proofs.Ytcgdnfaclbnflaa.P
open Go.RowKit Go.Proofs.YtcgdnfaclbnflaaW.PrintWords Go.Proofs.YtcgdnfaclbnflaaW.PrintLast Go.Proofs.YtcgdnfaclbnflaaW.PrintMore
attribute [local go_sem] max2_int min2_int max_two min_two max_three min_three max_four min_four
set_option linter.unusedVariables false
set_option linter.unusedSimpArgs false
def spec_l1In.f (a0 : Int) (a1 : Int) (a2 : Int) : Option (Bool) := if a0 ≥ a1 then (some (decide (a0 ≤ a2))) else (some false)
set_option maxHeartbeats 8000000 in
set_option maxRecDepth 100000 in
theorem spec_l1In.calls (a0 : Int) (a1 : Int) (a2 : Int) (r : Bool) (w : World) (h : spec_l1In.f a0 a1 a2 = some r) :
    Calls Try.prog 65 #[.int .i64 a0, .int .i64 a1, .int .i64 a2] w fun e w' => e = .returned (.bool r) ∧ Drawn0 w w' := by
  have H : (if a0 ≥ a1 then (some (decide (a0 ≤ a2))) else (some false)) = some r := h
  clear h
  by_cases c4 : a0 ≥ a1
  · rw [if_pos c4] at H
    have c4b0 : decide (a1 ≤ a0) = true := decide_eq_true c4
    clear c4
    obtain rfl := Option.some.inj H
    go_enter Try.func65, Try.ntmps65
    go_wp2
    go_ret
    exact ⟨by first | rfl | (simp; done) | (simp [*]; done), by repeat (first | exact Drawn0.refl _ | apply Drawn0.step)⟩
  · rw [if_neg c4] at H
    have c4b0 : decide (a1 ≤ a0) = false := decide_eq_false c4
    clear c4
    obtain rfl := Option.some.inj H
    go_enter Try.func65, Try.ntmps65
    go_wp2
    go_ret
    exact ⟨by first | rfl | (simp; done) | (simp [*]; done), by repeat (first | exact Drawn0.refl _ | apply Drawn0.step)⟩
def spec_IvalOk.f (a0_0 : Int) (a0_1 : Int) : Option (Bool) := if a0_0 ≤ a0_1 then ((spec_l1In.f a0_0 (-1000000000000) 1000000000000).bind fun t527 => (if t527 = true then ((spec_l1In.f a0_1 (-1000000000000) 1000000000000).bind fun t528 => (some t528)) else (some false))) else (some false)
set_option maxHeartbeats 8000000 in
set_option maxRecDepth 100000 in
theorem spec_IvalOk.calls (a0_0 : Int) (a0_1 : Int) (r : Bool) (w : World) (h : spec_IvalOk.f a0_0 a0_1 = some r) :
    Calls Try.prog 49 #[.agg #[.int .i64 a0_0, .int .i64 a0_1]] w fun e w' => e = .returned (.bool r) ∧ Below w.heap.size w w' := by
  have hu81 := Try.underlying81
  have HB := Aside0.mk (Below.refl w.heap.size w)
  have H : (if a0_0 ≤ a0_1 then ((spec_l1In.f a0_0 (-1000000000000) 1000000000000).bind fun t527 => (if t527 = true then ((spec_l1In.f a0_1 (-1000000000000) 1000000000000).bind fun t528 => (some t528)) else (some false))) else (some false)) = some r := h
  clear h
  by_cases c2 : a0_0 ≤ a0_1
  · rw [if_pos c2] at H
    have c2b0 : decide (a0_0 ≤ a0_1) = true := decide_eq_true c2
    clear c2
    replace H := Option.bind_eq_some_iff.mp H
    obtain ⟨t527, A30, H⟩ := H
    replace H : (if t527 = true then ((spec_l1In.f a0_1 (-1000000000000) 1000000000000).bind fun t528 => (some t528)) else (some false)) = some r := H
    have A3 := Aside0.mk A30
    clear A30
    by_cases c4 : t527 = true
    · subst c4
      have H1 : ((spec_l1In.f a0_1 (-1000000000000) 1000000000000).bind fun t528 => (some t528)) = some r := by rw [if_pos rfl] at H; exact H
      clear H
      have H := H1
      clear H1
      replace H := Option.bind_eq_some_iff.mp H
      obtain ⟨t528, A50, H⟩ := H
      replace H : (some t528) = some r := H
      have A5 := Aside0.mk A50
      clear A50
      obtain rfl := Option.some.inj H
      go_enter Try.func49, Try.ntmps49
      go_wp2_with (first | ((with_reducible refine gate_dst (N := 1) rfl ?_); refine box_event ?hg (N := 1) ?hd (cs := #[.int .i64 a0_0, .int .i64 a0_1]) (t := 81) ?hr ?_; (case hd => rfl); (case hg => rfl); (case hr => first | (go_simp; done) | (go_simp; rfl)); intro gb526 hg w6 hbox hb; have n0_ := Aside0.mk (below_step (hb_ HB.out) hb); have n1_ := Aside0.mk (hbox); have n2_ := Aside0.mk ((by rw [hg]; exact (below_size (hb_ HB.out)) : w.heap.size ≤ gb526)); have n3_ := Aside0.mk ((by rw [hg]; exact (below_size (hb_ HB.out)) : w.heap.size ≤ gb526)); clear HB; have HB := n0_; have BK526 := n1_; have GW526 := n2_; have GE526 := n3_; clear n0_ n1_ n2_ n3_; clear hb hbox hg; have hcz7_0 := bc_ BK526.out 0 (.int .i64 a0_0) rfl; have hcz7_1 := bc_ BK526.out 1 (.int .i64 a0_1) rfl; have hfz7_0 := blk_frozen BK526.out 0; have hfz7_1 := blk_frozen BK526.out 1) | (go_at_call 65; (with_reducible refine (spec_l1In.calls a0_0 (-1000000000000) 1000000000000 true _ A3.out).mono ?_); rintro e w' ⟨rfl, ⟨nd, rfl⟩⟩) | (go_at_call 65; (with_reducible refine (spec_l1In.calls a0_1 (-1000000000000) 1000000000000 t528 _ A5.out).mono ?_); rintro e w' ⟨rfl, ⟨nd, rfl⟩⟩))
      go_ret
      exact ⟨er_, hb1_ HB.out GE526.out⟩
    · replace c4 := Bool.eq_false_iff.mpr c4
      subst c4
      have H1 : (some false) = some r := by rw [if_neg (show ¬ (false = true) by decide)] at H; exact H
      clear H
      have H := H1
      clear H1
      obtain rfl := Option.some.inj H
      go_enter Try.func49, Try.ntmps49
      go_wp2_with (first | ((with_reducible refine gate_dst (N := 1) rfl ?_); refine box_event ?hg (N := 1) ?hd (cs := #[.int .i64 a0_0, .int .i64 a0_1]) (t := 81) ?hr ?_; (case hd => rfl); (case hg => rfl); (case hr => first | (go_simp; done) | (go_simp; rfl)); intro gb526 hg w8 hbox hb; have n0_ := Aside0.mk (below_step (hb_ HB.out) hb); have n1_ := Aside0.mk (hbox); have n2_ := Aside0.mk ((by rw [hg]; exact (below_size (hb_ HB.out)) : w.heap.size ≤ gb526)); have n3_ := Aside0.mk ((by rw [hg]; exact (below_size (hb_ HB.out)) : w.heap.size ≤ gb526)); clear HB; have HB := n0_; have BK526 := n1_; have GW526 := n2_; have GE526 := n3_; clear n0_ n1_ n2_ n3_; clear hb hbox hg; have hcz9_0 := bc_ BK526.out 0 (.int .i64 a0_0) rfl; have hcz9_1 := bc_ BK526.out 1 (.int .i64 a0_1) rfl; have hfz9_0 := blk_frozen BK526.out 0; have hfz9_1 := blk_frozen BK526.out 1) | (go_at_call 65; (with_reducible refine (spec_l1In.calls a0_0 (-1000000000000) 1000000000000 false _ A3.out).mono ?_); rintro e w' ⟨rfl, ⟨nd, rfl⟩⟩))
      go_ret
      exact ⟨er_, hb1_ HB.out GE526.out⟩
  · rw [if_neg c2] at H
    have c2b0 : decide (a0_0 ≤ a0_1) = false := decide_eq_false c2
    clear c2
    obtain rfl := Option.some.inj H
    go_enter Try.func49, Try.ntmps49
    go_wp2_with (first | ((with_reducible refine gate_dst (N := 1) rfl ?_); refine box_event ?hg (N := 1) ?hd (cs := #[.int .i64 a0_0, .int .i64 a0_1]) (t := 81) ?hr ?_; (case hd => rfl); (case hg => rfl); (case hr => first | (go_simp; done) | (go_simp; rfl)); intro gb526 hg w10 hbox hb; have n0_ := Aside0.mk (below_step (hb_ HB.out) hb); have n1_ := Aside0.mk (hbox); have n2_ := Aside0.mk ((by rw [hg]; exact (below_size (hb_ HB.out)) : w.heap.size ≤ gb526)); have n3_ := Aside0.mk ((by rw [hg]; exact (below_size (hb_ HB.out)) : w.heap.size ≤ gb526)); clear HB; have HB := n0_; have BK526 := n1_; have GW526 := n2_; have GE526 := n3_; clear n0_ n1_ n2_ n3_; clear hb hbox hg; have hcz11_0 := bc_ BK526.out 0 (.int .i64 a0_0) rfl; have hcz11_1 := bc_ BK526.out 1 (.int .i64 a0_1) rfl; have hfz11_0 := blk_frozen BK526.out 0; have hfz11_1 := blk_frozen BK526.out 1))
    go_ret
    exact ⟨er_, hb1_ HB.out GE526.out⟩
def spec_AppOk.f (a0_0 : Bool) (a0_1 : Int) : Option (Bool) := (spec_l1In.f a0_1 (-1000000000000) 1000000000000).bind fun t530 => (if t530 = true then (if a0_0 = true then (some true) else (some (a0_1 == 0))) else (some false))
set_option maxHeartbeats 8000000 in
set_option maxRecDepth 100000 in
theorem spec_AppOk.calls (a0_0 : Bool) (a0_1 : Int) (r : Bool) (w : World) (h : spec_AppOk.f a0_0 a0_1 = some r) :
    Calls Try.prog 97 #[.agg #[.bool a0_0, .int .i64 a0_1]] w fun e w' => e = .returned (.bool r) ∧ Below w.heap.size w w' := by
  have hu66 := Try.underlying66
  have HB := Aside0.mk (Below.refl w.heap.size w)
  have H : ((spec_l1In.f a0_1 (-1000000000000) 1000000000000).bind fun t530 => (if t530 = true then (if a0_0 = true then (some true) else (some (a0_1 == 0))) else (some false))) = some r := h
  clear h
  replace H := Option.bind_eq_some_iff.mp H
  obtain ⟨t530, A20, H⟩ := H
  replace H : (if t530 = true then (if a0_0 = true then (some true) else (some (a0_1 == 0))) else (some false)) = some r := H
  have A2 := Aside0.mk A20
  clear A20
  by_cases c3 : t530 = true
  · subst c3
    have H1 : (if a0_0 = true then (some true) else (some (a0_1 == 0))) = some r := by rw [if_pos rfl] at H; exact H
    clear H
    have H := H1
    clear H1
    by_cases c4 : a0_0 = true
    · subst c4
      have H1 : (some true) = some r := by rw [if_pos rfl] at H; exact H
      clear H
      have H := H1
      clear H1
      obtain rfl := Option.some.inj H
      go_enter Try.func97, Try.ntmps97
      go_wp2_with (first | ((with_reducible refine gate_dst (N := 1) rfl ?_); refine box_event ?hg (N := 1) ?hd (cs := #[.bool true, .int .i64 a0_1]) (t := 66) ?hr ?_; (case hd => rfl); (case hg => rfl); (case hr => first | (go_simp; done) | (go_simp; rfl)); intro gb529 hg w5 hbox hb; have n0_ := Aside0.mk (below_step (hb_ HB.out) hb); have n1_ := Aside0.mk (hbox); have n2_ := Aside0.mk ((by rw [hg]; exact (below_size (hb_ HB.out)) : w.heap.size ≤ gb529)); have n3_ := Aside0.mk ((by rw [hg]; exact (below_size (hb_ HB.out)) : w.heap.size ≤ gb529)); clear HB; have HB := n0_; have BK529 := n1_; have GW529 := n2_; have GE529 := n3_; clear n0_ n1_ n2_ n3_; clear hb hbox hg; have hcz6_0 := bc_ BK529.out 0 (.bool true) rfl; have hcz6_1 := bc_ BK529.out 1 (.int .i64 a0_1) rfl; have hfz6_0 := blk_frozen BK529.out 0; have hfz6_1 := blk_frozen BK529.out 1) | ((with_reducible refine gate_callee (f := 65) rfl ?_); refine goesL_ (some 5) rfl rfl Try.func65 (by kernel_rfl) rfl #[.int .i64 a0_1, .int .i64 (-1000000000000), .int .i64 1000000000000] rfl arr_ ?_; (with_reducible refine (spec_l1In.calls a0_1 (-1000000000000) 1000000000000 true _ A2.out).mono ?_); rintro e w' ⟨rfl, ⟨nd, rfl⟩⟩; refine ⟨_, rfl, ?_⟩))
      go_ret
      exact ⟨er_, hb1_ HB.out GE529.out⟩
    · replace c4 := Bool.eq_false_iff.mpr c4
      subst c4
      have H1 : (some (a0_1 == 0)) = some r := by rw [if_neg (show ¬ (false = true) by decide)] at H; exact H
      clear H
      have H := H1
      clear H1
      obtain rfl := Option.some.inj H
      go_enter Try.func97, Try.ntmps97
      go_wp2_with (first | ((with_reducible refine gate_dst (N := 1) rfl ?_); refine box_event ?hg (N := 1) ?hd (cs := #[.bool false, .int .i64 a0_1]) (t := 66) ?hr ?_; (case hd => rfl); (case hg => rfl); (case hr => first | (go_simp; done) | (go_simp; rfl)); intro gb529 hg w7 hbox hb; have n0_ := Aside0.mk (below_step (hb_ HB.out) hb); have n1_ := Aside0.mk (hbox); have n2_ := Aside0.mk ((by rw [hg]; exact (below_size (hb_ HB.out)) : w.heap.size ≤ gb529)); have n3_ := Aside0.mk ((by rw [hg]; exact (below_size (hb_ HB.out)) : w.heap.size ≤ gb529)); clear HB; have HB := n0_; have BK529 := n1_; have GW529 := n2_; have GE529 := n3_; clear n0_ n1_ n2_ n3_; clear hb hbox hg; have hcz8_0 := bc_ BK529.out 0 (.bool false) rfl; have hcz8_1 := bc_ BK529.out 1 (.int .i64 a0_1) rfl; have hfz8_0 := blk_frozen BK529.out 0; have hfz8_1 := blk_frozen BK529.out 1) | ((with_reducible refine gate_callee (f := 65) rfl ?_); refine goesL_ (some 5) rfl rfl Try.func65 (by kernel_rfl) rfl #[.int .i64 a0_1, .int .i64 (-1000000000000), .int .i64 1000000000000] rfl arr_ ?_; (with_reducible refine (spec_l1In.calls a0_1 (-1000000000000) 1000000000000 true _ A2.out).mono ?_); rintro e w' ⟨rfl, ⟨nd, rfl⟩⟩; refine ⟨_, rfl, ?_⟩))
      go_ret
      exact ⟨er_, hb1_ HB.out GE529.out⟩
  · replace c3 := Bool.eq_false_iff.mpr c3
    subst c3
    have H1 : (some false) = some r := by rw [if_neg (show ¬ (false = true) by decide)] at H; exact H
    clear H
    have H := H1
    clear H1
    obtain rfl := Option.some.inj H
    go_enter Try.func97, Try.ntmps97
    go_wp2_with (first | ((with_reducible refine gate_dst (N := 1) rfl ?_); refine box_event ?hg (N := 1) ?hd (cs := #[.bool a0_0, .int .i64 a0_1]) (t := 66) ?hr ?_; (case hd => rfl); (case hg => rfl); (case hr => first | (go_simp; done) | (go_simp; rfl)); intro gb529 hg w9 hbox hb; have n0_ := Aside0.mk (below_step (hb_ HB.out) hb); have n1_ := Aside0.mk (hbox); have n2_ := Aside0.mk ((by rw [hg]; exact (below_size (hb_ HB.out)) : w.heap.size ≤ gb529)); have n3_ := Aside0.mk ((by rw [hg]; exact (below_size (hb_ HB.out)) : w.heap.size ≤ gb529)); clear HB; have HB := n0_; have BK529 := n1_; have GW529 := n2_; have GE529 := n3_; clear n0_ n1_ n2_ n3_; clear hb hbox hg; have hcz10_0 := bc_ BK529.out 0 (.bool a0_0) rfl; have hcz10_1 := bc_ BK529.out 1 (.int .i64 a0_1) rfl; have hfz10_0 := blk_frozen BK529.out 0; have hfz10_1 := blk_frozen BK529.out 1) | ((with_reducible refine gate_callee (f := 65) rfl ?_); refine goesL_ (some 5) rfl rfl Try.func65 (by kernel_rfl) rfl #[.int .i64 a0_1, .int .i64 (-1000000000000), .int .i64 1000000000000] rfl arr_ ?_; (with_reducible refine (spec_l1In.calls a0_1 (-1000000000000) 1000000000000 false _ A2.out).mono ?_); rintro e w' ⟨rfl, ⟨nd, rfl⟩⟩; refine ⟨_, rfl, ?_⟩))
    go_ret
    exact ⟨er_, hb1_ HB.out GE529.out⟩
def spec_l1Down.f (a0 : Int) (a1 : Int) : Option (Int) := if a1 = 0 then (none) else (if (Int.tmod a0 a1) < 0 then (some (wrap64 ((wrap64 (Int.tdiv a0 a1)) - 1))) else (some (wrap64 (Int.tdiv a0 a1))))
set_option maxHeartbeats 8000000 in
set_option maxRecDepth 100000 in
theorem spec_l1Down.calls (a0 : Int) (a1 : Int) (r : Int) (w : World) (h : spec_l1Down.f a0 a1 = some r) :
    Calls Try.prog 121 #[.int .i64 a0, .int .i64 a1] w fun e w' => e = .returned (.int .i64 r) ∧ Drawn0 w w' := by
  have H : (if a1 = 0 then (none) else (if (Int.tmod a0 a1) < 0 then (some (wrap64 ((wrap64 (Int.tdiv a0 a1)) - 1))) else (some (wrap64 (Int.tdiv a0 a1))))) = some r := h
  clear h
  by_cases c3 : a1 = 0
  · rw [if_pos c3] at H
    exact absurd H (by simp)
  · rw [if_neg c3] at H
    have c3b0 : (a1 == 0) = false := beq_eq_false_iff_ne.mpr c3
    have c3b1 : (a1 != 0) = true := bne_iff_ne.mpr c3
    by_cases c4 : (Int.tmod a0 a1) < 0
    · rw [if_pos c4] at H
      have c4b0 : decide ((Int.tmod a0 a1) < 0) = true := decide_eq_true c4
      clear c4
      obtain rfl := Option.some.inj H
      go_enter Try.func121, Try.ntmps121
      go_wp2
      go_ret
      exact ⟨by first | rfl | (simp; done) | (simp [*]; done), by repeat (first | exact Drawn0.refl _ | apply Drawn0.step)⟩
    · rw [if_neg c4] at H
      have c4b0 : decide ((Int.tmod a0 a1) < 0) = false := decide_eq_false c4
      clear c4
      obtain rfl := Option.some.inj H
      go_enter Try.func121, Try.ntmps121
      go_wp2
      go_ret
      exact ⟨by first | rfl | (simp; done) | (simp [*]; done), by repeat (first | exact Drawn0.refl _ | apply Drawn0.step)⟩
def spec_Middle.f (a0_0 : Int) (a0_1 : Int) : Option (Int × Bool) := (spec_IvalOk.f a0_0 a0_1).bind fun t532 => (if t532 = true then ((spec_l1Down.f (wrap64 (a0_0 + a0_1)) 2).bind fun t533 => (some (t533, true))) else (some (0, false)))
set_option maxHeartbeats 8000000 in
set_option maxRecDepth 100000 in
theorem spec_Middle.calls (a0_0 : Int) (a0_1 : Int) (r1 : Int) (r2 : Bool) (w : World) (h : spec_Middle.f a0_0 a0_1 = some (r1, r2)) :
    Calls Try.prog 98 #[.agg #[.int .i64 a0_0, .int .i64 a0_1]] w fun e w' => e = .returned (.tuple #[.int .i64 r1, .bool r2]) ∧ Below w.heap.size w w' := by
  have hu81 := Try.underlying81
  have HB := Aside0.mk (Below.refl w.heap.size w)
  have H : ((spec_IvalOk.f a0_0 a0_1).bind fun t532 => (if t532 = true then ((spec_l1Down.f (wrap64 (a0_0 + a0_1)) 2).bind fun t533 => (some (t533, true))) else (some (0, false)))) = some (r1, r2) := h
  clear h
  replace H := Option.bind_eq_some_iff.mp H
  obtain ⟨t532, A20, H⟩ := H
  replace H : (if t532 = true then ((spec_l1Down.f (wrap64 (a0_0 + a0_1)) 2).bind fun t533 => (some (t533, true))) else (some (0, false))) = some (r1, r2) := H
  have A2 := Aside0.mk A20
  clear A20
  by_cases c3 : t532 = true
  · subst c3
    have H1 : ((spec_l1Down.f (wrap64 (a0_0 + a0_1)) 2).bind fun t533 => (some (t533, true))) = some (r1, r2) := by rw [if_pos rfl] at H; exact H
    clear H
    have H := H1
    clear H1
    replace H := Option.bind_eq_some_iff.mp H
    obtain ⟨t533, A40, H⟩ := H
    replace H : (some (t533, true)) = some (r1, r2) := H
    have A4 := Aside0.mk A40
    clear A40
    simp only [Option.some.injEq, Prod.mk.injEq] at H
    obtain ⟨rfl, rfl⟩ := H
    go_enter Try.func98, Try.ntmps98
    go_wp2_with (first | ((with_reducible refine gate_dst (N := 1) rfl ?_); refine box_event ?hg (N := 1) ?hd (cs := #[.int .i64 a0_0, .int .i64 a0_1]) (t := 81) ?hr ?_; (case hd => rfl); (case hg => rfl); (case hr => first | (go_simp; done) | (go_simp; rfl)); intro gb531 hg w5 hbox hb; have n0_ := Aside0.mk (below_step (hb_ HB.out) hb); have n1_ := Aside0.mk (hbox); have n2_ := Aside0.mk ((by rw [hg]; exact (below_size (hb_ HB.out)) : w.heap.size ≤ gb531)); have n3_ := Aside0.mk ((by rw [hg]; exact (below_size (hb_ HB.out)) : w.heap.size ≤ gb531)); clear HB; have HB := n0_; have BK531 := n1_; have GW531 := n2_; have GE531 := n3_; clear n0_ n1_ n2_ n3_; clear hb hbox hg; have hcz6_0 := bc_ BK531.out 0 (.int .i64 a0_0) rfl; have hcz6_1 := bc_ BK531.out 1 (.int .i64 a0_1) rfl; have hfz6_0 := blk_frozen BK531.out 0; have hfz6_1 := blk_frozen BK531.out 1) | ((with_reducible refine gate_callee (f := 49) rfl ?_); refine goesL_ (some 5) rfl rfl Try.func49 (by kernel_rfl) rfl #[.agg #[.int .i64 a0_0, .int .i64 a0_1]] rfl arr_ ?_; (with_reducible refine (spec_IvalOk.calls a0_0 a0_1 true _ A2.out).mono ?_); rintro e w7 ⟨rfl, hb⟩; refine ⟨_, rfl, ?_⟩; have n0_ := Aside0.mk (bb_ BK531.out hb); have n1_ := Aside0.mk (below_step (hb1_ HB.out GE531.out) hb); clear BK531; clear HB; have BK531 := n0_; have HB := n1_; clear n0_ n1_; (try clear hb); (try clear hb2); (try clear hk); (try clear hi); have hcz8_0 := bc_ BK531.out 0 (.int .i64 a0_0) rfl; have hcz8_1 := bc_ BK531.out 1 (.int .i64 a0_1) rfl; have hfz8_0 := blk_frozen BK531.out 0; have hfz8_1 := blk_frozen BK531.out 1) | ((with_reducible refine gate_callee (f := 121) rfl ?_); refine goesL_ (some 12) rfl rfl Try.func121 (by kernel_rfl) rfl #[.int .i64 (wrap64 (a0_0 + a0_1)), .int .i64 2] rfl arr_ ?_; (with_reducible refine (spec_l1Down.calls (wrap64 (a0_0 + a0_1)) 2 t533 _ A4.out).mono ?_); rintro e w' ⟨rfl, ⟨nd, rfl⟩⟩; refine ⟨_, rfl, ?_⟩))
    go_ret2
    exact ⟨er_, hb1_ HB.out GE531.out⟩
  · replace c3 := Bool.eq_false_iff.mpr c3
    subst c3
    have H1 : (some (0, false)) = some (r1, r2) := by rw [if_neg (show ¬ (false = true) by decide)] at H; exact H
    clear H
    have H := H1
    clear H1
    simp only [Option.some.injEq, Prod.mk.injEq] at H
    obtain ⟨rfl, rfl⟩ := H
    go_enter Try.func98, Try.ntmps98
    go_wp2_with (first | ((with_reducible refine gate_dst (N := 1) rfl ?_); refine box_event ?hg (N := 1) ?hd (cs := #[.int .i64 a0_0, .int .i64 a0_1]) (t := 81) ?hr ?_; (case hd => rfl); (case hg => rfl); (case hr => first | (go_simp; done) | (go_simp; rfl)); intro gb531 hg w9 hbox hb; have n0_ := Aside0.mk (below_step (hb_ HB.out) hb); have n1_ := Aside0.mk (hbox); have n2_ := Aside0.mk ((by rw [hg]; exact (below_size (hb_ HB.out)) : w.heap.size ≤ gb531)); have n3_ := Aside0.mk ((by rw [hg]; exact (below_size (hb_ HB.out)) : w.heap.size ≤ gb531)); clear HB; have HB := n0_; have BK531 := n1_; have GW531 := n2_; have GE531 := n3_; clear n0_ n1_ n2_ n3_; clear hb hbox hg; have hcz10_0 := bc_ BK531.out 0 (.int .i64 a0_0) rfl; have hcz10_1 := bc_ BK531.out 1 (.int .i64 a0_1) rfl; have hfz10_0 := blk_frozen BK531.out 0; have hfz10_1 := blk_frozen BK531.out 1) | ((with_reducible refine gate_callee (f := 49) rfl ?_); refine goesL_ (some 5) rfl rfl Try.func49 (by kernel_rfl) rfl #[.agg #[.int .i64 a0_0, .int .i64 a0_1]] rfl arr_ ?_; (with_reducible refine (spec_IvalOk.calls a0_0 a0_1 false _ A2.out).mono ?_); rintro e w11 ⟨rfl, hb⟩; refine ⟨_, rfl, ?_⟩; have n0_ := Aside0.mk (bb_ BK531.out hb); have n1_ := Aside0.mk (below_step (hb1_ HB.out GE531.out) hb); clear BK531; clear HB; have BK531 := n0_; have HB := n1_; clear n0_ n1_; (try clear hb); (try clear hb2); (try clear hk); (try clear hi)))
    go_ret2
    exact ⟨er_, hb1_ HB.out GE531.out⟩
def spec_l1Max.f (a0 : Int) (a1 : Int) : Option (Int) := if a0 > a1 then (some a0) else (some a1)
set_option maxHeartbeats 8000000 in
set_option maxRecDepth 100000 in
theorem spec_l1Max.calls (a0 : Int) (a1 : Int) (r : Int) (w : World) (h : spec_l1Max.f a0 a1 = some r) :
    Calls Try.prog 99 #[.int .i64 a0, .int .i64 a1] w fun e w' => e = .returned (.int .i64 r) ∧ Drawn0 w w' := by
  have H : (if a0 > a1 then (some a0) else (some a1)) = some r := h
  clear h
  by_cases c3 : a0 > a1
  · rw [if_pos c3] at H
    have c3b0 : decide (a1 < a0) = true := decide_eq_true c3
    clear c3
    obtain rfl := Option.some.inj H
    go_enter Try.func99, Try.ntmps99
    go_wp2
    go_ret
    exact ⟨by first | rfl | (simp; done) | (simp [*]; done), by repeat (first | exact Drawn0.refl _ | apply Drawn0.step)⟩
  · rw [if_neg c3] at H
    have c3b0 : decide (a1 < a0) = false := decide_eq_false c3
    clear c3
    obtain rfl := Option.some.inj H
    go_enter Try.func99, Try.ntmps99
    go_wp2
    go_ret
    exact ⟨by first | rfl | (simp; done) | (simp [*]; done), by repeat (first | exact Drawn0.refl _ | apply Drawn0.step)⟩
end Go.Proofs.Ytcgdnfaclbnflaa.P
namespace Go.Proofs.Ytcgdnfaclbnflaa.P
open Go.RowKit Go.Proofs.YtcgdnfaclbnflaaW.PrintWords Go.Proofs.YtcgdnfaclbnflaaW.PrintLast Go.Proofs.YtcgdnfaclbnflaaW.PrintMore
attribute [local go_sem] max2_int min2_int max_two min_two max_three min_three max_four min_four
set_option linter.unusedVariables false
set_option linter.unusedSimpArgs false
mutual
def spec_AppRead.j0 : Nat → Bool → Bool → Bool → Int → Int → Int → Option (Bool × Int × Int × Bool × Int)
  | 0, _, _, _, _, _, _ => none
  | k + 1, x1, x22, x535000, x535001, x536000, x536001 => if x22 = true then (some (false, 0, 0, false, 1)) else (if x1 = true then (if x535000 = true then (spec_AppRead.j1 k (decide (x535001 > x536001)) x535000 x535001 x536000 x536001) else (spec_AppRead.j1 k false x535000 x535001 x536000 x536001)) else (if x535000 = true then (some (x535000, x535001, x535001, true, 0)) else (some (x535000, x535001, 0, false, 2))))
def spec_AppRead.j1 : Nat → Bool → Bool → Int → Int → Int → Option (Bool × Int × Int × Bool × Int)
  | 0, _, _, _, _, _ => none
  | k + 1, x41, x535000, x535001, x536000, x536001 => if x41 = true then (some (x535000, x535001, x535001, true, 0)) else ((spec_Middle.f x536000 x536001).bind fun bt539 => (if x535000 = true then ((spec_l1Max.f bt539.1 x535001).bind fun t541 => (some (true, t541, t541, false, 0))) else (some (true, bt539.1, bt539.1, false, 0))))
end
def spec_AppRead.f (k : Nat) (a0_0 : Bool) (a0_1 : Int) (a1 : Bool) (a2_0 : Int) (a2_1 : Int) : Option (Bool × Int × Int × Bool × Int) := (spec_AppOk.f a0_0 a0_1).bind fun t537 => (if t537 = true then (if a1 = true then ((spec_IvalOk.f a2_0 a2_1).bind fun t538 => (spec_AppRead.j0 k a1 (!t538) a0_0 a0_1 a2_0 a2_1)) else (spec_AppRead.j0 k a1 false a0_0 a0_1 a2_0 a2_1)) else (spec_AppRead.j0 k a1 true a0_0 a0_1 a2_0 a2_1))
set_option maxHeartbeats 8000000 in
set_option maxRecDepth 100000 in
theorem spec_AppRead.calls (k : Nat) (a0_0 : Bool) (a0_1 : Int) (a1 : Bool) (a2_0 : Int) (a2_1 : Int) (r1 : Bool) (r2 : Int) (r3 : Int) (r4 : Bool) (r5 : Int) (w : World) (h : spec_AppRead.f k a0_0 a0_1 a1 a2_0 a2_1 = some (r1, r2, r3, r4, r5)) :
    Calls Try.prog 54 #[.agg #[.bool a0_0, .int .i64 a0_1], .bool a1, .agg #[.int .i64 a2_0, .int .i64 a2_1]] w fun e w' => e = .returned (.tuple #[.agg #[.bool r1, .int .i64 r2], .int .i64 r3, .bool r4, .int .i64 r5]) ∧ Below w.heap.size w w' := by
  have hu66 := Try.underlying66
  have hu81 := Try.underlying81
  have HB := Aside0.mk (Below.refl w.heap.size w)
  have H : ((spec_AppOk.f a0_0 a0_1).bind fun t537 => (if t537 = true then (if a1 = true then ((spec_IvalOk.f a2_0 a2_1).bind fun t538 => (spec_AppRead.j0 k a1 (!t538) a0_0 a0_1 a2_0 a2_1)) else (spec_AppRead.j0 k a1 false a0_0 a0_1 a2_0 a2_1)) else (spec_AppRead.j0 k a1 true a0_0 a0_1 a2_0 a2_1))) = some (r1, r2, r3, r4, r5) := h
  clear h
  have HC4 := Aside0.mk H
  clear H
  go_enter Try.func54, Try.ntmps54
  go_upto_region 1 with (first | ((with_reducible refine gate_dst (N := 3) rfl ?_); refine box_event ?hg (N := 3) ?hd (cs := #[.bool a0_0, .int .i64 a0_1]) (t := 66) ?hr ?_; (case hd => rfl); (case hg => rfl); (case hr => first | (go_simp; done) | (go_simp; rfl)); intro gb534 hg w5 hbox hb; have n0_ := Aside0.mk (below_step (hb_ HB.out) hb); have n1_ := Aside0.mk (hbox); have n2_ := Aside0.mk ((by rw [hg]; exact (below_size (hb_ HB.out)) : w.heap.size ≤ gb534)); have n3_ := Aside0.mk ((by rw [hg]; exact (below_size (hb_ HB.out)) : w.heap.size ≤ gb534)); clear HB; have HB := n0_; have BK534 := n1_; have GW534 := n2_; have GE534 := n3_; clear n0_ n1_ n2_ n3_; clear hb hbox hg) | ((with_reducible refine gate_dst (N := 5) rfl ?_); refine box_event ?hg (N := 5) ?hd (cs := #[.int .i64 a2_0, .int .i64 a2_1]) (t := 81) ?hr ?_; (case hd => rfl); (case hg => rfl); (case hr => first | (go_simp; done) | (go_simp; rfl)); intro gb535 hg w6 hbox hb; have n0_ := Aside0.mk (bb_ BK534.out hb); have n1_ := Aside0.mk (below_step (hb1_ HB.out GE534.out) hb); have n2_ := Aside0.mk (hbox); have n3_ := Aside0.mk ((by rw [hg]; exact (below_size (hb1_ HB.out GE534.out)) : w.heap.size ≤ gb535)); have n4_ := Aside0.mk ((by rw [hg]; exact (below_size (hb1_ HB.out GE534.out)) : w.heap.size ≤ gb535)); have n5_ := Aside0.mk ((bl_ hg BK534.out : gb534 ≠ gb535)); have n6_ := Aside0.mk ((bg_ hg BK534.out : gb535 ≠ gb534)); clear BK534; clear HB; have BK534 := n0_; have HB := n1_; have BK535 := n2_; have GW535 := n3_; have GE535 := n4_; have NB534_535 := n5_; have NB535_534 := n6_; clear n0_ n1_ n2_ n3_ n4_ n5_ n6_; clear hb hbox hg) | ((with_reducible refine gate_dst (N := 6) rfl ?_); refine box_event ?hg (N := 6) ?hd (cs := #[.bool false, .int .i64 0]) (t := 66) ?hr ?_; (case hd => rfl); (case hg => rfl); (case hr => first | (go_simp; done) | (go_simp; rfl)); intro gb536 hg w7 hbox hb; have n0_ := Aside0.mk (bb_ BK534.out hb); have n1_ := Aside0.mk (bb_ BK535.out hb); have n2_ := Aside0.mk (below_step (hb2_ HB.out GE534.out GE535.out) hb); have n3_ := Aside0.mk (hbox); have n4_ := Aside0.mk ((by rw [hg]; exact (below_size (hb2_ HB.out GE534.out GE535.out)) : w.heap.size ≤ gb536)); have n5_ := Aside0.mk ((by rw [hg]; exact (below_size (hb2_ HB.out GE534.out GE535.out)) : w.heap.size ≤ gb536)); have n6_ := Aside0.mk ((bl_ hg BK534.out : gb534 ≠ gb536)); have n7_ := Aside0.mk ((bg_ hg BK534.out : gb536 ≠ gb534)); have n8_ := Aside0.mk ((bl_ hg BK535.out : gb535 ≠ gb536)); have n9_ := Aside0.mk ((bg_ hg BK535.out : gb536 ≠ gb535)); clear BK534; clear BK535; clear HB; have BK534 := n0_; have BK535 := n1_; have HB := n2_; have BK536 := n3_; have GW536 := n4_; have GE536 := n5_; have NB534_536 := n6_; have NB536_534 := n7_; have NB535_536 := n8_; have NB536_535 := n9_; clear n0_ n1_ n2_ n3_ n4_ n5_ n6_ n7_ n8_ n9_; clear hb hbox hg))
  (try simp only [Act.put, List.setIfInBounds_toArray, List.set_cons_zero, List.set_cons_succ])
  go_cut [22] (fun v22 wc => ∃ (kq : Nat) (x22_3 : Bool), v22 = .bool x22_3 ∧ Aside0 (spec_AppRead.j0 kq a1 x22_3 a0_0 a0_1 a2_0 a2_1 = some (r1, r2, r3, r4, r5)) ∧ Aside0 (kq ≤ k) ∧ Aside0 (wc.heap[gb534]? = some (.cells #[.bool a0_0, .int .i64 a0_1] 66 (0, 0))) ∧ Aside0 (wc.heap[gb535]? = some (.cells #[.int .i64 a2_0, .int .i64 a2_1] 81 (0, 0))) ∧ Aside0 (wc.heap[gb536]? = some (.cells #[.bool false, .int .i64 0] 66 (0, 0))) ∧ Aside0 (Below w.heap.size w wc))
  case first =>
    have H := HC4.out
    clear HC4
    replace H := Option.bind_eq_some_iff.mp H
    obtain ⟨t537, A80, H⟩ := H
    replace H : (if t537 = true then (if a1 = true then ((spec_IvalOk.f a2_0 a2_1).bind fun t538 => (spec_AppRead.j0 k a1 (!t538) a0_0 a0_1 a2_0 a2_1)) else (spec_AppRead.j0 k a1 false a0_0 a0_1 a2_0 a2_1)) else (spec_AppRead.j0 k a1 true a0_0 a0_1 a2_0 a2_1)) = some (r1, r2, r3, r4, r5) := H
    have A8 := Aside0.mk A80
    clear A80
    by_cases c9 : t537 = true
    · subst c9
      have H1 : (if a1 = true then ((spec_IvalOk.f a2_0 a2_1).bind fun t538 => (spec_AppRead.j0 k a1 (!t538) a0_0 a0_1 a2_0 a2_1)) else (spec_AppRead.j0 k a1 false a0_0 a0_1 a2_0 a2_1)) = some (r1, r2, r3, r4, r5) := by rw [if_pos rfl] at H; exact H
      clear H
      have H := H1
      clear H1
      by_cases c10 : a1 = true
      · subst c10
        have H1 : ((spec_IvalOk.f a2_0 a2_1).bind fun t538 => (spec_AppRead.j0 k true (!t538) a0_0 a0_1 a2_0 a2_1)) = some (r1, r2, r3, r4, r5) := by rw [if_pos rfl] at H; exact H
        clear H
        have H := H1
        clear H1
        replace H := Option.bind_eq_some_iff.mp H
        obtain ⟨t538, A110, H⟩ := H
        replace H : (spec_AppRead.j0 k true (!t538) a0_0 a0_1 a2_0 a2_1) = some (r1, r2, r3, r4, r5) := H
        have A11 := Aside0.mk A110
        clear A110
        have H' := Aside0.mk H
        clear H
        have hnb12 := NB534_535.out
        have hnc12 := NB535_534.out
        have hnb13 := NB534_536.out
        have hnc13 := NB536_534.out
        have hcz14_0 := bc_ BK534.out 0 (.bool a0_0) rfl
        have hcz14_1 := bc_ BK534.out 1 (.int .i64 a0_1) rfl
        have hfz14_0 := blk_frozen BK534.out 0
        have hfz14_1 := blk_frozen BK534.out 1
        go_wp2_with (first | ((with_reducible refine gate_callee (f := 97) rfl ?_); refine goesL_ (some 13) rfl rfl Try.func97 (by kernel_rfl) rfl #[.agg #[.bool a0_0, .int .i64 a0_1]] rfl arr_ ?_; (with_reducible refine (spec_AppOk.calls a0_0 a0_1 true _ A8.out).mono ?_); rintro e w15 ⟨rfl, hb⟩; refine ⟨_, rfl, ?_⟩; have n0_ := Aside0.mk (bb_ BK534.out hb); have n1_ := Aside0.mk (bb_ BK535.out hb); have n2_ := Aside0.mk (bb_ BK536.out hb); have n3_ := Aside0.mk (below_step (hb3_ HB.out GE534.out GE535.out GE536.out) hb); clear BK534; clear BK535; clear BK536; clear HB; have BK534 := n0_; have BK535 := n1_; have BK536 := n2_; have HB := n3_; clear n0_ n1_ n2_ n3_; (try clear hb); (try clear hb2); (try clear hk); (try clear hi); have hnb16 := NB535_536.out; have hnc16 := NB536_535.out; have hcz17_0 := bc_ BK535.out 0 (.int .i64 a2_0) rfl; have hcz17_1 := bc_ BK535.out 1 (.int .i64 a2_1) rfl; have hfz17_0 := blk_frozen BK535.out 0; have hfz17_1 := blk_frozen BK535.out 1) | (go_at_call 49; (with_reducible refine (spec_IvalOk.calls a2_0 a2_1 t538 _ A11.out).mono ?_); rintro e w18 ⟨rfl, hb⟩; have n0_ := Aside0.mk (bb_ BK534.out hb); have n1_ := Aside0.mk (bb_ BK535.out hb); have n2_ := Aside0.mk (bb_ BK536.out hb); have n3_ := Aside0.mk (below_step (hb3_ HB.out GE534.out GE535.out GE536.out) hb); clear BK534; clear BK535; clear BK536; clear HB; have BK534 := n0_; have BK535 := n1_; have BK536 := n2_; have HB := n3_; clear n0_ n1_ n2_ n3_; (try clear hb); (try clear hb2); (try clear hk); (try clear hi)))
        go_meet
        case rel => exact ⟨_, (!t538), (by first | rfl | (simp; done) | (simp [*]; done)), H', ⟨by first | omega | exact Nat.le_refl _⟩, ⟨bk_ BK534.out⟩, ⟨bk_ BK535.out⟩, ⟨bk_ BK536.out⟩, ⟨hb3_ HB.out GE534.out GE535.out GE536.out⟩⟩
      · replace c10 := Bool.eq_false_iff.mpr c10
        subst c10
        have H1 : (spec_AppRead.j0 k false false a0_0 a0_1 a2_0 a2_1) = some (r1, r2, r3, r4, r5) := by rw [if_neg (show ¬ (false = true) by decide)] at H; exact H
        clear H
        have H := H1
        clear H1
        have H' := Aside0.mk H
        clear H
        have hnb19 := NB534_535.out
        have hnc19 := NB535_534.out
        have hnb20 := NB534_536.out
        have hnc20 := NB536_534.out
        have hcz21_0 := bc_ BK534.out 0 (.bool a0_0) rfl
        have hcz21_1 := bc_ BK534.out 1 (.int .i64 a0_1) rfl
        have hfz21_0 := blk_frozen BK534.out 0
        have hfz21_1 := blk_frozen BK534.out 1
        go_wp2_with (first | ((with_reducible refine gate_callee (f := 97) rfl ?_); refine goesL_ (some 13) rfl rfl Try.func97 (by kernel_rfl) rfl #[.agg #[.bool a0_0, .int .i64 a0_1]] rfl arr_ ?_; (with_reducible refine (spec_AppOk.calls a0_0 a0_1 true _ A8.out).mono ?_); rintro e w22 ⟨rfl, hb⟩; refine ⟨_, rfl, ?_⟩; have n0_ := Aside0.mk (bb_ BK534.out hb); have n1_ := Aside0.mk (bb_ BK535.out hb); have n2_ := Aside0.mk (bb_ BK536.out hb); have n3_ := Aside0.mk (below_step (hb3_ HB.out GE534.out GE535.out GE536.out) hb); clear BK534; clear BK535; clear BK536; clear HB; have BK534 := n0_; have BK535 := n1_; have BK536 := n2_; have HB := n3_; clear n0_ n1_ n2_ n3_; (try clear hb); (try clear hb2); (try clear hk); (try clear hi)))
        go_meet
        case rel => exact ⟨_, (false), (by first | rfl | (simp; done) | (simp [*]; done)), H', ⟨by first | omega | exact Nat.le_refl _⟩, ⟨bk_ BK534.out⟩, ⟨bk_ BK535.out⟩, ⟨bk_ BK536.out⟩, ⟨hb3_ HB.out GE534.out GE535.out GE536.out⟩⟩
    · replace c9 := Bool.eq_false_iff.mpr c9
      subst c9
      have H1 : (spec_AppRead.j0 k a1 true a0_0 a0_1 a2_0 a2_1) = some (r1, r2, r3, r4, r5) := by rw [if_neg (show ¬ (false = true) by decide)] at H; exact H
      clear H
      have H := H1
      clear H1
      have H' := Aside0.mk H
      clear H
      have hnb23 := NB534_535.out
      have hnc23 := NB535_534.out
      have hnb24 := NB534_536.out
      have hnc24 := NB536_534.out
      have hcz25_0 := bc_ BK534.out 0 (.bool a0_0) rfl
      have hcz25_1 := bc_ BK534.out 1 (.int .i64 a0_1) rfl
      have hfz25_0 := blk_frozen BK534.out 0
      have hfz25_1 := blk_frozen BK534.out 1
      go_wp2_with (first | ((with_reducible refine gate_callee (f := 97) rfl ?_); refine goesL_ (some 13) rfl rfl Try.func97 (by kernel_rfl) rfl #[.agg #[.bool a0_0, .int .i64 a0_1]] rfl arr_ ?_; (with_reducible refine (spec_AppOk.calls a0_0 a0_1 false _ A8.out).mono ?_); rintro e w26 ⟨rfl, hb⟩; refine ⟨_, rfl, ?_⟩; have n0_ := Aside0.mk (bb_ BK534.out hb); have n1_ := Aside0.mk (bb_ BK535.out hb); have n2_ := Aside0.mk (bb_ BK536.out hb); have n3_ := Aside0.mk (below_step (hb3_ HB.out GE534.out GE535.out GE536.out) hb); clear BK534; clear BK535; clear BK536; clear HB; have BK534 := n0_; have BK535 := n1_; have BK536 := n2_; have HB := n3_; clear n0_ n1_ n2_ n3_; (try clear hb); (try clear hb2); (try clear hk); (try clear hi)))
      go_meet
      case rel => exact ⟨_, (true), (by first | rfl | (simp; done) | (simp [*]; done)), H', ⟨by first | omega | exact Nat.le_refl _⟩, ⟨bk_ BK534.out⟩, ⟨bk_ BK535.out⟩, ⟨bk_ BK536.out⟩, ⟨hb3_ HB.out GE534.out GE535.out GE536.out⟩⟩
  case rest =>
    clear HC4
    try clear c1
    try clear c2
    try clear p2
    try clear c5
    try clear c9
    try clear c10
    try clear c12
    try clear c13
    try clear c16
    try clear c19
    try clear c20
    try clear c23
    try clear c24
    try clear hcz14_0
    try clear hcz14_1
    try clear hcz17_0
    try clear hcz17_1
    try clear hcz21_0
    try clear hcz21_1
    try clear hcz25_0
    try clear hcz25_1
    try clear hfz14_0
    try clear hfz14_1
    try clear hfz17_0
    try clear hfz17_1
    try clear hfz21_0
    try clear hfz21_1
    try clear hfz25_0
    try clear hfz25_1
    obtain ⟨kq, x22_3, rfl, HA, HJ3, BK534, BK535, BK536, HB⟩ := hcut
    cases kq with
    | zero => exact absurd HA.out (by simp [spec_AppRead.j0])
    | succ kj3 =>
      have H := HA.out
      clear HA
      simp only [spec_AppRead.j0] at H
      by_cases c27 : x22_3 = true
      · subst c27
        have H1 : (some (false, 0, 0, false, 1)) = some (r1, r2, r3, r4, r5) := by rw [if_pos rfl] at H; exact H
        clear H
        have H := H1
        clear H1
        simp only [Option.some.injEq, Prod.mk.injEq] at H
        obtain ⟨rfl, rfl, rfl, rfl, rfl⟩ := H
        have hnb28 := NB536_534.out
        have hnc28 := NB534_536.out
        have hnb29 := NB536_535.out
        have hnc29 := NB535_536.out
        have hcz30_0 := bc_ BK536.out 0 (.bool false) rfl
        have hcz30_1 := bc_ BK536.out 1 (.int .i64 0) rfl
        have hfz30_0 := blk_frozen BK536.out 0
        have hfz30_1 := blk_frozen BK536.out 1
        go_wp2
        refine bodyPost_ret (results_list (rs := [.cell 6 66, .tmp 7, .tmp 8, .tmp 9]) rfl (by simp) (.cell gb536 66 #[.bool false, .int .i64 0] (0, 0) _ rfl (by (with_reducible repeat (first | refine blk_drewN ?_ _ | refine blk_drew ?_ | refine blk_alloc ?_ _)); refine blk_put (cs := #[.bool false, .int .i64 0]) ?_ 1 _ rfl; (with_reducible repeat (first | refine blk_drewN ?_ _ | refine blk_drew ?_ | refine blk_alloc ?_ _)); refine blk_put (cs := #[.bool false, .int .i64 0]) ?_ 0 _ rfl; (with_reducible repeat (first | refine blk_drewN ?_ _ | refine blk_drew ?_ | refine blk_alloc ?_ _)); exact BK536.out) Try.underlying66 rfl (by kernel_rfl) (.tmp (.tmp (.tmp .nil))))) rfl ?_
        exact ⟨er_, hb3_ HB.out GE534.out GE535.out GE536.out⟩
      · replace c27 := Bool.eq_false_iff.mpr c27
        subst c27
        have H1 : (if a1 = true then (if a0_0 = true then (spec_AppRead.j1 kj3 (decide (a0_1 > a2_1)) a0_0 a0_1 a2_0 a2_1) else (spec_AppRead.j1 kj3 false a0_0 a0_1 a2_0 a2_1)) else (if a0_0 = true then (some (a0_0, a0_1, a0_1, true, 0)) else (some (a0_0, a0_1, 0, false, 2)))) = some (r1, r2, r3, r4, r5) := by rw [if_neg (show ¬ (false = true) by decide)] at H; exact H
        clear H
        have H := H1
        clear H1
        by_cases c31 : a1 = true
        · subst c31
          have H1 : (if a0_0 = true then (spec_AppRead.j1 kj3 (decide (a0_1 > a2_1)) a0_0 a0_1 a2_0 a2_1) else (spec_AppRead.j1 kj3 false a0_0 a0_1 a2_0 a2_1)) = some (r1, r2, r3, r4, r5) := by rw [if_pos rfl] at H; exact H
          clear H
          have H := H1
          clear H1
          have HC32 := Aside0.mk H
          clear H
          go_upto_region 7 with (fail)
          go_cut [41] (fun v41 wc => ∃ (kq : Nat) (x41_31 : Bool), v41 = .bool x41_31 ∧ Aside0 (spec_AppRead.j1 kq x41_31 a0_0 a0_1 a2_0 a2_1 = some (r1, r2, r3, r4, r5)) ∧ Aside0 (kq ≤ kj3) ∧ Aside0 (wc.heap[gb534]? = some (.cells #[.bool a0_0, .int .i64 a0_1] 66 (0, 0))) ∧ Aside0 (wc.heap[gb535]? = some (.cells #[.int .i64 a2_0, .int .i64 a2_1] 81 (0, 0))) ∧ Aside0 (wc.heap[gb536]? = some (.cells #[.bool false, .int .i64 0] 66 (0, 0))) ∧ Aside0 (Below w.heap.size w wc))
          case first =>
            have H := HC32.out
            clear HC32
            by_cases c33 : a0_0 = true
            · subst c33
              have H1 : (spec_AppRead.j1 kj3 (decide (a0_1 > a2_1)) true a0_1 a2_0 a2_1) = some (r1, r2, r3, r4, r5) := by rw [if_pos rfl] at H; exact H
              clear H
              have H := H1
              clear H1
              have H' := Aside0.mk H
              clear H
              have hnb34 := NB534_535.out
              have hnc34 := NB535_534.out
              have hnb35 := NB534_536.out
              have hnc35 := NB536_534.out
              have hcz36_0 := bc_ BK534.out 0 (.bool true) rfl
              have hcz36_1 := bc_ BK534.out 1 (.int .i64 a0_1) rfl
              have hfz36_0 := blk_frozen BK534.out 0
              have hfz36_1 := blk_frozen BK534.out 1
              have hnb37 := NB535_536.out
              have hnc37 := NB536_535.out
              have hcz38_0 := bc_ BK535.out 0 (.int .i64 a2_0) rfl
              have hcz38_1 := bc_ BK535.out 1 (.int .i64 a2_1) rfl
              have hfz38_0 := blk_frozen BK535.out 0
              have hfz38_1 := blk_frozen BK535.out 1
              go_wp2
              go_meet
              case rel => exact ⟨_, (decide (a0_1 > a2_1)), (by first | rfl | (simp; done) | (simp [*]; done)), H', ⟨by have := HJ3.out; first | omega | exact Nat.le_refl _⟩, ⟨bk_ BK534.out⟩, ⟨bk_ BK535.out⟩, ⟨bk_ BK536.out⟩, ⟨hb3_ HB.out GE534.out GE535.out GE536.out⟩⟩
            · replace c33 := Bool.eq_false_iff.mpr c33
              subst c33
              have H1 : (spec_AppRead.j1 kj3 false false a0_1 a2_0 a2_1) = some (r1, r2, r3, r4, r5) := by rw [if_neg (show ¬ (false = true) by decide)] at H; exact H
              clear H
              have H := H1
              clear H1
              have H' := Aside0.mk H
              clear H
              have hnb39 := NB534_535.out
              have hnc39 := NB535_534.out
              have hnb40 := NB534_536.out
              have hnc40 := NB536_534.out
              have hcz41_0 := bc_ BK534.out 0 (.bool false) rfl
              have hcz41_1 := bc_ BK534.out 1 (.int .i64 a0_1) rfl
              have hfz41_0 := blk_frozen BK534.out 0
              have hfz41_1 := blk_frozen BK534.out 1
              go_wp2
              go_meet
              case rel => exact ⟨_, (false), (by first | rfl | (simp; done) | (simp [*]; done)), H', ⟨by have := HJ3.out; first | omega | exact Nat.le_refl _⟩, ⟨bk_ BK534.out⟩, ⟨bk_ BK535.out⟩, ⟨bk_ BK536.out⟩, ⟨hb3_ HB.out GE534.out GE535.out GE536.out⟩⟩
          case rest =>
            clear HC32
            try clear c1
            try clear c2
            try clear p2
            try clear c3
            try clear c4
            try clear c5
            try clear c9
            try clear c10
            try clear c12
            try clear c13
            try clear c16
            try clear c19
            try clear c20
            try clear c23
            try clear c24
            try clear c27
            try clear c28
            try clear c29
            try clear c31
            try clear c33
            try clear c34
            try clear c35
            try clear c37
            try clear c39
            try clear c40
            try clear hcz14_0
            try clear hcz14_1
            try clear hcz17_0
            try clear hcz17_1
            try clear hcz21_0
            try clear hcz21_1
            try clear hcz25_0
            try clear hcz25_1
            try clear hcz30_0
            try clear hcz30_1
            try clear hcz36_0
            try clear hcz36_1
            try clear hcz38_0
            try clear hcz38_1
            try clear hcz41_0
            try clear hcz41_1
            try clear hfz14_0
            try clear hfz14_1
            try clear hfz17_0
            try clear hfz17_1
            try clear hfz21_0
            try clear hfz21_1
            try clear hfz25_0
            try clear hfz25_1
            try clear hfz30_0
            try clear hfz30_1
            try clear hfz36_0
            try clear hfz36_1
            try clear hfz38_0
            try clear hfz38_1
            try clear hfz41_0
            try clear hfz41_1
            try clear p2
            obtain ⟨kq, x41_31, rfl, HA, HJ31, BK534, BK535, BK536, HB⟩ := hcut
            cases kq with
            | zero => exact absurd HA.out (by simp [spec_AppRead.j1])
            | succ kj31 =>
              have H := HA.out
              clear HA
              simp only [spec_AppRead.j1] at H
              by_cases c42 : x41_31 = true
              · subst c42
                have H1 : (some (a0_0, a0_1, a0_1, true, 0)) = some (r1, r2, r3, r4, r5) := by rw [if_pos rfl] at H; exact H
                clear H
                have H := H1
                clear H1
                simp only [Option.some.injEq, Prod.mk.injEq] at H
                obtain ⟨rfl, rfl, rfl, rfl, rfl⟩ := H
                try go_wp2
                have n0_ := Aside0.mk (blk_drew BK534.out)
                have n1_ := Aside0.mk (blk_drew BK535.out)
                have n2_ := Aside0.mk (blk_drew BK536.out)
                have n3_ := Aside0.mk (below_drew1 HB.out)
                clear BK534
                clear BK535
                clear BK536
                clear HB
                have BK534 := n0_
                have BK535 := n1_
                have BK536 := n2_
                have HB := n3_
                clear n0_ n1_ n2_ n3_
                refine start_ (n := 7) (S := fun w' => w'.cell? ⟨gb534, 0, none⟩ = some (.bool a0_0) ∧ w'.cell? ⟨gb534, 1, none⟩ = some (.int .i64 a0_1)) (ds := []) #[false, false, false, false, false, false, false] (by kernel_rfl) rfl rfl ⟨(blk_cell BK534.out 0).trans rfl, (blk_cell BK534.out 1).trans rfl⟩ (fun hHeld => ?_)
                generalize wc.drew = w43 at BK534 BK535 BK536 HB hHeld ⊢
                refine pure_ (i := 1) (N := some 43) (v := ?_) (a' := ?_) #[false, true, false, false, false, false, false] rfl rfl (by kernel_rfl) (fun _ _ _ h => h) (Or.inl ⟨by rfl, ?_⟩) ?_ ?_
                rotate_left
                · intro w'
                  go_simp
                  with_reducible rfl
                rotate_left
                · simp only [Act.put, List.setIfInBounds_toArray, List.set_cons_zero, List.set_cons_succ, i64_w, i32_w]
                  rfl
                refine take_ (i := 0) (N := some 42) (v := ?_) (a' := ?_) #[true, true, false, false, false, false, false] rfl rfl (by kernel_rfl) (fun _ _ _ h => h) (Or.inl ⟨by rfl, ?_⟩) hHeld ?_ ?_
                rotate_left
                · rintro w' ⟨s0, s1⟩
                  go_simp
                  with_reducible rfl
                rotate_left
                · simp only [Act.put, List.setIfInBounds_toArray, List.set_cons_zero, List.set_cons_succ, i64_w, i32_w]
                  rfl
                refine take_ (i := 2) (N := some 44) (v := ?_) (a' := ?_) #[true, true, true, false, false, false, false] rfl rfl (by kernel_rfl) (fun _ _ _ h => h) (Or.inl ⟨by rfl, ?_⟩) hHeld ?_ ?_
                rotate_left
                · rintro w' ⟨s0, s1⟩
                  go_simp
                  with_reducible rfl
                rotate_left
                · simp only [Act.put, List.setIfInBounds_toArray, List.set_cons_zero, List.set_cons_succ, i64_w, i32_w]
                  rfl
                refine one_ (i := 3) (N := none) #[true, true, true, true, false, false, false] rfl rfl (by kernel_rfl) (by decide) (fun K hK => ?_)
                have hs44 : w43.cell? ⟨gb536, 0, none⟩ = some (.bool false) := (blk_cell BK536.out 0).trans rfl
                have hfs44 := blk_frozen BK536.out 0
                have hns44_0 := NB534_536.out
                have hns44_1 := NB535_536.out
                have hms44_0 := NB536_534.out
                have hms44_1 := NB536_535.out
                have hs45 : w43.cell? ⟨gb536, 1, none⟩ = some (.int .i64 0) := (blk_cell BK536.out 1).trans rfl
                have hfs45 := blk_frozen BK536.out 1
                have hns45_0 := NB534_536.out
                have hns45_1 := NB535_536.out
                have hms45_0 := NB536_534.out
                have hms45_1 := NB536_535.out
                refine skip_ (w1 := ?_) (by rfl) rfl ?_ ?_
                rotate_left
                · go_simp
                  rfl
                refine hK.out _ _ ⟨((cell_far (p := ⟨gb536, _, none⟩) NB534_536.out _).trans (((cell_far (p := ⟨gb536, _, none⟩) NB534_536.out _).trans (hHeld.1)))), ((cell_far (p := ⟨gb536, _, none⟩) NB534_536.out _).trans (((cell_far (p := ⟨gb536, _, none⟩) NB534_536.out _).trans (hHeld.2))))⟩ (fun hHeld => ?_)
                clear hK K
                refine pure_ (i := 4) (N := some 7) (v := ?_) (a' := ?_) #[true, true, true, true, true, false, false] rfl rfl (by kernel_rfl) (fun _ _ _ h => h) (Or.inl ⟨by rfl, ?_⟩) ?_ ?_
                rotate_left
                · intro w'
                  go_simp
                  with_reducible rfl
                rotate_left
                · simp only [Act.put, List.setIfInBounds_toArray, List.set_cons_zero, List.set_cons_succ, i64_w, i32_w]
                  rfl
                refine pure_ (i := 5) (N := some 8) (v := ?_) (a' := ?_) #[true, true, true, true, true, true, false] rfl rfl (by kernel_rfl) (fun _ _ _ h => h) (Or.inl ⟨by rfl, ?_⟩) ?_ ?_
                rotate_left
                · intro w'
                  go_simp
                  with_reducible rfl
                rotate_left
                · simp only [Act.put, List.setIfInBounds_toArray, List.set_cons_zero, List.set_cons_succ, i64_w, i32_w]
                  rfl
                refine pure_ (i := 6) (N := some 9) (v := ?_) (a' := ?_) #[true, true, true, true, true, true, true] rfl rfl (by kernel_rfl) (fun _ _ _ h => h) (Or.inl ⟨by rfl, ?_⟩) ?_ ?_
                rotate_left
                · intro w'
                  go_simp
                  with_reducible rfl
                rotate_left
                · simp only [Act.put, List.setIfInBounds_toArray, List.set_cons_zero, List.set_cons_succ, i64_w, i32_w]
                  rfl
                refine done_ (by kernel_rfl) ?_
                try go_wp2
                refine bodyPost_ret (results_list (rs := [.cell 6 66, .tmp 7, .tmp 8, .tmp 9]) rfl (by simp) (.cell gb536 66 #[.bool a0_0, .int .i64 a0_1] (0, 0) _ rfl (by (with_reducible repeat (first | refine blk_drewN ?_ _ | refine blk_drew ?_ | refine blk_alloc ?_ _)); refine blk_put (cs := #[.bool a0_0, .int .i64 0]) ?_ 1 _ rfl; (with_reducible repeat (first | refine blk_drewN ?_ _ | refine blk_drew ?_ | refine blk_alloc ?_ _)); refine blk_put (cs := #[.bool false, .int .i64 0]) ?_ 0 _ rfl; (with_reducible repeat (first | refine blk_drewN ?_ _ | refine blk_drew ?_ | refine blk_alloc ?_ _)); exact BK536.out) Try.underlying66 rfl (by kernel_rfl) (.tmp (.tmp (.tmp .nil))))) rfl ?_
                exact ⟨er_, hb3_ HB.out GE534.out GE535.out GE536.out⟩
              · replace c42 := Bool.eq_false_iff.mpr c42
                subst c42
                have H1 : ((spec_Middle.f a2_0 a2_1).bind fun bt539 => (if a0_0 = true then ((spec_l1Max.f bt539.1 a0_1).bind fun t541 => (some (true, t541, t541, false, 0))) else (some (true, bt539.1, bt539.1, false, 0)))) = some (r1, r2, r3, r4, r5) := by rw [if_neg (show ¬ (false = true) by decide)] at H; exact H
                clear H
                have H := H1
                clear H1
                replace H := Option.bind_eq_some_iff.mp H
                obtain ⟨⟨t539, t540⟩, A460, H⟩ := H
                replace H : (if a0_0 = true then ((spec_l1Max.f t539 a0_1).bind fun t541 => (some (true, t541, t541, false, 0))) else (some (true, t539, t539, false, 0))) = some (r1, r2, r3, r4, r5) := H
                have A46 := Aside0.mk A460
                clear A460
                by_cases c47 : a0_0 = true
                · subst c47
                  have H1 : ((spec_l1Max.f t539 a0_1).bind fun t541 => (some (true, t541, t541, false, 0))) = some (r1, r2, r3, r4, r5) := by rw [if_pos rfl] at H; exact H
                  clear H
                  have H := H1
                  clear H1
                  replace H := Option.bind_eq_some_iff.mp H
                  obtain ⟨t541, A480, H⟩ := H
                  replace H : (some (true, t541, t541, false, 0)) = some (r1, r2, r3, r4, r5) := H
                  have A48 := Aside0.mk A480
                  clear A480
                  simp only [Option.some.injEq, Prod.mk.injEq] at H
                  obtain ⟨rfl, rfl, rfl, rfl, rfl⟩ := H
                  have hnb49 := NB535_534.out
                  have hnc49 := NB534_535.out
                  have hnb50 := NB535_536.out
                  have hnc50 := NB536_535.out
                  have hcz51_0 := bc_ BK535.out 0 (.int .i64 a2_0) rfl
                  have hcz51_1 := bc_ BK535.out 1 (.int .i64 a2_1) rfl
                  have hfz51_0 := blk_frozen BK535.out 0
                  have hfz51_1 := blk_frozen BK535.out 1
                  go_wp2_with (first | ((with_reducible refine gate_callee (f := 98) rfl ?_); refine goesL_ (some 47) rfl rfl Try.func98 (by kernel_rfl) rfl #[.agg #[.int .i64 a2_0, .int .i64 a2_1]] rfl arr_ ?_; (with_reducible refine (spec_Middle.calls a2_0 a2_1 t539 t540 _ A46.out).mono ?_); rintro e w52 ⟨rfl, hb⟩; refine ⟨_, rfl, ?_⟩; have n0_ := Aside0.mk (bb_ BK534.out hb); have n1_ := Aside0.mk (bb_ BK535.out hb); have n2_ := Aside0.mk (bb_ BK536.out hb); have n3_ := Aside0.mk (below_step (hb3_ HB.out GE534.out GE535.out GE536.out) hb); clear BK534; clear BK535; clear BK536; clear HB; have BK534 := n0_; have BK535 := n1_; have BK536 := n2_; have HB := n3_; clear n0_ n1_ n2_ n3_; (try clear hb); (try clear hb2); (try clear hk); (try clear hi); have hnb53 := NB534_536.out; have hnc53 := NB536_534.out; have hcz54_0 := bc_ BK534.out 0 (.bool true) rfl; have hcz54_1 := bc_ BK534.out 1 (.int .i64 a0_1) rfl; have hfz54_0 := blk_frozen BK534.out 0; have hfz54_1 := blk_frozen BK534.out 1) | ((with_reducible refine gate_callee (f := 99) rfl ?_); refine goesL_ (some 55) rfl rfl Try.func99 (by kernel_rfl) rfl #[.int .i64 t539, .int .i64 a0_1] rfl arr_ ?_; (with_reducible refine (spec_l1Max.calls t539 a0_1 t541 _ A48.out).mono ?_); rintro e w' ⟨rfl, ⟨nd, rfl⟩⟩; refine ⟨_, rfl, ?_⟩; (try (rw [drewN_self w52]; generalize hq_ : World.drewN w52 _ = w52; have n0_ : Aside0 (w52.heap[gb534]? = some (.cells #[.bool true, .int .i64 a0_1] 66 (0, 0))) := ⟨by rw [← hq_]; exact (bk_ BK534.out)⟩; have n1_ : Aside0 (w52.heap[gb535]? = some (.cells #[.int .i64 a2_0, .int .i64 a2_1] 81 (0, 0))) := ⟨by rw [← hq_]; exact (bk_ BK535.out)⟩; have n2_ : Aside0 (w52.heap[gb536]? = some (.cells #[.bool false, .int .i64 0] 66 (0, 0))) := ⟨by rw [← hq_]; exact (bk_ BK536.out)⟩; have n3_ : Aside0 (Below w.heap.size w w52) := ⟨by rw [← hq_]; exact (hb3_ HB.out GE534.out GE535.out GE536.out)⟩; clear BK534 BK535 BK536 HB hq_; have BK534 := n0_; have BK535 := n1_; have BK536 := n2_; have HB := n3_; clear n0_ n1_ n2_ n3_)); have hcz55_0 := bc_ BK536.out 0 (.bool false) rfl; have hcz55_1 := bc_ BK536.out 1 (.int .i64 0) rfl; have hfz55_0 := blk_frozen BK536.out 0; have hfz55_1 := blk_frozen BK536.out 1))
                  refine bodyPost_ret (results_list (rs := [.cell 6 66, .tmp 7, .tmp 8, .tmp 9]) rfl (by simp) (.cell gb536 66 #[.bool true, .int .i64 t541] (0, 0) _ rfl (by (with_reducible repeat (first | refine blk_drewN ?_ _ | refine blk_drew ?_ | refine blk_alloc ?_ _)); refine blk_put (cs := #[.bool true, .int .i64 0]) ?_ 1 _ rfl; (with_reducible repeat (first | refine blk_drewN ?_ _ | refine blk_drew ?_ | refine blk_alloc ?_ _)); refine blk_put (cs := #[.bool false, .int .i64 0]) ?_ 0 _ rfl; (with_reducible repeat (first | refine blk_drewN ?_ _ | refine blk_drew ?_ | refine blk_alloc ?_ _)); exact BK536.out) Try.underlying66 rfl (by kernel_rfl) (.tmp (.tmp (.tmp .nil))))) rfl ?_
                  exact ⟨er_, hb3_ HB.out GE534.out GE535.out GE536.out⟩
                · replace c47 := Bool.eq_false_iff.mpr c47
                  subst c47
                  have H1 : (some (true, t539, t539, false, 0)) = some (r1, r2, r3, r4, r5) := by rw [if_neg (show ¬ (false = true) by decide)] at H; exact H
                  clear H
                  have H := H1
                  clear H1
                  simp only [Option.some.injEq, Prod.mk.injEq] at H
                  obtain ⟨rfl, rfl, rfl, rfl, rfl⟩ := H
                  have hnb56 := NB535_534.out
                  have hnc56 := NB534_535.out
                  have hnb57 := NB535_536.out
                  have hnc57 := NB536_535.out
                  have hcz58_0 := bc_ BK535.out 0 (.int .i64 a2_0) rfl
                  have hcz58_1 := bc_ BK535.out 1 (.int .i64 a2_1) rfl
                  have hfz58_0 := blk_frozen BK535.out 0
                  have hfz58_1 := blk_frozen BK535.out 1
                  go_wp2_with (first | ((with_reducible refine gate_callee (f := 98) rfl ?_); refine goesL_ (some 47) rfl rfl Try.func98 (by kernel_rfl) rfl #[.agg #[.int .i64 a2_0, .int .i64 a2_1]] rfl arr_ ?_; (with_reducible refine (spec_Middle.calls a2_0 a2_1 t539 t540 _ A46.out).mono ?_); rintro e w59 ⟨rfl, hb⟩; refine ⟨_, rfl, ?_⟩; have n0_ := Aside0.mk (bb_ BK534.out hb); have n1_ := Aside0.mk (bb_ BK535.out hb); have n2_ := Aside0.mk (bb_ BK536.out hb); have n3_ := Aside0.mk (below_step (hb3_ HB.out GE534.out GE535.out GE536.out) hb); clear BK534; clear BK535; clear BK536; clear HB; have BK534 := n0_; have BK535 := n1_; have BK536 := n2_; have HB := n3_; clear n0_ n1_ n2_ n3_; (try clear hb); (try clear hb2); (try clear hk); (try clear hi); have hnb60 := NB534_536.out; have hnc60 := NB536_534.out; have hcz61_0 := bc_ BK534.out 0 (.bool false) rfl; have hcz61_1 := bc_ BK534.out 1 (.int .i64 a0_1) rfl; have hfz61_0 := blk_frozen BK534.out 0; have hfz61_1 := blk_frozen BK534.out 1; have hcz62_0 := bc_ BK536.out 0 (.bool false) rfl; have hcz62_1 := bc_ BK536.out 1 (.int .i64 0) rfl; have hfz62_0 := blk_frozen BK536.out 0; have hfz62_1 := blk_frozen BK536.out 1))
                  refine bodyPost_ret (results_list (rs := [.cell 6 66, .tmp 7, .tmp 8, .tmp 9]) rfl (by simp) (.cell gb536 66 #[.bool true, .int .i64 t539] (0, 0) _ rfl (by (with_reducible repeat (first | refine blk_drewN ?_ _ | refine blk_drew ?_ | refine blk_alloc ?_ _)); refine blk_put (cs := #[.bool true, .int .i64 0]) ?_ 1 _ rfl; (with_reducible repeat (first | refine blk_drewN ?_ _ | refine blk_drew ?_ | refine blk_alloc ?_ _)); refine blk_put (cs := #[.bool false, .int .i64 0]) ?_ 0 _ rfl; (with_reducible repeat (first | refine blk_drewN ?_ _ | refine blk_drew ?_ | refine blk_alloc ?_ _)); exact BK536.out) Try.underlying66 rfl (by kernel_rfl) (.tmp (.tmp (.tmp .nil))))) rfl ?_
                  exact ⟨er_, hb3_ HB.out GE534.out GE535.out GE536.out⟩
        · replace c31 := Bool.eq_false_iff.mpr c31
          subst c31
          have H1 : (if a0_0 = true then (some (a0_0, a0_1, a0_1, true, 0)) else (some (a0_0, a0_1, 0, false, 2))) = some (r1, r2, r3, r4, r5) := by rw [if_neg (show ¬ (false = true) by decide)] at H; exact H
          clear H
          have H := H1
          clear H1
          by_cases c63 : a0_0 = true
          · subst c63
            have H1 : (some (true, a0_1, a0_1, true, 0)) = some (r1, r2, r3, r4, r5) := by rw [if_pos rfl] at H; exact H
            clear H
            have H := H1
            clear H1
            simp only [Option.some.injEq, Prod.mk.injEq] at H
            obtain ⟨rfl, rfl, rfl, rfl, rfl⟩ := H
            have hnb64 := NB534_535.out
            have hnc64 := NB535_534.out
            have hnb65 := NB534_536.out
            have hnc65 := NB536_534.out
            have hcz66_0 := bc_ BK534.out 0 (.bool true) rfl
            have hcz66_1 := bc_ BK534.out 1 (.int .i64 a0_1) rfl
            have hfz66_0 := blk_frozen BK534.out 0
            have hfz66_1 := blk_frozen BK534.out 1
            try go_wp2
            have n0_ := Aside0.mk (blk_drew BK534.out)
            have n1_ := Aside0.mk (blk_drew BK535.out)
            have n2_ := Aside0.mk (blk_drew BK536.out)
            have n3_ := Aside0.mk (below_drew1 HB.out)
            clear BK534
            clear BK535
            clear BK536
            clear HB
            have BK534 := n0_
            have BK535 := n1_
            have BK536 := n2_
            have HB := n3_
            clear n0_ n1_ n2_ n3_
            refine start_ (n := 7) (S := fun w' => w'.cell? ⟨gb534, 0, none⟩ = some (.bool true) ∧ w'.cell? ⟨gb534, 1, none⟩ = some (.int .i64 a0_1)) (ds := []) #[false, false, false, false, false, false, false] (by kernel_rfl) rfl rfl ⟨(blk_cell BK534.out 0).trans rfl, (blk_cell BK534.out 1).trans rfl⟩ (fun hHeld => ?_)
            generalize wc.drew = w67 at BK534 BK535 BK536 HB hHeld ⊢
            refine pure_ (i := 1) (N := some 31) (v := ?_) (a' := ?_) #[false, true, false, false, false, false, false] rfl rfl (by kernel_rfl) (fun _ _ _ h => h) (Or.inl ⟨by rfl, ?_⟩) ?_ ?_
            rotate_left
            · intro w'
              go_simp
              with_reducible rfl
            rotate_left
            · simp only [Act.put, List.setIfInBounds_toArray, List.set_cons_zero, List.set_cons_succ, i64_w, i32_w]
              rfl
            refine take_ (i := 0) (N := some 30) (v := ?_) (a' := ?_) #[true, true, false, false, false, false, false] rfl rfl (by kernel_rfl) (fun _ _ _ h => h) (Or.inl ⟨by rfl, ?_⟩) hHeld ?_ ?_
            rotate_left
            · rintro w' ⟨s0, s1⟩
              go_simp
              with_reducible rfl
            rotate_left
            · simp only [Act.put, List.setIfInBounds_toArray, List.set_cons_zero, List.set_cons_succ, i64_w, i32_w]
              rfl
            refine take_ (i := 2) (N := some 32) (v := ?_) (a' := ?_) #[true, true, true, false, false, false, false] rfl rfl (by kernel_rfl) (fun _ _ _ h => h) (Or.inl ⟨by rfl, ?_⟩) hHeld ?_ ?_
            rotate_left
            · rintro w' ⟨s0, s1⟩
              go_simp
              with_reducible rfl
            rotate_left
            · simp only [Act.put, List.setIfInBounds_toArray, List.set_cons_zero, List.set_cons_succ, i64_w, i32_w]
              rfl
            refine one_ (i := 3) (N := none) #[true, true, true, true, false, false, false] rfl rfl (by kernel_rfl) (by decide) (fun K hK => ?_)
            have hs68 : w67.cell? ⟨gb536, 0, none⟩ = some (.bool false) := (blk_cell BK536.out 0).trans rfl
            have hfs68 := blk_frozen BK536.out 0
            have hns68_0 := NB534_536.out
            have hns68_1 := NB535_536.out
            have hms68_0 := NB536_534.out
            have hms68_1 := NB536_535.out
            have hs69 : w67.cell? ⟨gb536, 1, none⟩ = some (.int .i64 0) := (blk_cell BK536.out 1).trans rfl
            have hfs69 := blk_frozen BK536.out 1
            have hns69_0 := NB534_536.out
            have hns69_1 := NB535_536.out
            have hms69_0 := NB536_534.out
            have hms69_1 := NB536_535.out
            refine skip_ (w1 := ?_) (by rfl) rfl ?_ ?_
            rotate_left
            · go_simp
              rfl
            refine hK.out _ _ ⟨((cell_far (p := ⟨gb536, _, none⟩) NB534_536.out _).trans (((cell_far (p := ⟨gb536, _, none⟩) NB534_536.out _).trans (hHeld.1)))), ((cell_far (p := ⟨gb536, _, none⟩) NB534_536.out _).trans (((cell_far (p := ⟨gb536, _, none⟩) NB534_536.out _).trans (hHeld.2))))⟩ (fun hHeld => ?_)
            clear hK K
            refine pure_ (i := 4) (N := some 7) (v := ?_) (a' := ?_) #[true, true, true, true, true, false, false] rfl rfl (by kernel_rfl) (fun _ _ _ h => h) (Or.inl ⟨by rfl, ?_⟩) ?_ ?_
            rotate_left
            · intro w'
              go_simp
              with_reducible rfl
            rotate_left
            · simp only [Act.put, List.setIfInBounds_toArray, List.set_cons_zero, List.set_cons_succ, i64_w, i32_w]
              rfl
            refine pure_ (i := 5) (N := some 8) (v := ?_) (a' := ?_) #[true, true, true, true, true, true, false] rfl rfl (by kernel_rfl) (fun _ _ _ h => h) (Or.inl ⟨by rfl, ?_⟩) ?_ ?_
            rotate_left
            · intro w'
              go_simp
              with_reducible rfl
            rotate_left
            · simp only [Act.put, List.setIfInBounds_toArray, List.set_cons_zero, List.set_cons_succ, i64_w, i32_w]
              rfl
            refine pure_ (i := 6) (N := some 9) (v := ?_) (a' := ?_) #[true, true, true, true, true, true, true] rfl rfl (by kernel_rfl) (fun _ _ _ h => h) (Or.inl ⟨by rfl, ?_⟩) ?_ ?_
            rotate_left
            · intro w'
              go_simp
              with_reducible rfl
            rotate_left
            · simp only [Act.put, List.setIfInBounds_toArray, List.set_cons_zero, List.set_cons_succ, i64_w, i32_w]
              rfl
            refine done_ (by kernel_rfl) ?_
            try go_wp2
            refine bodyPost_ret (results_list (rs := [.cell 6 66, .tmp 7, .tmp 8, .tmp 9]) rfl (by simp) (.cell gb536 66 #[.bool true, .int .i64 a0_1] (0, 0) _ rfl (by (with_reducible repeat (first | refine blk_drewN ?_ _ | refine blk_drew ?_ | refine blk_alloc ?_ _)); refine blk_put (cs := #[.bool true, .int .i64 0]) ?_ 1 _ rfl; (with_reducible repeat (first | refine blk_drewN ?_ _ | refine blk_drew ?_ | refine blk_alloc ?_ _)); refine blk_put (cs := #[.bool false, .int .i64 0]) ?_ 0 _ rfl; (with_reducible repeat (first | refine blk_drewN ?_ _ | refine blk_drew ?_ | refine blk_alloc ?_ _)); exact BK536.out) Try.underlying66 rfl (by kernel_rfl) (.tmp (.tmp (.tmp .nil))))) rfl ?_
            exact ⟨er_, hb3_ HB.out GE534.out GE535.out GE536.out⟩
          · replace c63 := Bool.eq_false_iff.mpr c63
            subst c63
            have H1 : (some (false, a0_1, 0, false, 2)) = some (r1, r2, r3, r4, r5) := by rw [if_neg (show ¬ (false = true) by decide)] at H; exact H
            clear H
            have H := H1
            clear H1
            simp only [Option.some.injEq, Prod.mk.injEq] at H
            obtain ⟨rfl, rfl, rfl, rfl, rfl⟩ := H
            have hnb70 := NB534_535.out
            have hnc70 := NB535_534.out
            have hnb71 := NB534_536.out
            have hnc71 := NB536_534.out
            have hcz72_0 := bc_ BK534.out 0 (.bool false) rfl
            have hcz72_1 := bc_ BK534.out 1 (.int .i64 a0_1) rfl
            have hfz72_0 := blk_frozen BK534.out 0
            have hfz72_1 := blk_frozen BK534.out 1
            have hnb73 := NB536_535.out
            have hnc73 := NB535_536.out
            have hcz74_0 := bc_ BK536.out 0 (.bool false) rfl
            have hcz74_1 := bc_ BK536.out 1 (.int .i64 0) rfl
            have hfz74_0 := blk_frozen BK536.out 0
            have hfz74_1 := blk_frozen BK536.out 1
            go_wp2
            refine bodyPost_ret (results_list (rs := [.cell 6 66, .tmp 7, .tmp 8, .tmp 9]) rfl (by simp) (.cell gb536 66 #[.bool false, .int .i64 a0_1] (0, 0) _ rfl (by (with_reducible repeat (first | refine blk_drewN ?_ _ | refine blk_drew ?_ | refine blk_alloc ?_ _)); refine blk_put (cs := #[.bool false, .int .i64 0]) ?_ 1 _ rfl; (with_reducible repeat (first | refine blk_drewN ?_ _ | refine blk_drew ?_ | refine blk_alloc ?_ _)); refine blk_put (cs := #[.bool false, .int .i64 0]) ?_ 0 _ rfl; (with_reducible repeat (first | refine blk_drewN ?_ _ | refine blk_drew ?_ | refine blk_alloc ?_ _)); exact BK536.out) Try.underlying66 rfl (by kernel_rfl) (.tmp (.tmp (.tmp .nil))))) rfl ?_
            exact ⟨er_, hb3_ HB.out GE534.out GE535.out GE536.out⟩
end Go.Proofs.Ytcgdnfaclbnflaa.P

namespace Go.Proofs.Ytcgdnfaclbnflaa.P
open Go.RowKit Go.Proofs.YtcgdnfaclbnflaaW.PrintWords Go.Proofs.YtcgdnfaclbnflaaW.PrintLast Go.Proofs.YtcgdnfaclbnflaaW.PrintMore
attribute [local go_sem] max2_int min2_int max_two min_two max_three min_three max_four min_four
set_option linter.unusedVariables false
set_option linter.unusedSimpArgs false
def impl_AppLag.f (a0_0 : Bool) (a0_1 : Int) (a1_0 : Int) (a1_1 : Int) : Option (Int) := (impl_AppOk.f a0_0 a0_1).bind fun t857 => (if t857 = true then (if a0_0 = true then ((impl_IvalOk.f a1_0 a1_1).bind fun t858 => (if t858 = true then (some (mx 0 (wrap64 (a0_1 - a1_1)))) else (some 0))) else (some 0)) else (some 0))
set_option maxHeartbeats 8000000 in
set_option maxRecDepth 100000 in
theorem impl_AppLag.calls (a0_0 : Bool) (a0_1 : Int) (a1_0 : Int) (a1_1 : Int) (r : Int) (w : World) (h : impl_AppLag.f a0_0 a0_1 a1_0 a1_1 = some r) :
    Calls Try.prog 55 #[.agg #[.bool a0_0, .int .i64 a0_1], .agg #[.int .i64 a1_0, .int .i64 a1_1]] w fun e w' => e = .returned (.int .i64 r) ∧ Below w.heap.size w w' := by
  have hu66 := Try.underlying66
  have hu81 := Try.underlying81
  have HB := Aside0.mk (Below.refl w.heap.size w)
  have H : ((impl_AppOk.f a0_0 a0_1).bind fun t857 => (if t857 = true then (if a0_0 = true then ((impl_IvalOk.f a1_0 a1_1).bind fun t858 => (if t858 = true then (some (mx 0 (wrap64 (a0_1 - a1_1)))) else (some 0))) else (some 0)) else (some 0))) = some r := h
  clear h
  replace H := Option.bind_eq_some_iff.mp H
  obtain ⟨t857, A30, H⟩ := H
  replace H : (if t857 = true then (if a0_0 = true then ((impl_IvalOk.f a1_0 a1_1).bind fun t858 => (if t858 = true then (some (mx 0 (wrap64 (a0_1 - a1_1)))) else (some 0))) else (some 0)) else (some 0)) = some r := H
  have A3 := Aside0.mk A30
  clear A30
  by_cases c4 : t857 = true
  · subst c4
    have H1 : (if a0_0 = true then ((impl_IvalOk.f a1_0 a1_1).bind fun t858 => (if t858 = true then (some (mx 0 (wrap64 (a0_1 - a1_1)))) else (some 0))) else (some 0)) = some r := by rw [if_pos rfl] at H; exact H
    clear H
    have H := H1
    clear H1
    by_cases c5 : a0_0 = true
    · subst c5
      have H1 : ((impl_IvalOk.f a1_0 a1_1).bind fun t858 => (if t858 = true then (some (mx 0 (wrap64 (a0_1 - a1_1)))) else (some 0))) = some r := by rw [if_pos rfl] at H; exact H
      clear H
      have H := H1
      clear H1
      replace H := Option.bind_eq_some_iff.mp H
      obtain ⟨t858, A60, H⟩ := H
      replace H : (if t858 = true then (some (mx 0 (wrap64 (a0_1 - a1_1)))) else (some 0)) = some r := H
      have A6 := Aside0.mk A60
      clear A60
      by_cases c7 : t858 = true
      · subst c7
        have H1 : (some (mx 0 (wrap64 (a0_1 - a1_1)))) = some r := by rw [if_pos rfl] at H; exact H
        clear H
        have H := H1
        clear H1
        obtain ⟨ji8, hji8⟩ : ∃ j_ : Int, (mx 0 (wrap64 (a0_1 - a1_1))) = j_ := ⟨_, rfl⟩
        replace H : (some ji8) = some r := by first | (rw [hji8] at H; exact H) | (simp only [hji8] at H ⊢; exact H)
        (try rw [hji8] at A3)
        (try rw [hji8] at A6)
        (try (have hji8l : 0 ≤ ji8 := by (rw [← hji8]; unfold mx; (repeat' split) <;> omega)))
        (try (have hji8m : 0 ≤ ji8 := by omega))
        have hji8_ : (if 0 < (wrap64 (a0_1 - a1_1)) then (wrap64 (a0_1 - a1_1)) else 0) = ji8 := hji8
        obtain rfl := Option.some.inj H
        go_enter Try.func55, Try.ntmps55
        go_wp2_with (first | ((with_reducible refine gate_dst (N := 2) rfl ?_); refine box_event ?hg (N := 2) ?hd (cs := #[.bool true, .int .i64 a0_1]) (t := 66) ?hr ?_; (case hd => rfl); (case hg => rfl); (case hr => first | (go_simp; done) | (go_simp; rfl)); intro gb855 hg w9 hbox hb; have n0_ := Aside0.mk (below_step (hb_ HB.out) hb); have n1_ := Aside0.mk (hbox); have n2_ := Aside0.mk ((by rw [hg]; exact (below_size (hb_ HB.out)) : w.heap.size ≤ gb855)); have n3_ := Aside0.mk ((by rw [hg]; exact (below_size (hb_ HB.out)) : w.heap.size ≤ gb855)); clear HB; have HB := n0_; have BK855 := n1_; have GW855 := n2_; have GE855 := n3_; clear n0_ n1_ n2_ n3_; clear hb hbox hg) | ((with_reducible refine gate_dst (N := 3) rfl ?_); refine box_event ?hg (N := 3) ?hd (cs := #[.int .i64 a1_0, .int .i64 a1_1]) (t := 81) ?hr ?_; (case hd => rfl); (case hg => rfl); (case hr => first | (go_simp; done) | (go_simp; rfl)); intro gb856 hg w10 hbox hb; have n0_ := Aside0.mk (bb_ BK855.out hb); have n1_ := Aside0.mk (below_step (hb1_ HB.out GE855.out) hb); have n2_ := Aside0.mk (hbox); have n3_ := Aside0.mk ((by rw [hg]; exact (below_size (hb1_ HB.out GE855.out)) : w.heap.size ≤ gb856)); have n4_ := Aside0.mk ((by rw [hg]; exact (below_size (hb1_ HB.out GE855.out)) : w.heap.size ≤ gb856)); have n5_ := Aside0.mk ((bl_ hg BK855.out : gb855 ≠ gb856)); have n6_ := Aside0.mk ((bg_ hg BK855.out : gb856 ≠ gb855)); clear BK855; clear HB; have BK855 := n0_; have HB := n1_; have BK856 := n2_; have GW856 := n3_; have GE856 := n4_; have NB855_856 := n5_; have NB856_855 := n6_; clear n0_ n1_ n2_ n3_ n4_ n5_ n6_; clear hb hbox hg; have hnb11 := NB855_856.out; have hnc11 := NB856_855.out; have hcz12_0 := bc_ BK855.out 0 (.bool true) rfl; have hcz12_1 := bc_ BK855.out 1 (.int .i64 a0_1) rfl; have hfz12_0 := blk_frozen BK855.out 0; have hfz12_1 := blk_frozen BK855.out 1) | ((with_reducible refine gate_callee (f := 51) rfl ?_); refine goesL_ (some 6) rfl rfl Try.func51 (by kernel_rfl) rfl #[.agg #[.bool true, .int .i64 a0_1]] rfl arr_ ?_; (with_reducible refine (impl_AppOk.calls true a0_1 true _ A3.out).mono ?_); rintro e w13 ⟨rfl, hb⟩; refine ⟨_, rfl, ?_⟩; have n0_ := Aside0.mk (bb_ BK855.out hb); have n1_ := Aside0.mk (bb_ BK856.out hb); have n2_ := Aside0.mk (below_step (hb2_ HB.out GE855.out GE856.out) hb); clear BK855; clear BK856; clear HB; have BK855 := n0_; have BK856 := n1_; have HB := n2_; clear n0_ n1_ n2_; (try clear hb); (try clear hb2); (try clear hk); (try clear hi); have hcz14_0 := bc_ BK855.out 0 (.bool true) rfl; have hcz14_1 := bc_ BK855.out 1 (.int .i64 a0_1) rfl; have hfz14_0 := blk_frozen BK855.out 0; have hfz14_1 := blk_frozen BK855.out 1; have hcz15_0 := bc_ BK856.out 0 (.int .i64 a1_0) rfl; have hcz15_1 := bc_ BK856.out 1 (.int .i64 a1_1) rfl; have hfz15_0 := blk_frozen BK856.out 0; have hfz15_1 := blk_frozen BK856.out 1) | (go_at_call 94; (with_reducible refine (impl_IvalOk.calls a1_0 a1_1 true _ A6.out).mono ?_); rintro e w16 ⟨rfl, hb⟩; have n0_ := Aside0.mk (bb_ BK855.out hb); have n1_ := Aside0.mk (bb_ BK856.out hb); have n2_ := Aside0.mk (below_step (hb2_ HB.out GE855.out GE856.out) hb); clear BK855; clear BK856; clear HB; have BK855 := n0_; have BK856 := n1_; have HB := n2_; clear n0_ n1_ n2_; (try clear hb); (try clear hb2); (try clear hk); (try clear hi); have hcz17_0 := bc_ BK855.out 0 (.bool true) rfl; have hcz17_1 := bc_ BK855.out 1 (.int .i64 a0_1) rfl; have hfz17_0 := blk_frozen BK855.out 0; have hfz17_1 := blk_frozen BK855.out 1; have hcz18_0 := bc_ BK856.out 0 (.int .i64 a1_0) rfl; have hcz18_1 := bc_ BK856.out 1 (.int .i64 a1_1) rfl; have hfz18_0 := blk_frozen BK856.out 0; have hfz18_1 := blk_frozen BK856.out 1))
        go_ret
        exact ⟨by first | rfl | (simp [errW_none, errW_some] <;> rfl) | (simp only [← hji8]; first | rfl | (simp [errW_none, errW_some] <;> rfl)) | (simp [*, errW_none, errW_some] <;> rfl), hb2_ HB.out GE855.out GE856.out⟩
      · replace c7 := Bool.eq_false_iff.mpr c7
        subst c7
        have H1 : (some 0) = some r := by rw [if_neg (show ¬ (false = true) by decide)] at H; exact H
        clear H
        have H := H1
        clear H1
        obtain rfl := Option.some.inj H
        go_enter Try.func55, Try.ntmps55
        go_wp2_with (first | ((with_reducible refine gate_dst (N := 2) rfl ?_); refine box_event ?hg (N := 2) ?hd (cs := #[.bool true, .int .i64 a0_1]) (t := 66) ?hr ?_; (case hd => rfl); (case hg => rfl); (case hr => first | (go_simp; done) | (go_simp; rfl)); intro gb855 hg w19 hbox hb; have n0_ := Aside0.mk (below_step (hb_ HB.out) hb); have n1_ := Aside0.mk (hbox); have n2_ := Aside0.mk ((by rw [hg]; exact (below_size (hb_ HB.out)) : w.heap.size ≤ gb855)); have n3_ := Aside0.mk ((by rw [hg]; exact (below_size (hb_ HB.out)) : w.heap.size ≤ gb855)); clear HB; have HB := n0_; have BK855 := n1_; have GW855 := n2_; have GE855 := n3_; clear n0_ n1_ n2_ n3_; clear hb hbox hg) | ((with_reducible refine gate_dst (N := 3) rfl ?_); refine box_event ?hg (N := 3) ?hd (cs := #[.int .i64 a1_0, .int .i64 a1_1]) (t := 81) ?hr ?_; (case hd => rfl); (case hg => rfl); (case hr => first | (go_simp; done) | (go_simp; rfl)); intro gb856 hg w20 hbox hb; have n0_ := Aside0.mk (bb_ BK855.out hb); have n1_ := Aside0.mk (below_step (hb1_ HB.out GE855.out) hb); have n2_ := Aside0.mk (hbox); have n3_ := Aside0.mk ((by rw [hg]; exact (below_size (hb1_ HB.out GE855.out)) : w.heap.size ≤ gb856)); have n4_ := Aside0.mk ((by rw [hg]; exact (below_size (hb1_ HB.out GE855.out)) : w.heap.size ≤ gb856)); have n5_ := Aside0.mk ((bl_ hg BK855.out : gb855 ≠ gb856)); have n6_ := Aside0.mk ((bg_ hg BK855.out : gb856 ≠ gb855)); clear BK855; clear HB; have BK855 := n0_; have HB := n1_; have BK856 := n2_; have GW856 := n3_; have GE856 := n4_; have NB855_856 := n5_; have NB856_855 := n6_; clear n0_ n1_ n2_ n3_ n4_ n5_ n6_; clear hb hbox hg; have hnb21 := NB855_856.out; have hnc21 := NB856_855.out; have hcz22_0 := bc_ BK855.out 0 (.bool true) rfl; have hcz22_1 := bc_ BK855.out 1 (.int .i64 a0_1) rfl; have hfz22_0 := blk_frozen BK855.out 0; have hfz22_1 := blk_frozen BK855.out 1) | ((with_reducible refine gate_callee (f := 51) rfl ?_); refine goesL_ (some 6) rfl rfl Try.func51 (by kernel_rfl) rfl #[.agg #[.bool true, .int .i64 a0_1]] rfl arr_ ?_; (with_reducible refine (impl_AppOk.calls true a0_1 true _ A3.out).mono ?_); rintro e w23 ⟨rfl, hb⟩; refine ⟨_, rfl, ?_⟩; have n0_ := Aside0.mk (bb_ BK855.out hb); have n1_ := Aside0.mk (bb_ BK856.out hb); have n2_ := Aside0.mk (below_step (hb2_ HB.out GE855.out GE856.out) hb); clear BK855; clear BK856; clear HB; have BK855 := n0_; have BK856 := n1_; have HB := n2_; clear n0_ n1_ n2_; (try clear hb); (try clear hb2); (try clear hk); (try clear hi); have hcz24_0 := bc_ BK855.out 0 (.bool true) rfl; have hcz24_1 := bc_ BK855.out 1 (.int .i64 a0_1) rfl; have hfz24_0 := blk_frozen BK855.out 0; have hfz24_1 := blk_frozen BK855.out 1; have hcz25_0 := bc_ BK856.out 0 (.int .i64 a1_0) rfl; have hcz25_1 := bc_ BK856.out 1 (.int .i64 a1_1) rfl; have hfz25_0 := blk_frozen BK856.out 0; have hfz25_1 := blk_frozen BK856.out 1) | (go_at_call 94; (with_reducible refine (impl_IvalOk.calls a1_0 a1_1 false _ A6.out).mono ?_); rintro e w26 ⟨rfl, hb⟩; have n0_ := Aside0.mk (bb_ BK855.out hb); have n1_ := Aside0.mk (bb_ BK856.out hb); have n2_ := Aside0.mk (below_step (hb2_ HB.out GE855.out GE856.out) hb); clear BK855; clear BK856; clear HB; have BK855 := n0_; have BK856 := n1_; have HB := n2_; clear n0_ n1_ n2_; (try clear hb); (try clear hb2); (try clear hk); (try clear hi)))
        go_ret
        exact ⟨er_, hb2_ HB.out GE855.out GE856.out⟩
    · replace c5 := Bool.eq_false_iff.mpr c5
      subst c5
      have H1 : (some 0) = some r := by rw [if_neg (show ¬ (false = true) by decide)] at H; exact H
      clear H
      have H := H1
      clear H1
      obtain rfl := Option.some.inj H
      go_enter Try.func55, Try.ntmps55
      go_wp2_with (first | ((with_reducible refine gate_dst (N := 2) rfl ?_); refine box_event ?hg (N := 2) ?hd (cs := #[.bool false, .int .i64 a0_1]) (t := 66) ?hr ?_; (case hd => rfl); (case hg => rfl); (case hr => first | (go_simp; done) | (go_simp; rfl)); intro gb855 hg w27 hbox hb; have n0_ := Aside0.mk (below_step (hb_ HB.out) hb); have n1_ := Aside0.mk (hbox); have n2_ := Aside0.mk ((by rw [hg]; exact (below_size (hb_ HB.out)) : w.heap.size ≤ gb855)); have n3_ := Aside0.mk ((by rw [hg]; exact (below_size (hb_ HB.out)) : w.heap.size ≤ gb855)); clear HB; have HB := n0_; have BK855 := n1_; have GW855 := n2_; have GE855 := n3_; clear n0_ n1_ n2_ n3_; clear hb hbox hg) | ((with_reducible refine gate_dst (N := 3) rfl ?_); refine box_event ?hg (N := 3) ?hd (cs := #[.int .i64 a1_0, .int .i64 a1_1]) (t := 81) ?hr ?_; (case hd => rfl); (case hg => rfl); (case hr => first | (go_simp; done) | (go_simp; rfl)); intro gb856 hg w28 hbox hb; have n0_ := Aside0.mk (bb_ BK855.out hb); have n1_ := Aside0.mk (below_step (hb1_ HB.out GE855.out) hb); have n2_ := Aside0.mk (hbox); have n3_ := Aside0.mk ((by rw [hg]; exact (below_size (hb1_ HB.out GE855.out)) : w.heap.size ≤ gb856)); have n4_ := Aside0.mk ((by rw [hg]; exact (below_size (hb1_ HB.out GE855.out)) : w.heap.size ≤ gb856)); have n5_ := Aside0.mk ((bl_ hg BK855.out : gb855 ≠ gb856)); have n6_ := Aside0.mk ((bg_ hg BK855.out : gb856 ≠ gb855)); clear BK855; clear HB; have BK855 := n0_; have HB := n1_; have BK856 := n2_; have GW856 := n3_; have GE856 := n4_; have NB855_856 := n5_; have NB856_855 := n6_; clear n0_ n1_ n2_ n3_ n4_ n5_ n6_; clear hb hbox hg; have hnb29 := NB855_856.out; have hnc29 := NB856_855.out; have hcz30_0 := bc_ BK855.out 0 (.bool false) rfl; have hcz30_1 := bc_ BK855.out 1 (.int .i64 a0_1) rfl; have hfz30_0 := blk_frozen BK855.out 0; have hfz30_1 := blk_frozen BK855.out 1) | ((with_reducible refine gate_callee (f := 51) rfl ?_); refine goesL_ (some 6) rfl rfl Try.func51 (by kernel_rfl) rfl #[.agg #[.bool false, .int .i64 a0_1]] rfl arr_ ?_; (with_reducible refine (impl_AppOk.calls false a0_1 true _ A3.out).mono ?_); rintro e w31 ⟨rfl, hb⟩; refine ⟨_, rfl, ?_⟩; have n0_ := Aside0.mk (bb_ BK855.out hb); have n1_ := Aside0.mk (bb_ BK856.out hb); have n2_ := Aside0.mk (below_step (hb2_ HB.out GE855.out GE856.out) hb); clear BK855; clear BK856; clear HB; have BK855 := n0_; have BK856 := n1_; have HB := n2_; clear n0_ n1_ n2_; (try clear hb); (try clear hb2); (try clear hk); (try clear hi); have hcz32_0 := bc_ BK855.out 0 (.bool false) rfl; have hcz32_1 := bc_ BK855.out 1 (.int .i64 a0_1) rfl; have hfz32_0 := blk_frozen BK855.out 0; have hfz32_1 := blk_frozen BK855.out 1))
      go_ret
      exact ⟨er_, hb2_ HB.out GE855.out GE856.out⟩
  · replace c4 := Bool.eq_false_iff.mpr c4
    subst c4
    have H1 : (some 0) = some r := by rw [if_neg (show ¬ (false = true) by decide)] at H; exact H
    clear H
    have H := H1
    clear H1
    obtain rfl := Option.some.inj H
    go_enter Try.func55, Try.ntmps55
    go_wp2_with (first | ((with_reducible refine gate_dst (N := 2) rfl ?_); refine box_event ?hg (N := 2) ?hd (cs := #[.bool a0_0, .int .i64 a0_1]) (t := 66) ?hr ?_; (case hd => rfl); (case hg => rfl); (case hr => first | (go_simp; done) | (go_simp; rfl)); intro gb855 hg w33 hbox hb; have n0_ := Aside0.mk (below_step (hb_ HB.out) hb); have n1_ := Aside0.mk (hbox); have n2_ := Aside0.mk ((by rw [hg]; exact (below_size (hb_ HB.out)) : w.heap.size ≤ gb855)); have n3_ := Aside0.mk ((by rw [hg]; exact (below_size (hb_ HB.out)) : w.heap.size ≤ gb855)); clear HB; have HB := n0_; have BK855 := n1_; have GW855 := n2_; have GE855 := n3_; clear n0_ n1_ n2_ n3_; clear hb hbox hg) | ((with_reducible refine gate_dst (N := 3) rfl ?_); refine box_event ?hg (N := 3) ?hd (cs := #[.int .i64 a1_0, .int .i64 a1_1]) (t := 81) ?hr ?_; (case hd => rfl); (case hg => rfl); (case hr => first | (go_simp; done) | (go_simp; rfl)); intro gb856 hg w34 hbox hb; have n0_ := Aside0.mk (bb_ BK855.out hb); have n1_ := Aside0.mk (below_step (hb1_ HB.out GE855.out) hb); have n2_ := Aside0.mk (hbox); have n3_ := Aside0.mk ((by rw [hg]; exact (below_size (hb1_ HB.out GE855.out)) : w.heap.size ≤ gb856)); have n4_ := Aside0.mk ((by rw [hg]; exact (below_size (hb1_ HB.out GE855.out)) : w.heap.size ≤ gb856)); have n5_ := Aside0.mk ((bl_ hg BK855.out : gb855 ≠ gb856)); have n6_ := Aside0.mk ((bg_ hg BK855.out : gb856 ≠ gb855)); clear BK855; clear HB; have BK855 := n0_; have HB := n1_; have BK856 := n2_; have GW856 := n3_; have GE856 := n4_; have NB855_856 := n5_; have NB856_855 := n6_; clear n0_ n1_ n2_ n3_ n4_ n5_ n6_; clear hb hbox hg; have hnb35 := NB855_856.out; have hnc35 := NB856_855.out; have hcz36_0 := bc_ BK855.out 0 (.bool a0_0) rfl; have hcz36_1 := bc_ BK855.out 1 (.int .i64 a0_1) rfl; have hfz36_0 := blk_frozen BK855.out 0; have hfz36_1 := blk_frozen BK855.out 1) | ((with_reducible refine gate_callee (f := 51) rfl ?_); refine goesL_ (some 6) rfl rfl Try.func51 (by kernel_rfl) rfl #[.agg #[.bool a0_0, .int .i64 a0_1]] rfl arr_ ?_; (with_reducible refine (impl_AppOk.calls a0_0 a0_1 false _ A3.out).mono ?_); rintro e w37 ⟨rfl, hb⟩; refine ⟨_, rfl, ?_⟩; have n0_ := Aside0.mk (bb_ BK855.out hb); have n1_ := Aside0.mk (bb_ BK856.out hb); have n2_ := Aside0.mk (below_step (hb2_ HB.out GE855.out GE856.out) hb); clear BK855; clear BK856; clear HB; have BK855 := n0_; have BK856 := n1_; have HB := n2_; clear n0_ n1_ n2_; (try clear hb); (try clear hb2); (try clear hk); (try clear hi)))
    go_ret
    exact ⟨er_, hb2_ HB.out GE855.out GE856.out⟩
end Go.Proofs.Ytcgdnfaclbnflaa.P
