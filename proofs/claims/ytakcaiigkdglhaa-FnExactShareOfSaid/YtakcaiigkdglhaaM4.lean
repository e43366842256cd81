/- Texts of the seat's proofs, part 4: functions of the program told as plain functions, with their contracts, and what is shown of them. No condition. -/
import Derived.Test.YtakcaiigkdglhaaU
import Derived.Test.YtakcaiigkdglhaaM1
import Derived.Test.YtakcaiigkdglhaaM2
import Derived.Test.YtakcaiigkdglhaaM3
import Derived.Deep.Slices
import Derived.ProofKit
import Derived.OpenShut
set_option linter.unusedVariables false
set_option linter.unusedSimpArgs false
namespace Go.Proofs.Ytakcaiigkdglhaa.P
open Go.RowKit Go.Proofs.YtakcaiigkdglhaaW.PrintWords Go.Proofs.YtakcaiigkdglhaaW.PrintLast Go.Proofs.YtakcaiigkdglhaaW.PrintMore
attribute [local go_sem] max2_int min2_int max_two min_two max_three min_three max_four min_four
set_option linter.unusedVariables false
set_option linter.unusedSimpArgs false
mutual
def impl_SlotAt.j0 : Nat → Int → Bool → Int → Int → List (S60) → Option (Int × Int × Bool)
  | 0, _, _, _, _, _ => none
  | k + 1, x1, x26, x390000, x390001, x390002 => if x26 = true then (some (0, 0, false)) else ((impl_Plan_round.f k x390000 x390001 x390002).bind fun t392 => (if t392 = 0 then (none) else ((impl_Plan_round.f k x390000 x390001 x390002).bind fun t393 => (if t393 = 0 then (none) else (impl_SlotAt.l0 k (wrap64 (Int.tdiv (wrap64 (x1 - x390000)) t392)) (Int.tmod (wrap64 (x1 - x390000)) t393) x390002 (x390002.length : Int) 0 x390000 x390001 x390002)))))
def impl_SlotAt.l0 : Nat → Int → Int → List (S60) → Int → Int → Int → Int → List (S60) → Option (Int × Int × Bool)
  | 0, _, _, _, _, _, _, _, _ => none
  | k + 1, x7, x8, x42, x43, x44, x390000, x390001, x390002 => if x44 < x43 then (if 0 ≤ x44 then (if x44 < (x42.length : Int) then ((impl_Plan_from.f k x390000 x390001 x390002 x44).bind fun t396 => ((impl_Plan_from.f k x390000 x390001 x390002 x44).bind fun t397 => ((impl_in.f x8 t396 (wrap64 ((wrap64 (t397 + ((rd_T60 x42 x44).f1))) - 1))).bind fun t398 => (if t398 = true then ((impl_Occurrence.f k x390000 x390001 x390002 x44 x7).bind fun bt399 => (if bt399.2.2 = true then (some (x44, x7, true)) else (some (0, 0, false)))) else (impl_SlotAt.l0 k x7 x8 x42 x43 (wrap64 (x44 + 1)) x390000 x390001 x390002))))) else (none)) else (none)) else (some (0, 0, false))
end
def impl_SlotAt.f (k : Nat) (a0_0 : Int) (a0_1 : Int) (l0_2 : List (S60)) (a1 : Int) : Option (Int × Int × Bool) := (impl_PlanOk.f k a0_0 a0_1 l0_2).bind fun t390 => (if t390 = true then ((impl_isTime.f a1).bind fun t391 => (if t391 = true then (impl_SlotAt.j0 k a1 (decide (a1 < a0_0)) a0_0 a0_1 l0_2) else (impl_SlotAt.j0 k a1 true a0_0 a0_1 l0_2))) else (impl_SlotAt.j0 k a1 true a0_0 a0_1 l0_2))
theorem impl_SlotAt.mono_l : ∀ k, (∀ y0 y1 y2 y3 y4, LeO (impl_SlotAt.j0 k y0 y1 y2 y3 y4) (impl_SlotAt.j0 (k + 1) y0 y1 y2 y3 y4)) ∧ (∀ y0 y1 y2 y3 y4 y5 y6 y7, LeO (impl_SlotAt.l0 k y0 y1 y2 y3 y4 y5 y6 y7) (impl_SlotAt.l0 (k + 1) y0 y1 y2 y3 y4 y5 y6 y7))
  | 0 => ⟨fun _ _ _ _ _ r h => by simp [impl_SlotAt.j0] at h, fun _ _ _ _ _ _ _ _ r h => by simp [impl_SlotAt.l0] at h⟩
  | k + 1 => by
    obtain ⟨ih0, ih1⟩ := impl_SlotAt.mono_l k
    refine ⟨?_, ?_⟩
    · intro y0 y1 y2 y3 y4
      unfold impl_SlotAt.j0
      repeat' first
      | (with_reducible exact ih0 _ _ _ _ _)
      | (with_reducible exact ih1 _ _ _ _ _ _ _ _)
      | (with_reducible exact impl_Occurrence.mono _ _ _ _ _ _)
      | (with_reducible exact impl_PlanOk.mono _ _ _ _)
      | (with_reducible exact impl_Plan_from.mono _ _ _ _ _)
      | (with_reducible exact impl_Plan_round.mono _ _ _ _)
      | (with_reducible exact LeO.refl _)
      | (with_reducible exact LeO.none _)
      | (with_reducible refine LeO.ite ?_ ?_)
      | (with_reducible refine LeO.bind ?_ (fun _ => ?_))
      | exact ih0 _ _ _ _ _
      | exact ih1 _ _ _ _ _ _ _ _
      | exact impl_Occurrence.mono _ _ _ _ _ _
      | exact impl_PlanOk.mono _ _ _ _
      | exact impl_Plan_from.mono _ _ _ _ _
      | exact impl_Plan_round.mono _ _ _ _
      | exact LeO.none _
      | refine LeO.ite ?_ ?_
      | refine LeO.bind ?_ (fun _ => ?_)
    · intro y0 y1 y2 y3 y4 y5 y6 y7
      unfold impl_SlotAt.l0
      repeat' first
      | (with_reducible exact ih0 _ _ _ _ _)
      | (with_reducible exact ih1 _ _ _ _ _ _ _ _)
      | (with_reducible exact impl_Occurrence.mono _ _ _ _ _ _)
      | (with_reducible exact impl_PlanOk.mono _ _ _ _)
      | (with_reducible exact impl_Plan_from.mono _ _ _ _ _)
      | (with_reducible exact impl_Plan_round.mono _ _ _ _)
      | (with_reducible exact LeO.refl _)
      | (with_reducible exact LeO.none _)
      | (with_reducible refine LeO.ite ?_ ?_)
      | (with_reducible refine LeO.bind ?_ (fun _ => ?_))
      | exact ih0 _ _ _ _ _
      | exact ih1 _ _ _ _ _ _ _ _
      | exact impl_Occurrence.mono _ _ _ _ _ _
      | exact impl_PlanOk.mono _ _ _ _
      | exact impl_Plan_from.mono _ _ _ _ _
      | exact impl_Plan_round.mono _ _ _ _
      | exact LeO.none _
      | refine LeO.ite ?_ ?_
      | refine LeO.bind ?_ (fun _ => ?_)
theorem impl_SlotAt.mono : ∀ a0 a1 a2 a3 k, LeO (impl_SlotAt.f k a0 a1 a2 a3) (impl_SlotAt.f (k + 1) a0 a1 a2 a3) := by
  intro a0 a1 a2 a3 k
  obtain ⟨ih0, ih1⟩ := impl_SlotAt.mono_l k
  unfold impl_SlotAt.f
  repeat' first
      | (with_reducible exact ih0 _ _ _ _ _)
      | (with_reducible exact ih1 _ _ _ _ _ _ _ _)
      | (with_reducible exact impl_Occurrence.mono _ _ _ _ _ _)
      | (with_reducible exact impl_PlanOk.mono _ _ _ _)
      | (with_reducible exact impl_Plan_from.mono _ _ _ _ _)
      | (with_reducible exact impl_Plan_round.mono _ _ _ _)
      | (with_reducible exact LeO.refl _)
      | (with_reducible exact LeO.none _)
      | (with_reducible refine LeO.ite ?_ ?_)
      | (with_reducible refine LeO.bind ?_ (fun _ => ?_))
      | exact ih0 _ _ _ _ _
      | exact ih1 _ _ _ _ _ _ _ _
      | exact impl_Occurrence.mono _ _ _ _ _ _
      | exact impl_PlanOk.mono _ _ _ _
      | exact impl_Plan_from.mono _ _ _ _ _
      | exact impl_Plan_round.mono _ _ _ _
      | exact LeO.none _
      | refine LeO.ite ?_ ?_
      | refine LeO.bind ?_ (fun _ => ?_)
def impl_SlotAt.T3 : Bool × List (List Nat × List Nat) := (true, [([], []), ([], []), ([1], [1]), ([0, 2], [0, 2]), ([], []), ([4], [4]), ([3, 5], [3, 5]), ([], []), ([], []), ([8], [8]), ([7, 9], [7, 9]), ([], []), ([11, 5], [11]), ([10, 12], [10, 12]), ([6, 12, 0, 1, 2, 3, 4, 5, 6], [6]), ([13, 14, 0, 1, 2, 3, 4, 5, 6, 7, 8, 9, 10, 11, 12, 13, 14], [13])])
def impl_SlotAt.B3 : List Nat := [0, 0, 2, 7, 0, 16, 63, 0, 0, 256, 896, 0, 2096, 8112, 6271, 32767]
theorem impl_SlotAt.tab3 : rtab .any (opsOf Try.f28 3) = impl_SlotAt.T3 := by kernel_rfl
theorem impl_SlotAt.bits3 : waitsOk impl_SlotAt.T3.2 impl_SlotAt.B3 = true := by kernel_rfl
def impl_SlotAt.T7 : Bool × List (List Nat × List Nat) := (true, [([], []), ([], []), ([], []), ([1, 2], [1, 2]), ([], []), ([], []), ([4, 5, 3], [4, 5]), ([], []), ([7], [7]), ([6, 8], [6, 8]), ([9], [9]), ([0, 3, 10, 6], [0, 3, 10])])
def impl_SlotAt.B7 : List Nat := [0, 0, 0, 6, 0, 0, 62, 0, 128, 510, 1022, 2047]
theorem impl_SlotAt.tab7 : rtab .any (opsOf Try.f28 7) = impl_SlotAt.T7 := by kernel_rfl
theorem impl_SlotAt.bits7 : waitsOk impl_SlotAt.T7.2 impl_SlotAt.B7 = true := by kernel_rfl
set_option maxHeartbeats 8000000 in
set_option maxRecDepth 100000 in
theorem impl_SlotAt.calls (k : Nat) (a0_0 : Int) (a0_1 : Int) (A0_2 : Option Addr) (c0_2 : Nat) (l0_2 : List (S60)) (a1 : Int) (r1 : Int) (r2 : Int) (r3 : Bool) (w : World) (hr0_2 : Kd.C k60 w A0_2 l0_2.length l0_2) (hc0_2 : l0_2.length ≤ c0_2) (h : impl_SlotAt.f k a0_0 a0_1 l0_2 a1 = some (r1, r2, r3)) :
    Calls Try.prog 28 #[.agg #[.int .i64 a0_0, .int .i64 a0_1, .slice A0_2 l0_2.length c0_2], .int .i64 a1] w fun e w' => e = .returned (.tuple #[.int .i64 r1, .int .i64 r2, .bool r3]) ∧ Below w.heap.size w w' := by
  have hu29 := Try.underlying29
  have hu60 := Try.underlying60
  have hu40 := Try.underlying40
  have HR0_2 := Aside0.mk hr0_2
  have HC0_2 := Aside0.mk hc0_2
  clear hr0_2 hc0_2
  have HB := Aside0.mk (Below.refl w.heap.size w)
  have H : ((impl_PlanOk.f k a0_0 a0_1 l0_2).bind fun t390 => (if t390 = true then ((impl_isTime.f a1).bind fun t391 => (if t391 = true then (impl_SlotAt.j0 k a1 (decide (a1 < a0_0)) a0_0 a0_1 l0_2) else (impl_SlotAt.j0 k a1 true a0_0 a0_1 l0_2))) else (impl_SlotAt.j0 k a1 true a0_0 a0_1 l0_2))) = some (r1, r2, r3) := h
  clear h
  have HC3 := Aside0.mk H
  clear H
  go_enter Try.func28, Try.ntmps28
  go_upto_region 1 with (first | ((with_reducible refine gate_dst (N := 2) rfl ?_); refine box_event ?hg (N := 2) ?hd (cs := #[.int .i64 a0_0, .int .i64 a0_1, .slice A0_2 l0_2.length c0_2]) (t := 29) ?hr ?_; (case hd => rfl); (case hg => rfl); (case hr => first | (go_simp; done) | (go_simp; rfl)); intro gb389 hg w4 hbox hb; have n0_ := Aside0.mk (below_step (hb_ HB.out) hb); have n1_ := Aside0.mk (hbox); have n2_ := Aside0.mk ((by rw [hg]; exact (below_size (hb_ HB.out)) : w.heap.size ≤ gb389)); have n3_ := Aside0.mk ((by rw [hg]; exact (below_size (hb_ HB.out)) : w.heap.size ≤ gb389)); clear HB; have HB := n0_; have BK389 := n1_; have GW389 := n2_; have GE389 := n3_; clear n0_ n1_ n2_ n3_; clear hb hbox hg))
  (try simp only [Act.put, List.setIfInBounds_toArray, List.set_cons_zero, List.set_cons_succ])
  go_cut [26] (fun v26 wc => ∃ (kq : Nat) (x26_2 : Bool), v26 = .bool x26_2 ∧ Aside0 (impl_SlotAt.j0 kq a1 x26_2 a0_0 a0_1 l0_2 = some (r1, r2, r3)) ∧ Aside0 (kq ≤ k) ∧ Aside0 (wc.heap[gb389]? = some (.cells #[.int .i64 a0_0, .int .i64 a0_1, (.slice A0_2 l0_2.length c0_2)] 29 (0, 0))) ∧ Aside0 (Below w.heap.size w wc))
  case first =>
    have H := HC3.out
    clear HC3
    replace H := Option.bind_eq_some_iff.mp H
    obtain ⟨t390, A50, H⟩ := H
    replace H : (if t390 = true then ((impl_isTime.f a1).bind fun t391 => (if t391 = true then (impl_SlotAt.j0 k a1 (decide (a1 < a0_0)) a0_0 a0_1 l0_2) else (impl_SlotAt.j0 k a1 true a0_0 a0_1 l0_2))) else (impl_SlotAt.j0 k a1 true a0_0 a0_1 l0_2)) = some (r1, r2, r3) := H
    have A5 := Aside0.mk A50
    clear A50
    by_cases c6 : t390 = true
    · subst c6
      have H1 : ((impl_isTime.f a1).bind fun t391 => (if t391 = true then (impl_SlotAt.j0 k a1 (decide (a1 < a0_0)) a0_0 a0_1 l0_2) else (impl_SlotAt.j0 k a1 true a0_0 a0_1 l0_2))) = some (r1, r2, r3) := by rw [if_pos rfl] at H; exact H
      clear H
      have H := H1
      clear H1
      replace H := Option.bind_eq_some_iff.mp H
      obtain ⟨t391, A70, H⟩ := H
      replace H : (if t391 = true then (impl_SlotAt.j0 k a1 (decide (a1 < a0_0)) a0_0 a0_1 l0_2) else (impl_SlotAt.j0 k a1 true a0_0 a0_1 l0_2)) = some (r1, r2, r3) := H
      have A7 := Aside0.mk A70
      clear A70
      by_cases c8 : t391 = true
      · subst c8
        have H1 : (impl_SlotAt.j0 k a1 (decide (a1 < a0_0)) a0_0 a0_1 l0_2) = some (r1, r2, r3) := by rw [if_pos rfl] at H; exact H
        clear H
        have H := H1
        clear H1
        have H' := Aside0.mk H
        clear H
        have hcz9_0 := bc_ BK389.out 0 (.int .i64 a0_0) rfl
        have hcz9_1 := bc_ BK389.out 1 (.int .i64 a0_1) rfl
        have hcz9_2 := bc_ BK389.out 2 (.slice A0_2 l0_2.length c0_2) rfl
        have hfz9_0 := blk_frozen BK389.out 0
        have hfz9_1 := blk_frozen BK389.out 1
        have hfz9_2 := blk_frozen BK389.out 2
        go_wp2_with (first | ((with_reducible refine gate_callee (f := 40) rfl ?_); refine goesL_ (some 14) rfl rfl Try.func40 (by kernel_rfl) rfl #[.agg #[.int .i64 a0_0, .int .i64 a0_1, .slice A0_2 l0_2.length c0_2]] rfl arr_ ?_; (with_reducible refine (impl_PlanOk.calls k a0_0 a0_1 _ _ l0_2 true _ ?side1 ?side2 A5.out).mono ?_); (case side1 => exact kc_ (Kd.C_below HR0_2.out HB.out)); (case side2 => exact HC0_2.out); rintro e w10 ⟨rfl, hb⟩; refine ⟨_, rfl, ?_⟩; have n0_ := Aside0.mk (bb_ BK389.out hb); have n1_ := Aside0.mk (below_step (hb1_ HB.out GE389.out) hb); clear BK389; clear HB; have BK389 := n0_; have HB := n1_; clear n0_ n1_; (try clear hb); (try clear hb2); (try clear hk); (try clear hi)) | (go_at_call 53; (with_reducible refine (impl_isTime.calls a1 true _ A7.out).mono ?_); rintro e w' ⟨rfl, ⟨nd, rfl⟩⟩; have hcz11_0 := bc_ BK389.out 0 (.int .i64 a0_0) rfl; have hcz11_1 := bc_ BK389.out 1 (.int .i64 a0_1) rfl; have hcz11_2 := bc_ BK389.out 2 (.slice A0_2 l0_2.length c0_2) rfl; have hfz11_0 := blk_frozen BK389.out 0; have hfz11_1 := blk_frozen BK389.out 1; have hfz11_2 := blk_frozen BK389.out 2))
        go_meet
        case rel => exact ⟨_, (decide (a1 < a0_0)), (by first | rfl | (simp; done) | (simp [*]; done)), H', ⟨by first | omega | exact Nat.le_refl _⟩, ⟨bk_ BK389.out⟩, ⟨hb1_ HB.out GE389.out⟩⟩
      · replace c8 := Bool.eq_false_iff.mpr c8
        subst c8
        have H1 : (impl_SlotAt.j0 k a1 true a0_0 a0_1 l0_2) = some (r1, r2, r3) := by rw [if_neg (show ¬ (false = true) by decide)] at H; exact H
        clear H
        have H := H1
        clear H1
        have H' := Aside0.mk H
        clear H
        have hcz12_0 := bc_ BK389.out 0 (.int .i64 a0_0) rfl
        have hcz12_1 := bc_ BK389.out 1 (.int .i64 a0_1) rfl
        have hcz12_2 := bc_ BK389.out 2 (.slice A0_2 l0_2.length c0_2) rfl
        have hfz12_0 := blk_frozen BK389.out 0
        have hfz12_1 := blk_frozen BK389.out 1
        have hfz12_2 := blk_frozen BK389.out 2
        go_wp2_with (first | ((with_reducible refine gate_callee (f := 40) rfl ?_); refine goesL_ (some 14) rfl rfl Try.func40 (by kernel_rfl) rfl #[.agg #[.int .i64 a0_0, .int .i64 a0_1, .slice A0_2 l0_2.length c0_2]] rfl arr_ ?_; (with_reducible refine (impl_PlanOk.calls k a0_0 a0_1 _ _ l0_2 true _ ?side1 ?side2 A5.out).mono ?_); (case side1 => exact kc_ (Kd.C_below HR0_2.out HB.out)); (case side2 => exact HC0_2.out); rintro e w13 ⟨rfl, hb⟩; refine ⟨_, rfl, ?_⟩; have n0_ := Aside0.mk (bb_ BK389.out hb); have n1_ := Aside0.mk (below_step (hb1_ HB.out GE389.out) hb); clear BK389; clear HB; have BK389 := n0_; have HB := n1_; clear n0_ n1_; (try clear hb); (try clear hb2); (try clear hk); (try clear hi)) | (go_at_call 53; (with_reducible refine (impl_isTime.calls a1 false _ A7.out).mono ?_); rintro e w' ⟨rfl, ⟨nd, rfl⟩⟩))
        go_meet
        case rel => exact ⟨_, (true), (by first | rfl | (simp; done) | (simp [*]; done)), H', ⟨by first | omega | exact Nat.le_refl _⟩, ⟨bk_ BK389.out⟩, ⟨hb1_ HB.out GE389.out⟩⟩
    · replace c6 := Bool.eq_false_iff.mpr c6
      subst c6
      have H1 : (impl_SlotAt.j0 k a1 true a0_0 a0_1 l0_2) = some (r1, r2, r3) := by rw [if_neg (show ¬ (false = true) by decide)] at H; exact H
      clear H
      have H := H1
      clear H1
      have H' := Aside0.mk H
      clear H
      have hcz14_0 := bc_ BK389.out 0 (.int .i64 a0_0) rfl
      have hcz14_1 := bc_ BK389.out 1 (.int .i64 a0_1) rfl
      have hcz14_2 := bc_ BK389.out 2 (.slice A0_2 l0_2.length c0_2) rfl
      have hfz14_0 := blk_frozen BK389.out 0
      have hfz14_1 := blk_frozen BK389.out 1
      have hfz14_2 := blk_frozen BK389.out 2
      go_wp2_with (first | ((with_reducible refine gate_callee (f := 40) rfl ?_); refine goesL_ (some 14) rfl rfl Try.func40 (by kernel_rfl) rfl #[.agg #[.int .i64 a0_0, .int .i64 a0_1, .slice A0_2 l0_2.length c0_2]] rfl arr_ ?_; (with_reducible refine (impl_PlanOk.calls k a0_0 a0_1 _ _ l0_2 false _ ?side1 ?side2 A5.out).mono ?_); (case side1 => exact kc_ (Kd.C_below HR0_2.out HB.out)); (case side2 => exact HC0_2.out); rintro e w15 ⟨rfl, hb⟩; refine ⟨_, rfl, ?_⟩; have n0_ := Aside0.mk (bb_ BK389.out hb); have n1_ := Aside0.mk (below_step (hb1_ HB.out GE389.out) hb); clear BK389; clear HB; have BK389 := n0_; have HB := n1_; clear n0_ n1_; (try clear hb); (try clear hb2); (try clear hk); (try clear hi)))
      go_meet
      case rel => exact ⟨_, (true), (by first | rfl | (simp; done) | (simp [*]; done)), H', ⟨by first | omega | exact Nat.le_refl _⟩, ⟨bk_ BK389.out⟩, ⟨hb1_ HB.out GE389.out⟩⟩
  case rest =>
    clear HC3
    try clear c2
    try clear p2
    try clear c4
    try clear c6
    try clear c8
    try clear hcz11_0
    try clear hcz11_1
    try clear hcz11_2
    try clear hcz12_0
    try clear hcz12_1
    try clear hcz12_2
    try clear hcz14_0
    try clear hcz14_1
    try clear hcz14_2
    try clear hcz9_0
    try clear hcz9_1
    try clear hcz9_2
    try clear hfz11_0
    try clear hfz11_1
    try clear hfz11_2
    try clear hfz12_0
    try clear hfz12_1
    try clear hfz12_2
    try clear hfz14_0
    try clear hfz14_1
    try clear hfz14_2
    try clear hfz9_0
    try clear hfz9_1
    try clear hfz9_2
    obtain ⟨kq, x26_2, rfl, HA, HJ2, BK389, HB⟩ := hcut
    cases kq with
    | zero => exact absurd HA.out (by simp [impl_SlotAt.j0])
    | succ kj2 =>
      have H := HA.out
      clear HA
      simp only [impl_SlotAt.j0] at H
      by_cases c16 : x26_2 = true
      · subst c16
        have H1 : (some (0, 0, false)) = some (r1, r2, r3) := by rw [if_pos rfl] at H; exact H
        clear H
        have H := H1
        clear H1
        simp only [Option.some.injEq, Prod.mk.injEq] at H
        obtain ⟨rfl, rfl, rfl⟩ := H
        go_wp2
        go_ret3
        exact ⟨er_, hb1_ HB.out GE389.out⟩
      · replace c16 := Bool.eq_false_iff.mpr c16
        subst c16
        have H1 : ((impl_Plan_round.f kj2 a0_0 a0_1 l0_2).bind fun t392 => (if t392 = 0 then (none) else ((impl_Plan_round.f kj2 a0_0 a0_1 l0_2).bind fun t393 => (if t393 = 0 then (none) else (impl_SlotAt.l0 kj2 (wrap64 (Int.tdiv (wrap64 (a1 - a0_0)) t392)) (Int.tmod (wrap64 (a1 - a0_0)) t393) l0_2 (l0_2.length : Int) 0 a0_0 a0_1 l0_2))))) = some (r1, r2, r3) := by rw [if_neg (show ¬ (false = true) by decide)] at H; exact H
        clear H
        have H := H1
        clear H1
        replace H := Option.bind_eq_some_iff.mp H
        obtain ⟨t392, A170, H⟩ := H
        replace H : (if t392 = 0 then (none) else ((impl_Plan_round.f kj2 a0_0 a0_1 l0_2).bind fun t393 => (if t393 = 0 then (none) else (impl_SlotAt.l0 kj2 (wrap64 (Int.tdiv (wrap64 (a1 - a0_0)) t392)) (Int.tmod (wrap64 (a1 - a0_0)) t393) l0_2 (l0_2.length : Int) 0 a0_0 a0_1 l0_2)))) = some (r1, r2, r3) := H
        have A17 := Aside0.mk A170
        clear A170
        by_cases c18 : t392 = 0
        · rw [if_pos c18] at H
          exact absurd H (by simp)
        · rw [if_neg c18] at H
          have c18b0 : (t392 == 0) = false := beq_eq_false_iff_ne.mpr c18
          have c18b1 : (t392 != 0) = true := bne_iff_ne.mpr c18
          replace H := Option.bind_eq_some_iff.mp H
          obtain ⟨t393, A190, H⟩ := H
          replace H : (if t393 = 0 then (none) else (impl_SlotAt.l0 kj2 (wrap64 (Int.tdiv (wrap64 (a1 - a0_0)) t392)) (Int.tmod (wrap64 (a1 - a0_0)) t393) l0_2 (l0_2.length : Int) 0 a0_0 a0_1 l0_2)) = some (r1, r2, r3) := H
          have A19 := Aside0.mk A190
          clear A190
          by_cases c20 : t393 = 0
          · rw [if_pos c20] at H
            exact absurd H (by simp)
          · rw [if_neg c20] at H
            have c20b0 : (t393 == 0) = false := beq_eq_false_iff_ne.mpr c20
            have c20b1 : (t393 != 0) = true := bne_iff_ne.mpr c20
            have H' := Aside0.mk H
            clear H
            try go_wp2
            have n0_ := Aside0.mk (blk_drew BK389.out)
            have n1_ := Aside0.mk (below_drew1 HB.out)
            clear BK389
            clear HB
            have BK389 := n0_
            have HB := n1_
            clear n0_ n1_
            refine start_ (n := 16) (S := fun w' => w'.cell? ⟨gb389, 0, none⟩ = some (.int .i64 a0_0) ∧ w'.cell? ⟨gb389, 1, none⟩ = some (.int .i64 a0_1) ∧ w'.cell? ⟨gb389, 2, none⟩ = some (.slice A0_2 l0_2.length c0_2)) (ds := []) #[false, false, false, false, false, false, false, false, false, false, false, false, false, false, false, false] (by kernel_rfl) rfl rfl ⟨(blk_cell BK389.out 0).trans rfl, (blk_cell BK389.out 1).trans rfl, (blk_cell BK389.out 2).trans rfl⟩ (fun hHeld => ?_); refine with_tabW impl_SlotAt.tab3 impl_SlotAt.bits3 (fun HT_ HW_ => ?_)
            generalize wc.drew = w21 at BK389 HB hHeld ⊢
            refine pure_ (i := 0) (N := some 27) (v := ?_) (a' := ?_) #[true, false, false, false, false, false, false, false, false, false, false, false, false, false, false, false] rfl rfl (any_of HT_.out (by kernel_rfl)) (fun _ _ _ h => h) (Or.inl ⟨by rfl, ?_⟩) ?_ ?_
            rotate_left
            · intro w'
              go_simp
              with_reducible rfl
            rotate_left
            · simp only [Act.put, List.setIfInBounds_toArray, List.set_cons_zero, List.set_cons_succ, i64_w, i32_w]
              rfl
            refine pure_ (i := 1) (N := some 28) (v := ?_) (a' := ?_) #[true, true, false, false, false, false, false, false, false, false, false, false, false, false, false, false] rfl rfl (any_of HT_.out (by kernel_rfl)) (fun _ _ _ h => h) (Or.inl ⟨by rfl, ?_⟩) ?_ ?_
            rotate_left
            · intro w'
              go_simp
              with_reducible rfl
            rotate_left
            · simp only [Act.put, List.setIfInBounds_toArray, List.set_cons_zero, List.set_cons_succ, i64_w, i32_w]
              rfl
            refine pure_ (i := 7) (N := some 34) (v := ?_) (a' := ?_) #[true, true, false, false, false, false, false, true, false, false, false, false, false, false, false, false] rfl rfl (any_of HT_.out (by kernel_rfl)) (fun _ _ _ h => h) (Or.inl ⟨by rfl, ?_⟩) ?_ ?_
            rotate_left
            · intro w'
              go_simp
              with_reducible rfl
            rotate_left
            · simp only [Act.put, List.setIfInBounds_toArray, List.set_cons_zero, List.set_cons_succ, i64_w, i32_w]
              rfl
            refine pure_ (i := 8) (N := some 35) (v := ?_) (a' := ?_) #[true, true, false, false, false, false, false, true, true, false, false, false, false, false, false, false] rfl rfl (any_of HT_.out (by kernel_rfl)) (fun _ _ _ h => h) (Or.inl ⟨by rfl, ?_⟩) ?_ ?_
            rotate_left
            · intro w'
              go_simp
              with_reducible rfl
            rotate_left
            · simp only [Act.put, List.setIfInBounds_toArray, List.set_cons_zero, List.set_cons_succ, i64_w, i32_w]
              rfl
            refine take_ (i := 2) (N := some 29) (v := ?_) (a' := ?_) #[true, true, true, false, false, false, false, true, true, false, false, false, false, false, false, false] rfl rfl (take_ofW HT_.out HW_.out (by kernel_rfl)) (fun _ _ _ h => h) (Or.inl ⟨by rfl, ?_⟩) hHeld ?_ ?_
            rotate_left
            · rintro w' ⟨s0, s1, s2⟩
              go_simp
              with_reducible rfl
            rotate_left
            · simp only [Act.put, List.setIfInBounds_toArray, List.set_cons_zero, List.set_cons_succ, i64_w, i32_w]
              rfl
            refine pure_ (i := 3) (N := some 30) (v := ?_) (a' := ?_) #[true, true, true, true, false, false, false, true, true, false, false, false, false, false, false, false] rfl rfl (any_of HT_.out (by kernel_rfl)) (fun _ _ _ h => h) (Or.inl ⟨by rfl, ?_⟩) ?_ ?_
            rotate_left
            · intro w'
              go_simp
              with_reducible rfl
            rotate_left
            · simp only [Act.put, List.setIfInBounds_toArray, List.set_cons_zero, List.set_cons_succ, i64_w, i32_w]
              rfl
            refine take_ (i := 4) (N := some 31) (v := ?_) (a' := ?_) #[true, true, true, true, true, false, false, true, true, false, false, false, false, false, false, false] rfl rfl (take_ofW HT_.out HW_.out (by kernel_rfl)) (fun _ _ _ h => h) (Or.inl ⟨by rfl, ?_⟩) hHeld ?_ ?_
            rotate_left
            · rintro w' ⟨s0, s1, s2⟩
              go_simp
              with_reducible rfl
            rotate_left
            · simp only [Act.put, List.setIfInBounds_toArray, List.set_cons_zero, List.set_cons_succ, i64_w, i32_w]
              rfl
            refine take_ (i := 9) (N := some 36) (v := ?_) (a' := ?_) #[true, true, true, true, true, false, false, true, true, true, false, false, false, false, false, false] rfl rfl (take_ofW HT_.out HW_.out (by kernel_rfl)) (fun _ _ _ h => h) (Or.inl ⟨by rfl, ?_⟩) hHeld ?_ ?_
            rotate_left
            · rintro w' ⟨s0, s1, s2⟩
              go_simp
              with_reducible rfl
            rotate_left
            · simp only [Act.put, List.setIfInBounds_toArray, List.set_cons_zero, List.set_cons_succ, i64_w, i32_w]
              rfl
            refine pure_ (i := 10) (N := some 37) (v := ?_) (a' := ?_) #[true, true, true, true, true, false, false, true, true, true, true, false, false, false, false, false] rfl rfl (any_of HT_.out (by kernel_rfl)) (fun _ _ _ h => h) (Or.inl ⟨by rfl, ?_⟩) ?_ ?_
            rotate_left
            · intro w'
              go_simp
              with_reducible rfl
            rotate_left
            · simp only [Act.put, List.setIfInBounds_toArray, List.set_cons_zero, List.set_cons_succ, i64_w, i32_w]
              rfl
            refine take_ (i := 11) (N := some 38) (v := ?_) (a' := ?_) #[true, true, true, true, true, false, false, true, true, true, true, true, false, false, false, false] rfl rfl (take_ofW HT_.out HW_.out (by kernel_rfl)) (fun _ _ _ h => h) (Or.inl ⟨by rfl, ?_⟩) hHeld ?_ ?_
            rotate_left
            · rintro w' ⟨s0, s1, s2⟩
              go_simp
              with_reducible rfl
            rotate_left
            · simp only [Act.put, List.setIfInBounds_toArray, List.set_cons_zero, List.set_cons_succ, i64_w, i32_w]
              rfl
            refine one_ (i := 5) (N := some 32) #[true, true, true, true, true, true, false, true, true, true, true, true, false, false, false, false] rfl rfl (one_of HT_.out (by kernel_rfl)) (by decide) (fun K hK => ?_)
            refine goes_ Try.func45 (by kernel_rfl) rfl #[.agg #[.int .i64 a0_0, .int .i64 a0_1, .slice A0_2 l0_2.length c0_2]] (by rfl) rfl rfl arr_ ?_
            with_reducible refine (impl_Plan_round.calls kj2 a0_0 a0_1 _ _ l0_2 t392 _ ?side1 ?side2 A17.out).mono ?_
            (case side1 => exact kc_ (Kd.C_below HR0_2.out HB.out))
            (case side2 => exact HC0_2.out)
            rintro e w22 ⟨rfl, hb⟩
            refine ⟨_, rfl, ?_⟩
            have n0_ := Aside0.mk (bb_ BK389.out hb)
            have n1_ := Aside0.mk (below_step (hb1_ HB.out GE389.out) hb)
            clear BK389
            clear HB
            have BK389 := n0_
            have HB := n1_
            clear n0_ n1_
            (try clear hb)
            (try clear hb2)
            (try clear hk)
            (try clear hi)
            refine hK.out _ _ ⟨(blk_cell BK389.out 0).trans rfl, (blk_cell BK389.out 1).trans rfl, (blk_cell BK389.out 2).trans rfl⟩ (fun hHeld => ?_)
            clear hK K
            refine norm_ (a' := ?_) ?_ ?_
            rotate_left
            · show Act.put _ (some 32) _ = _
              simp only [Act.put, List.setIfInBounds_toArray, List.set_cons_zero, List.set_cons_succ, i64_w, i32_w]
              rfl
            refine pure_ (i := 6) (N := some 33) (v := ?_) (a' := ?_) #[true, true, true, true, true, true, true, true, true, true, true, true, false, false, false, false] rfl rfl (any_of HT_.out (by kernel_rfl)) (fun _ _ _ h => h) (Or.inl ⟨by rfl, ?_⟩) ?_ ?_
            rotate_left
            · intro w'
              go_simp
              with_reducible rfl
            rotate_left
            · simp only [Act.put, List.setIfInBounds_toArray, List.set_cons_zero, List.set_cons_succ, i64_w, i32_w]
              rfl
            refine one_ (i := 12) (N := some 39) #[true, true, true, true, true, true, true, true, true, true, true, true, true, false, false, false] rfl rfl (one_of HT_.out (by kernel_rfl)) (by decide) (fun K hK => ?_)
            refine goes_ Try.func45 (by kernel_rfl) rfl #[.agg #[.int .i64 a0_0, .int .i64 a0_1, .slice A0_2 l0_2.length c0_2]] (by rfl) rfl rfl arr_ ?_
            with_reducible refine (impl_Plan_round.calls kj2 a0_0 a0_1 _ _ l0_2 t393 _ ?side1 ?side2 A19.out).mono ?_
            (case side1 => exact kc_ (Kd.C_below HR0_2.out HB.out))
            (case side2 => exact HC0_2.out)
            rintro e w23 ⟨rfl, hb⟩
            refine ⟨_, rfl, ?_⟩
            have n0_ := Aside0.mk (bb_ BK389.out hb)
            have n1_ := Aside0.mk (below_step (hb1_ HB.out GE389.out) hb)
            clear BK389
            clear HB
            have BK389 := n0_
            have HB := n1_
            clear n0_ n1_
            (try clear hb)
            (try clear hb2)
            (try clear hk)
            (try clear hi)
            refine hK.out _ _ ⟨(blk_cell BK389.out 0).trans rfl, (blk_cell BK389.out 1).trans rfl, (blk_cell BK389.out 2).trans rfl⟩ (fun hHeld => ?_)
            clear hK K
            refine norm_ (a' := ?_) ?_ ?_
            rotate_left
            · show Act.put _ (some 39) _ = _
              simp only [Act.put, List.setIfInBounds_toArray, List.set_cons_zero, List.set_cons_succ, i64_w, i32_w]
              rfl
            refine pure_ (i := 13) (N := some 40) (v := ?_) (a' := ?_) #[true, true, true, true, true, true, true, true, true, true, true, true, true, true, false, false] rfl rfl (any_of HT_.out (by kernel_rfl)) (fun _ _ _ h => h) (Or.inl ⟨by rfl, ?_⟩) ?_ ?_
            rotate_left
            · intro w'
              go_simp
              with_reducible rfl
            rotate_left
            · simp only [Act.put, List.setIfInBounds_toArray, List.set_cons_zero, List.set_cons_succ, i64_w, i32_w]
              rfl
            refine pure_ (i := 14) (N := some 7) (v := ?_) (a' := ?_) #[true, true, true, true, true, true, true, true, true, true, true, true, true, true, true, false] rfl rfl (any_of HT_.out (by kernel_rfl)) (fun _ _ _ h => h) (Or.inl ⟨by rfl, ?_⟩) ?_ ?_
            rotate_left
            · intro w'
              go_simp
              with_reducible rfl
            rotate_left
            · simp only [Act.put, List.setIfInBounds_toArray, List.set_cons_zero, List.set_cons_succ, i64_w, i32_w]
              rfl
            refine pure_ (i := 15) (N := some 8) (v := ?_) (a' := ?_) #[true, true, true, true, true, true, true, true, true, true, true, true, true, true, true, true] rfl rfl (any_of HT_.out (by kernel_rfl)) (fun _ _ _ h => h) (Or.inl ⟨by rfl, ?_⟩) ?_ ?_
            rotate_left
            · intro w'
              go_simp
              with_reducible rfl
            rotate_left
            · simp only [Act.put, List.setIfInBounds_toArray, List.set_cons_zero, List.set_cons_succ, i64_w, i32_w]
              rfl
            refine done_ (done_of HT_.out (by kernel_rfl)) ?_
            have hcz24_0 := bc_ BK389.out 0 (.int .i64 a0_0) rfl
            have hcz24_1 := bc_ BK389.out 1 (.int .i64 a0_1) rfl
            have hcz24_2 := bc_ BK389.out 2 (.slice A0_2 l0_2.length c0_2) rfl
            have hfz24_0 := blk_frozen BK389.out 0
            have hfz24_1 := blk_frozen BK389.out 1
            have hfz24_2 := blk_frozen BK389.out 2
            try go_wp2
            go_loopg [44] kj2 (fun kq v44 w' => ∃ (x44_2 : Int), v44 = .int .i64 x44_2 ∧ Aside0 (impl_SlotAt.l0 kq (wrap64 (Int.tdiv (wrap64 (a1 - a0_0)) t392)) (Int.tmod (wrap64 (a1 - a0_0)) t393) l0_2 (l0_2.length : Int) x44_2 a0_0 a0_1 l0_2 = some (r1, r2, r3)) ∧ Aside0 (kq ≤ kj2) ∧ Aside0 (w'.heap[gb389]? = some (.cells #[.int .i64 a0_0, .int .i64 a0_1, (.slice A0_2 l0_2.length c0_2)] 29 (0, 0))) ∧ Aside0 (Below w.heap.size w w'))
            case atStart => exact ⟨(0), (by first | rfl | (simp; done) | (simp [*]; done)), H', ⟨Nat.le_refl _⟩, ⟨bk_ BK389.out⟩, ⟨hb1_ HB.out GE389.out⟩⟩
            case round =>
              clear H'
              try clear c1
              try clear c2
              try clear p2
              try clear c4
              try clear c6
              try clear p6
              try clear c8
              try clear c16
              try clear c18
              try clear c18b0
              try clear c18b1
              try clear c20
              try clear c20b0
              try clear c20b1
              try clear hcz11_0
              try clear hcz11_1
              try clear hcz11_2
              try clear hcz12_0
              try clear hcz12_1
              try clear hcz12_2
              try clear hcz14_0
              try clear hcz14_1
              try clear hcz14_2
              try clear hcz24_0
              try clear hcz24_1
              try clear hcz24_2
              try clear hcz9_0
              try clear hcz9_1
              try clear hcz9_2
              try clear hfz11_0
              try clear hfz11_1
              try clear hfz11_2
              try clear hfz12_0
              try clear hfz12_1
              try clear hfz12_2
              try clear hfz14_0
              try clear hfz14_1
              try clear hfz14_2
              try clear hfz24_0
              try clear hfz24_1
              try clear hfz24_2
              try clear hfz9_0
              try clear hfz9_1
              try clear hfz9_2
              try clear p2
              obtain ⟨x44_2, rfl, HA, HK2, BK389, HB⟩ := hrel
              cases gk with
              | zero => exact absurd HA.out (by simp [impl_SlotAt.l0])
              | succ k2 =>
                have H := HA.out
                clear HA
                simp only [impl_SlotAt.l0] at H
                by_cases c25 : x44_2 < (l0_2.length : Int)
                · rw [if_pos c25] at H
                  have c25b0 : decide (x44_2 < (l0_2.length : Int)) = true := decide_eq_true c25
                  clear c25
                  by_cases c26 : 0 ≤ x44_2
                  · rw [if_pos c26] at H
                    have c26b0 : decide (0 ≤ x44_2) = true := decide_eq_true c26
                    clear c26
                    by_cases c27 : x44_2 < (l0_2.length : Int)
                    · rw [if_pos c27] at H
                      have c27b0 : decide (x44_2 < (l0_2.length : Int)) = true := decide_eq_true c27
                      clear c27
                      replace H := Option.bind_eq_some_iff.mp H
                      obtain ⟨t396, A280, H⟩ := H
                      replace H : ((impl_Plan_from.f k2 a0_0 a0_1 l0_2 x44_2).bind fun t397 => ((impl_in.f (Int.tmod (wrap64 (a1 - a0_0)) t393) t396 (wrap64 ((wrap64 (t397 + ((rd_T60 l0_2 x44_2).f1))) - 1))).bind fun t398 => (if t398 = true then ((impl_Occurrence.f k2 a0_0 a0_1 l0_2 x44_2 (wrap64 (Int.tdiv (wrap64 (a1 - a0_0)) t392))).bind fun bt399 => (if bt399.2.2 = true then (some (x44_2, (wrap64 (Int.tdiv (wrap64 (a1 - a0_0)) t392)), true)) else (some (0, 0, false)))) else (impl_SlotAt.l0 k2 (wrap64 (Int.tdiv (wrap64 (a1 - a0_0)) t392)) (Int.tmod (wrap64 (a1 - a0_0)) t393) l0_2 (l0_2.length : Int) (wrap64 (x44_2 + 1)) a0_0 a0_1 l0_2)))) = some (r1, r2, r3) := H
                      have A28 := Aside0.mk A280
                      clear A280
                      replace H := Option.bind_eq_some_iff.mp H
                      obtain ⟨t397, A290, H⟩ := H
                      replace H : ((impl_in.f (Int.tmod (wrap64 (a1 - a0_0)) t393) t396 (wrap64 ((wrap64 (t397 + ((rd_T60 l0_2 x44_2).f1))) - 1))).bind fun t398 => (if t398 = true then ((impl_Occurrence.f k2 a0_0 a0_1 l0_2 x44_2 (wrap64 (Int.tdiv (wrap64 (a1 - a0_0)) t392))).bind fun bt399 => (if bt399.2.2 = true then (some (x44_2, (wrap64 (Int.tdiv (wrap64 (a1 - a0_0)) t392)), true)) else (some (0, 0, false)))) else (impl_SlotAt.l0 k2 (wrap64 (Int.tdiv (wrap64 (a1 - a0_0)) t392)) (Int.tmod (wrap64 (a1 - a0_0)) t393) l0_2 (l0_2.length : Int) (wrap64 (x44_2 + 1)) a0_0 a0_1 l0_2))) = some (r1, r2, r3) := H
                      have A29 := Aside0.mk A290
                      clear A290
                      replace H := Option.bind_eq_some_iff.mp H
                      obtain ⟨t398, A300, H⟩ := H
                      replace H : (if t398 = true then ((impl_Occurrence.f k2 a0_0 a0_1 l0_2 x44_2 (wrap64 (Int.tdiv (wrap64 (a1 - a0_0)) t392))).bind fun bt399 => (if bt399.2.2 = true then (some (x44_2, (wrap64 (Int.tdiv (wrap64 (a1 - a0_0)) t392)), true)) else (some (0, 0, false)))) else (impl_SlotAt.l0 k2 (wrap64 (Int.tdiv (wrap64 (a1 - a0_0)) t392)) (Int.tmod (wrap64 (a1 - a0_0)) t393) l0_2 (l0_2.length : Int) (wrap64 (x44_2 + 1)) a0_0 a0_1 l0_2)) = some (r1, r2, r3) := H
                      have A30 := Aside0.mk A300
                      clear A300
                      by_cases c31 : t398 = true
                      · subst c31
                        have H1 : ((impl_Occurrence.f k2 a0_0 a0_1 l0_2 x44_2 (wrap64 (Int.tdiv (wrap64 (a1 - a0_0)) t392))).bind fun bt399 => (if bt399.2.2 = true then (some (x44_2, (wrap64 (Int.tdiv (wrap64 (a1 - a0_0)) t392)), true)) else (some (0, 0, false)))) = some (r1, r2, r3) := by rw [if_pos rfl] at H; exact H
                        clear H
                        have H := H1
                        clear H1
                        replace H := Option.bind_eq_some_iff.mp H
                        obtain ⟨⟨t399, t400, t401⟩, A320, H⟩ := H
                        replace H : (if t401 = true then (some (x44_2, (wrap64 (Int.tdiv (wrap64 (a1 - a0_0)) t392)), true)) else (some (0, 0, false))) = some (r1, r2, r3) := H
                        have A32 := Aside0.mk A320
                        clear A320
                        by_cases c33 : t401 = true
                        · subst c33
                          have H1 : (some (x44_2, (wrap64 (Int.tdiv (wrap64 (a1 - a0_0)) t392)), true)) = some (r1, r2, r3) := by rw [if_pos rfl] at H; exact H
                          clear H
                          have H := H1
                          clear H1
                          simp only [Option.some.injEq, Prod.mk.injEq] at H
                          obtain ⟨rfl, rfl, rfl⟩ := H
                          have p394 : 0 ≤ (x44_2 : Int) := of_decide_eq_true (by first | (with_reducible assumption) | assumption)
                          have q394 : x44_2 < (l0_2.length : Int) := of_decide_eq_true (by first | (with_reducible assumption) | assumption)
                          obtain ⟨ad394, e394, hx394_0, hx394_1⟩ := at_T60 HR0_2.out x44_2 p394 q394
                          cases e394
                          replace hx394_0 := (HB.out.cell (World.block_lt_of_cell? w _ hx394_0)).trans hx394_0
                          replace hx394_1 := (HB.out.cell (World.block_lt_of_cell? w _ hx394_1)).trans hx394_1
                          replace p394 := eq_true p394
                          replace q394 := eq_true q394
                          try go_wp2_with (first | ((with_reducible refine gate_dst (N := 10) rfl ?_); refine box_event ?hg (N := 10) ?hd (cs := #[.int .i64 0, .int .i64 0]) (t := 60) ?hr ?_; (case hd => rfl); (case hg => rfl); (case hr => first | (go_simp; done) | (go_simp; rfl)); intro gb395 hg w34 hbox hb; have n0_ := Aside0.mk (bb_ BK389.out hb); have n1_ := Aside0.mk (below_step (hb1_ HB.out GE389.out) hb); have n2_ := Aside0.mk (hbox); have n3_ := Aside0.mk ((by rw [hg]; exact (below_size (hb1_ HB.out GE389.out)) : w.heap.size ≤ gb395)); have n4_ := Aside0.mk ((by rw [hg]; exact (below_size (hb1_ HB.out GE389.out)) : w.heap.size ≤ gb395)); have n5_ := Aside0.mk ((bl_ hg BK389.out : gb389 ≠ gb395)); have n6_ := Aside0.mk ((bg_ hg BK389.out : gb395 ≠ gb389)); clear BK389; clear HB; have BK389 := n0_; have HB := n1_; have BK395 := n2_; have GW395 := n3_; have GE395 := n4_; have NB389_395 := n5_; have NB395_389 := n6_; clear n0_ n1_ n2_ n3_ n4_ n5_ n6_; clear hb hbox hg; have hnb35 := NB395_389.out; have hnc35 := NB389_395.out; have hcz36_0 := bc_ BK395.out 0 (.int .i64 0) rfl; have hcz36_1 := bc_ BK395.out 1 (.int .i64 0) rfl; have hfz36_0 := blk_frozen BK395.out 0; have hfz36_1 := blk_frozen BK395.out 1))
                          have n0_ : Aside0 (((w34.setCell ⟨gb395, 0, none⟩ (.int .i64 ((rd_T60 l0_2 x44_2).f0))).setCell ⟨gb395, 1, none⟩ (.int .i64 ((rd_T60 l0_2 x44_2).f1))).heap[gb389]? = some (.cells #[.int .i64 a0_0, .int .i64 a0_1, .slice (some ad394) l0_2.length c0_2] 29 (0, 0))) := ⟨by (with_reducible repeat (first | refine blk_drewN ?_ _ | refine blk_drew ?_ | refine blk_alloc ?_ _)); refine blk_far ?_ NB389_395.out _; (with_reducible repeat (first | refine blk_drewN ?_ _ | refine blk_drew ?_ | refine blk_alloc ?_ _)); refine blk_far ?_ NB389_395.out _; (with_reducible repeat (first | refine blk_drewN ?_ _ | refine blk_drew ?_ | refine blk_alloc ?_ _)); exact BK389.out⟩
                          have n1_ : Aside0 (((w34.setCell ⟨gb395, 0, none⟩ (.int .i64 ((rd_T60 l0_2 x44_2).f0))).setCell ⟨gb395, 1, none⟩ (.int .i64 ((rd_T60 l0_2 x44_2).f1))).heap[gb395]? = some (.cells #[.int .i64 ((rd_T60 l0_2 x44_2).f0), .int .i64 ((rd_T60 l0_2 x44_2).f1)] 60 (0, 0))) := ⟨by (with_reducible repeat (first | refine blk_drewN ?_ _ | refine blk_drew ?_ | refine blk_alloc ?_ _)); refine blk_put (cs := #[.int .i64 ((rd_T60 l0_2 x44_2).f0), .int .i64 0]) ?_ 1 _ rfl; (with_reducible repeat (first | refine blk_drewN ?_ _ | refine blk_drew ?_ | refine blk_alloc ?_ _)); refine blk_put (cs := #[.int .i64 0, .int .i64 0]) ?_ 0 _ rfl; (with_reducible repeat (first | refine blk_drewN ?_ _ | refine blk_drew ?_ | refine blk_alloc ?_ _)); exact BK395.out⟩
                          have n2_ : Aside0 (Below w.heap.size w ((w34.setCell ⟨gb395, 0, none⟩ (.int .i64 ((rd_T60 l0_2 x44_2).f0))).setCell ⟨gb395, 1, none⟩ (.int .i64 ((rd_T60 l0_2 x44_2).f1)))) := ⟨hb2_ HB.out GE389.out GE395.out⟩
                          (try clear BK389)
                          (try clear BK395)
                          (try clear HB)
                          generalize ((w34.setCell ⟨gb395, 0, none⟩ (.int .i64 ((rd_T60 l0_2 x44_2).f0))).setCell ⟨gb395, 1, none⟩ (.int .i64 ((rd_T60 l0_2 x44_2).f1))) = w37 at n0_ n1_ n2_ ⊢
                          have BK389 := n0_
                          have BK395 := n1_
                          have HB := n2_
                          clear n0_ n1_ n2_
                          have n0_ := Aside0.mk (blk_drew BK389.out)
                          have n1_ := Aside0.mk (blk_drew BK395.out)
                          have n2_ := Aside0.mk (below_drew1 HB.out)
                          clear BK389
                          clear BK395
                          clear HB
                          have BK389 := n0_
                          have BK395 := n1_
                          have HB := n2_
                          clear n0_ n1_ n2_
                          refine start_ (n := 12) (S := fun w' => w'.cell? ⟨gb389, 0, none⟩ = some (.int .i64 a0_0) ∧ w'.cell? ⟨gb389, 1, none⟩ = some (.int .i64 a0_1) ∧ w'.cell? ⟨gb389, 2, none⟩ = some (.slice (some ad394) l0_2.length c0_2) ∧ w'.cell? ⟨gb395, 0, none⟩ = some (.int .i64 ((rd_T60 l0_2 x44_2).f0)) ∧ w'.cell? ⟨gb395, 1, none⟩ = some (.int .i64 ((rd_T60 l0_2 x44_2).f1))) (ds := []) #[false, false, false, false, false, false, false, false, false, false, false, false] (by kernel_rfl) rfl rfl ⟨(blk_cell BK389.out 0).trans rfl, (blk_cell BK389.out 1).trans rfl, (blk_cell BK389.out 2).trans rfl, (blk_cell BK395.out 0).trans rfl, (blk_cell BK395.out 1).trans rfl⟩ (fun hHeld => ?_); refine with_tabW impl_SlotAt.tab7 impl_SlotAt.bits7 (fun HT_ HW_ => ?_)
                          generalize w37.drew = w38 at BK389 BK395 HB hHeld ⊢
                          refine pure_ (i := 0) (N := some 49) (v := ?_) (a' := ?_) #[true, false, false, false, false, false, false, false, false, false, false, false] rfl rfl (any_of HT_.out (by kernel_rfl)) (fun _ _ _ h => h) (Or.inl ⟨by rfl, ?_⟩) ?_ ?_
                          rotate_left
                          · intro w'
                            go_simp
                            with_reducible rfl
                          rotate_left
                          · simp only [Act.put, List.setIfInBounds_toArray, List.set_cons_zero, List.set_cons_succ, i64_w, i32_w]
                            rfl
                          refine pure_ (i := 2) (N := some 51) (v := ?_) (a' := ?_) #[true, false, true, false, false, false, false, false, false, false, false, false] rfl rfl (any_of HT_.out (by kernel_rfl)) (fun _ _ _ h => h) (Or.inl ⟨by rfl, ?_⟩) ?_ ?_
                          rotate_left
                          · intro w'
                            go_simp
                            with_reducible rfl
                          rotate_left
                          · simp only [Act.put, List.setIfInBounds_toArray, List.set_cons_zero, List.set_cons_succ, i64_w, i32_w]
                            rfl
                          refine pure_ (i := 5) (N := some 54) (v := ?_) (a' := ?_) #[true, false, true, false, false, true, false, false, false, false, false, false] rfl rfl (any_of HT_.out (by kernel_rfl)) (fun _ _ _ h => h) (Or.inl ⟨by rfl, ?_⟩) ?_ ?_
                          rotate_left
                          · intro w'
                            go_simp
                            with_reducible rfl
                          rotate_left
                          · simp only [Act.put, List.setIfInBounds_toArray, List.set_cons_zero, List.set_cons_succ, i64_w, i32_w]
                            rfl
                          refine pure_ (i := 7) (N := some 56) (v := ?_) (a' := ?_) #[true, false, true, false, false, true, false, true, false, false, false, false] rfl rfl (any_of HT_.out (by kernel_rfl)) (fun _ _ _ h => h) (Or.inl ⟨by rfl, ?_⟩) ?_ ?_
                          rotate_left
                          · intro w'
                            go_simp
                            with_reducible rfl
                          rotate_left
                          · simp only [Act.put, List.setIfInBounds_toArray, List.set_cons_zero, List.set_cons_succ, i64_w, i32_w]
                            rfl
                          refine take_ (i := 1) (N := some 50) (v := ?_) (a' := ?_) #[true, true, true, false, false, true, false, true, false, false, false, false] rfl rfl (take_ofW HT_.out HW_.out (by kernel_rfl)) (fun _ _ _ h => h) (Or.inl ⟨by rfl, ?_⟩) hHeld ?_ ?_
                          rotate_left
                          · rintro w' ⟨s0, s1, s2, s3, s4⟩
                            go_simp
                            with_reducible rfl
                          rotate_left
                          · simp only [Act.put, List.setIfInBounds_toArray, List.set_cons_zero, List.set_cons_succ, i64_w, i32_w]
                            rfl
                          refine take_ (i := 4) (N := some 53) (v := ?_) (a' := ?_) #[true, true, true, false, true, true, false, true, false, false, false, false] rfl rfl (take_ofW HT_.out HW_.out (by kernel_rfl)) (fun _ _ _ h => h) (Or.inl ⟨by rfl, ?_⟩) hHeld ?_ ?_
                          rotate_left
                          · rintro w' ⟨s0, s1, s2, s3, s4⟩
                            go_simp
                            with_reducible rfl
                          rotate_left
                          · simp only [Act.put, List.setIfInBounds_toArray, List.set_cons_zero, List.set_cons_succ, i64_w, i32_w]
                            rfl
                          refine take_ (i := 8) (N := some 57) (v := ?_) (a' := ?_) #[true, true, true, false, true, true, false, true, true, false, false, false] rfl rfl (take_ofW HT_.out HW_.out (by kernel_rfl)) (fun _ _ _ h => h) (Or.inl ⟨by rfl, ?_⟩) hHeld ?_ ?_
                          rotate_left
                          · rintro w' ⟨s0, s1, s2, s3, s4⟩
                            go_simp
                            with_reducible rfl
                          rotate_left
                          · simp only [Act.put, List.setIfInBounds_toArray, List.set_cons_zero, List.set_cons_succ, i64_w, i32_w]
                            rfl
                          refine one_ (i := 3) (N := some 52) #[true, true, true, true, true, true, false, true, true, false, false, false] rfl rfl (one_of HT_.out (by kernel_rfl)) (by decide) (fun K hK => ?_)
                          refine goes_ Try.func49 (by kernel_rfl) rfl #[.agg #[.int .i64 a0_0, .int .i64 a0_1, .slice (some ad394) l0_2.length c0_2], .int .i64 x44_2] (by rfl) rfl rfl arr_ ?_
                          with_reducible refine (impl_Plan_from.calls k2 a0_0 a0_1 _ _ l0_2 x44_2 t396 _ ?side1 ?side2 A28.out).mono ?_
                          (case side1 => exact kc_ (Kd.C_below HR0_2.out HB.out))
                          (case side2 => exact HC0_2.out)
                          rintro e w39 ⟨rfl, hb⟩
                          refine ⟨_, rfl, ?_⟩
                          have n0_ := Aside0.mk (bb_ BK389.out hb)
                          have n1_ := Aside0.mk (bb_ BK395.out hb)
                          have n2_ := Aside0.mk (below_step (hb2_ HB.out GE389.out GE395.out) hb)
                          clear BK389
                          clear BK395
                          clear HB
                          have BK389 := n0_
                          have BK395 := n1_
                          have HB := n2_
                          clear n0_ n1_ n2_
                          (try clear hb)
                          (try clear hb2)
                          (try clear hk)
                          (try clear hi)
                          refine hK.out _ _ ⟨(blk_cell BK389.out 0).trans rfl, (blk_cell BK389.out 1).trans rfl, (blk_cell BK389.out 2).trans rfl, (blk_cell BK395.out 0).trans rfl, (blk_cell BK395.out 1).trans rfl⟩ (fun hHeld => ?_)
                          clear hK K
                          refine norm_ (a' := ?_) ?_ ?_
                          rotate_left
                          · show Act.put _ (some 52) _ = _
                            simp only [Act.put, List.setIfInBounds_toArray, List.set_cons_zero, List.set_cons_succ, i64_w, i32_w]
                            rfl
                          refine one_ (i := 6) (N := some 55) #[true, true, true, true, true, true, true, true, true, false, false, false] rfl rfl (one_of HT_.out (by kernel_rfl)) (by decide) (fun K hK => ?_)
                          refine goes_ Try.func49 (by kernel_rfl) rfl #[.agg #[.int .i64 a0_0, .int .i64 a0_1, .slice (some ad394) l0_2.length c0_2], .int .i64 x44_2] (by rfl) rfl rfl arr_ ?_
                          with_reducible refine (impl_Plan_from.calls k2 a0_0 a0_1 _ _ l0_2 x44_2 t397 _ ?side1 ?side2 A29.out).mono ?_
                          (case side1 => exact kc_ (Kd.C_below HR0_2.out HB.out))
                          (case side2 => exact HC0_2.out)
                          rintro e w40 ⟨rfl, hb⟩
                          refine ⟨_, rfl, ?_⟩
                          have n0_ := Aside0.mk (bb_ BK389.out hb)
                          have n1_ := Aside0.mk (bb_ BK395.out hb)
                          have n2_ := Aside0.mk (below_step (hb2_ HB.out GE389.out GE395.out) hb)
                          clear BK389
                          clear BK395
                          clear HB
                          have BK389 := n0_
                          have BK395 := n1_
                          have HB := n2_
                          clear n0_ n1_ n2_
                          (try clear hb)
                          (try clear hb2)
                          (try clear hk)
                          (try clear hi)
                          refine hK.out _ _ ⟨(blk_cell BK389.out 0).trans rfl, (blk_cell BK389.out 1).trans rfl, (blk_cell BK389.out 2).trans rfl, (blk_cell BK395.out 0).trans rfl, (blk_cell BK395.out 1).trans rfl⟩ (fun hHeld => ?_)
                          clear hK K
                          refine norm_ (a' := ?_) ?_ ?_
                          rotate_left
                          · show Act.put _ (some 55) _ = _
                            simp only [Act.put, List.setIfInBounds_toArray, List.set_cons_zero, List.set_cons_succ, i64_w, i32_w]
                            rfl
                          refine pure_ (i := 9) (N := some 58) (v := ?_) (a' := ?_) #[true, true, true, true, true, true, true, true, true, true, false, false] rfl rfl (any_of HT_.out (by kernel_rfl)) (fun _ _ _ h => h) (Or.inl ⟨by rfl, ?_⟩) ?_ ?_
                          rotate_left
                          · intro w'
                            go_simp
                            with_reducible rfl
                          rotate_left
                          · simp only [Act.put, List.setIfInBounds_toArray, List.set_cons_zero, List.set_cons_succ, i64_w, i32_w]
                            rfl
                          refine pure_ (i := 10) (N := some 59) (v := ?_) (a' := ?_) #[true, true, true, true, true, true, true, true, true, true, true, false] rfl rfl (any_of HT_.out (by kernel_rfl)) (fun _ _ _ h => h) (Or.inl ⟨by rfl, ?_⟩) ?_ ?_
                          rotate_left
                          · intro w'
                            go_simp
                            with_reducible rfl
                          rotate_left
                          · simp only [Act.put, List.setIfInBounds_toArray, List.set_cons_zero, List.set_cons_succ, i64_w, i32_w]
                            rfl
                          refine one_ (i := 11) (N := some 60) #[true, true, true, true, true, true, true, true, true, true, true, true] rfl rfl (one_of HT_.out (by kernel_rfl)) (by decide) (fun K hK => ?_)
                          refine goes_ Try.func52 (by kernel_rfl) rfl #[.int .i64 (Int.tmod (wrap64 (a1 - a0_0)) t393), .int .i64 t396, .int .i64 (wrap64 ((wrap64 (t397 + ((rd_T60 l0_2 x44_2).f1))) - 1))] (by rfl) rfl rfl arr_ ?_
                          with_reducible refine (impl_in.calls (Int.tmod (wrap64 (a1 - a0_0)) t393) t396 (wrap64 ((wrap64 (t397 + ((rd_T60 l0_2 x44_2).f1))) - 1)) true _ A30.out).mono ?_
                          rintro e w' ⟨rfl, ⟨nd, rfl⟩⟩
                          refine ⟨_, rfl, ?_⟩
                          refine hK.out _ _ ⟨(blk_cell BK389.out 0).trans rfl, (blk_cell BK389.out 1).trans rfl, (blk_cell BK389.out 2).trans rfl, (blk_cell BK395.out 0).trans rfl, (blk_cell BK395.out 1).trans rfl⟩ (fun hHeld => ?_)
                          clear hK K
                          refine norm_ (a' := ?_) ?_ ?_
                          rotate_left
                          · show Act.put _ (some 60) _ = _
                            simp only [Act.put, List.setIfInBounds_toArray, List.set_cons_zero, List.set_cons_succ, i64_w, i32_w]
                            rfl
                          refine done_ (done_of HT_.out (by kernel_rfl)) ?_
                          have hcz41_0 := bc_ BK389.out 0 (.int .i64 a0_0) rfl
                          have hcz41_1 := bc_ BK389.out 1 (.int .i64 a0_1) rfl
                          have hcz41_2 : w40.cell? ⟨gb389, 2, none⟩ = some (.slice (some ad394) l0_2.length c0_2) := (blk_cell BK389.out 2).trans rfl
                          have hfz41_0 := blk_frozen BK389.out 0
                          have hfz41_1 := blk_frozen BK389.out 1
                          have hfz41_2 := blk_frozen BK389.out 2
                          try go_wp2_with (first | ((with_reducible refine gate_callee (f := 25) rfl ?_); refine goesL_ (some 65) rfl rfl Try.func25 (by kernel_rfl) rfl #[.agg #[.int .i64 a0_0, .int .i64 a0_1, .slice (some ad394) l0_2.length c0_2], .int .i64 x44_2, .int .i64 (wrap64 (Int.tdiv (wrap64 (a1 - a0_0)) t392))] rfl arr_ ?_; (with_reducible refine (impl_Occurrence.calls k2 a0_0 a0_1 _ _ l0_2 x44_2 (wrap64 (Int.tdiv (wrap64 (a1 - a0_0)) t392)) t399 t400 true _ ?side1 ?side2 A32.out).mono ?_); (case side1 => repeat (first | exact (Kd.C_below HR0_2.out (hb2_ HB.out GE389.out GE395.out)) | (with_reducible refine Kd.C_alloc ?_ _) | (with_reducible refine Kd.C_drewN ?_ _) | (with_reducible refine Kd.C_drew ?_))); (case side2 => exact HC0_2.out); rintro e w42 ⟨rfl, hb⟩; refine ⟨_, rfl, ?_⟩; have n0_ := Aside0.mk (bb_ BK389.out hb); have n1_ := Aside0.mk (bb_ BK395.out hb); have n2_ := Aside0.mk (below_step (hb2_ HB.out GE389.out GE395.out) hb); clear BK389; clear BK395; clear HB; have BK389 := n0_; have BK395 := n1_; have HB := n2_; clear n0_ n1_ n2_; (try clear hb); (try clear hb2); (try clear hk); (try clear hi)) | ((with_reducible refine gate_dst (N := 11) rfl ?_); refine box_event ?hg (N := 11) ?hd (cs := #[.int .i64 0, .int .i64 0]) (t := 40) ?hr ?_; (case hd => rfl); (case hg => rfl); (case hr => first | (go_simp; done) | (go_simp; rfl)); intro gb402 hg w43 hbox hb; have n0_ := Aside0.mk (bb_ BK389.out hb); have n1_ := Aside0.mk (bb_ BK395.out hb); have n2_ := Aside0.mk (below_step (hb2_ HB.out GE389.out GE395.out) hb); have n3_ := Aside0.mk (hbox); have n4_ := Aside0.mk ((by rw [hg]; exact (below_size (hb2_ HB.out GE389.out GE395.out)) : w.heap.size ≤ gb402)); have n5_ := Aside0.mk ((by rw [hg]; exact (below_size (hb2_ HB.out GE389.out GE395.out)) : w.heap.size ≤ gb402)); have n6_ := Aside0.mk ((bl_ hg BK389.out : gb389 ≠ gb402)); have n7_ := Aside0.mk ((bg_ hg BK389.out : gb402 ≠ gb389)); have n8_ := Aside0.mk ((bl_ hg BK395.out : gb395 ≠ gb402)); have n9_ := Aside0.mk ((bg_ hg BK395.out : gb402 ≠ gb395)); clear BK389; clear BK395; clear HB; have BK389 := n0_; have BK395 := n1_; have HB := n2_; have BK402 := n3_; have GW402 := n4_; have GE402 := n5_; have NB389_402 := n6_; have NB402_389 := n7_; have NB395_402 := n8_; have NB402_395 := n9_; clear n0_ n1_ n2_ n3_ n4_ n5_ n6_ n7_ n8_ n9_; clear hb hbox hg; have hnb44 := NB402_389.out; have hnc44 := NB389_402.out; have hnb45 := NB402_395.out; have hnc45 := NB395_402.out; have hcz46_0 := bc_ BK402.out 0 (.int .i64 0) rfl; have hcz46_1 := bc_ BK402.out 1 (.int .i64 0) rfl; have hfz46_0 := blk_frozen BK402.out 0; have hfz46_1 := blk_frozen BK402.out 1))
                          go_ret3
                          exact ⟨er_, hb3_ HB.out GE389.out GE395.out GE402.out⟩
                        · replace c33 := Bool.eq_false_iff.mpr c33
                          subst c33
                          have H1 : (some (0, 0, false)) = some (r1, r2, r3) := by rw [if_neg (show ¬ (false = true) by decide)] at H; exact H
                          clear H
                          have H := H1
                          clear H1
                          simp only [Option.some.injEq, Prod.mk.injEq] at H
                          obtain ⟨rfl, rfl, rfl⟩ := H
                          have p394 : 0 ≤ (x44_2 : Int) := of_decide_eq_true (by first | (with_reducible assumption) | assumption)
                          have q394 : x44_2 < (l0_2.length : Int) := of_decide_eq_true (by first | (with_reducible assumption) | assumption)
                          obtain ⟨ad394, e394, hx394_0, hx394_1⟩ := at_T60 HR0_2.out x44_2 p394 q394
                          cases e394
                          replace hx394_0 := (HB.out.cell (World.block_lt_of_cell? w _ hx394_0)).trans hx394_0
                          replace hx394_1 := (HB.out.cell (World.block_lt_of_cell? w _ hx394_1)).trans hx394_1
                          replace p394 := eq_true p394
                          replace q394 := eq_true q394
                          try go_wp2_with (first | ((with_reducible refine gate_dst (N := 10) rfl ?_); refine box_event ?hg (N := 10) ?hd (cs := #[.int .i64 0, .int .i64 0]) (t := 60) ?hr ?_; (case hd => rfl); (case hg => rfl); (case hr => first | (go_simp; done) | (go_simp; rfl)); intro gb395 hg w47 hbox hb; have n0_ := Aside0.mk (bb_ BK389.out hb); have n1_ := Aside0.mk (below_step (hb1_ HB.out GE389.out) hb); have n2_ := Aside0.mk (hbox); have n3_ := Aside0.mk ((by rw [hg]; exact (below_size (hb1_ HB.out GE389.out)) : w.heap.size ≤ gb395)); have n4_ := Aside0.mk ((by rw [hg]; exact (below_size (hb1_ HB.out GE389.out)) : w.heap.size ≤ gb395)); have n5_ := Aside0.mk ((bl_ hg BK389.out : gb389 ≠ gb395)); have n6_ := Aside0.mk ((bg_ hg BK389.out : gb395 ≠ gb389)); clear BK389; clear HB; have BK389 := n0_; have HB := n1_; have BK395 := n2_; have GW395 := n3_; have GE395 := n4_; have NB389_395 := n5_; have NB395_389 := n6_; clear n0_ n1_ n2_ n3_ n4_ n5_ n6_; clear hb hbox hg; have hnb48 := NB395_389.out; have hnc48 := NB389_395.out; have hcz49_0 := bc_ BK395.out 0 (.int .i64 0) rfl; have hcz49_1 := bc_ BK395.out 1 (.int .i64 0) rfl; have hfz49_0 := blk_frozen BK395.out 0; have hfz49_1 := blk_frozen BK395.out 1))
                          have n0_ : Aside0 (((w47.setCell ⟨gb395, 0, none⟩ (.int .i64 ((rd_T60 l0_2 x44_2).f0))).setCell ⟨gb395, 1, none⟩ (.int .i64 ((rd_T60 l0_2 x44_2).f1))).heap[gb389]? = some (.cells #[.int .i64 a0_0, .int .i64 a0_1, .slice (some ad394) l0_2.length c0_2] 29 (0, 0))) := ⟨by (with_reducible repeat (first | refine blk_drewN ?_ _ | refine blk_drew ?_ | refine blk_alloc ?_ _)); refine blk_far ?_ NB389_395.out _; (with_reducible repeat (first | refine blk_drewN ?_ _ | refine blk_drew ?_ | refine blk_alloc ?_ _)); refine blk_far ?_ NB389_395.out _; (with_reducible repeat (first | refine blk_drewN ?_ _ | refine blk_drew ?_ | refine blk_alloc ?_ _)); exact BK389.out⟩
                          have n1_ : Aside0 (((w47.setCell ⟨gb395, 0, none⟩ (.int .i64 ((rd_T60 l0_2 x44_2).f0))).setCell ⟨gb395, 1, none⟩ (.int .i64 ((rd_T60 l0_2 x44_2).f1))).heap[gb395]? = some (.cells #[.int .i64 ((rd_T60 l0_2 x44_2).f0), .int .i64 ((rd_T60 l0_2 x44_2).f1)] 60 (0, 0))) := ⟨by (with_reducible repeat (first | refine blk_drewN ?_ _ | refine blk_drew ?_ | refine blk_alloc ?_ _)); refine blk_put (cs := #[.int .i64 ((rd_T60 l0_2 x44_2).f0), .int .i64 0]) ?_ 1 _ rfl; (with_reducible repeat (first | refine blk_drewN ?_ _ | refine blk_drew ?_ | refine blk_alloc ?_ _)); refine blk_put (cs := #[.int .i64 0, .int .i64 0]) ?_ 0 _ rfl; (with_reducible repeat (first | refine blk_drewN ?_ _ | refine blk_drew ?_ | refine blk_alloc ?_ _)); exact BK395.out⟩
                          have n2_ : Aside0 (Below w.heap.size w ((w47.setCell ⟨gb395, 0, none⟩ (.int .i64 ((rd_T60 l0_2 x44_2).f0))).setCell ⟨gb395, 1, none⟩ (.int .i64 ((rd_T60 l0_2 x44_2).f1)))) := ⟨hb2_ HB.out GE389.out GE395.out⟩
                          (try clear BK389)
                          (try clear BK395)
                          (try clear HB)
                          generalize ((w47.setCell ⟨gb395, 0, none⟩ (.int .i64 ((rd_T60 l0_2 x44_2).f0))).setCell ⟨gb395, 1, none⟩ (.int .i64 ((rd_T60 l0_2 x44_2).f1))) = w50 at n0_ n1_ n2_ ⊢
                          have BK389 := n0_
                          have BK395 := n1_
                          have HB := n2_
                          clear n0_ n1_ n2_
                          have n0_ := Aside0.mk (blk_drew BK389.out)
                          have n1_ := Aside0.mk (blk_drew BK395.out)
                          have n2_ := Aside0.mk (below_drew1 HB.out)
                          clear BK389
                          clear BK395
                          clear HB
                          have BK389 := n0_
                          have BK395 := n1_
                          have HB := n2_
                          clear n0_ n1_ n2_
                          refine start_ (n := 12) (S := fun w' => w'.cell? ⟨gb389, 0, none⟩ = some (.int .i64 a0_0) ∧ w'.cell? ⟨gb389, 1, none⟩ = some (.int .i64 a0_1) ∧ w'.cell? ⟨gb389, 2, none⟩ = some (.slice (some ad394) l0_2.length c0_2) ∧ w'.cell? ⟨gb395, 0, none⟩ = some (.int .i64 ((rd_T60 l0_2 x44_2).f0)) ∧ w'.cell? ⟨gb395, 1, none⟩ = some (.int .i64 ((rd_T60 l0_2 x44_2).f1))) (ds := []) #[false, false, false, false, false, false, false, false, false, false, false, false] (by kernel_rfl) rfl rfl ⟨(blk_cell BK389.out 0).trans rfl, (blk_cell BK389.out 1).trans rfl, (blk_cell BK389.out 2).trans rfl, (blk_cell BK395.out 0).trans rfl, (blk_cell BK395.out 1).trans rfl⟩ (fun hHeld => ?_); refine with_tabW impl_SlotAt.tab7 impl_SlotAt.bits7 (fun HT_ HW_ => ?_)
                          generalize w50.drew = w51 at BK389 BK395 HB hHeld ⊢
                          refine pure_ (i := 0) (N := some 49) (v := ?_) (a' := ?_) #[true, false, false, false, false, false, false, false, false, false, false, false] rfl rfl (any_of HT_.out (by kernel_rfl)) (fun _ _ _ h => h) (Or.inl ⟨by rfl, ?_⟩) ?_ ?_
                          rotate_left
                          · intro w'
                            go_simp
                            with_reducible rfl
                          rotate_left
                          · simp only [Act.put, List.setIfInBounds_toArray, List.set_cons_zero, List.set_cons_succ, i64_w, i32_w]
                            rfl
                          refine pure_ (i := 2) (N := some 51) (v := ?_) (a' := ?_) #[true, false, true, false, false, false, false, false, false, false, false, false] rfl rfl (any_of HT_.out (by kernel_rfl)) (fun _ _ _ h => h) (Or.inl ⟨by rfl, ?_⟩) ?_ ?_
                          rotate_left
                          · intro w'
                            go_simp
                            with_reducible rfl
                          rotate_left
                          · simp only [Act.put, List.setIfInBounds_toArray, List.set_cons_zero, List.set_cons_succ, i64_w, i32_w]
                            rfl
                          refine pure_ (i := 5) (N := some 54) (v := ?_) (a' := ?_) #[true, false, true, false, false, true, false, false, false, false, false, false] rfl rfl (any_of HT_.out (by kernel_rfl)) (fun _ _ _ h => h) (Or.inl ⟨by rfl, ?_⟩) ?_ ?_
                          rotate_left
                          · intro w'
                            go_simp
                            with_reducible rfl
                          rotate_left
                          · simp only [Act.put, List.setIfInBounds_toArray, List.set_cons_zero, List.set_cons_succ, i64_w, i32_w]
                            rfl
                          refine pure_ (i := 7) (N := some 56) (v := ?_) (a' := ?_) #[true, false, true, false, false, true, false, true, false, false, false, false] rfl rfl (any_of HT_.out (by kernel_rfl)) (fun _ _ _ h => h) (Or.inl ⟨by rfl, ?_⟩) ?_ ?_
                          rotate_left
                          · intro w'
                            go_simp
                            with_reducible rfl
                          rotate_left
                          · simp only [Act.put, List.setIfInBounds_toArray, List.set_cons_zero, List.set_cons_succ, i64_w, i32_w]
                            rfl
                          refine take_ (i := 1) (N := some 50) (v := ?_) (a' := ?_) #[true, true, true, false, false, true, false, true, false, false, false, false] rfl rfl (take_ofW HT_.out HW_.out (by kernel_rfl)) (fun _ _ _ h => h) (Or.inl ⟨by rfl, ?_⟩) hHeld ?_ ?_
                          rotate_left
                          · rintro w' ⟨s0, s1, s2, s3, s4⟩
                            go_simp
                            with_reducible rfl
                          rotate_left
                          · simp only [Act.put, List.setIfInBounds_toArray, List.set_cons_zero, List.set_cons_succ, i64_w, i32_w]
                            rfl
                          refine take_ (i := 4) (N := some 53) (v := ?_) (a' := ?_) #[true, true, true, false, true, true, false, true, false, false, false, false] rfl rfl (take_ofW HT_.out HW_.out (by kernel_rfl)) (fun _ _ _ h => h) (Or.inl ⟨by rfl, ?_⟩) hHeld ?_ ?_
                          rotate_left
                          · rintro w' ⟨s0, s1, s2, s3, s4⟩
                            go_simp
                            with_reducible rfl
                          rotate_left
                          · simp only [Act.put, List.setIfInBounds_toArray, List.set_cons_zero, List.set_cons_succ, i64_w, i32_w]
                            rfl
                          refine take_ (i := 8) (N := some 57) (v := ?_) (a' := ?_) #[true, true, true, false, true, true, false, true, true, false, false, false] rfl rfl (take_ofW HT_.out HW_.out (by kernel_rfl)) (fun _ _ _ h => h) (Or.inl ⟨by rfl, ?_⟩) hHeld ?_ ?_
                          rotate_left
                          · rintro w' ⟨s0, s1, s2, s3, s4⟩
                            go_simp
                            with_reducible rfl
                          rotate_left
                          · simp only [Act.put, List.setIfInBounds_toArray, List.set_cons_zero, List.set_cons_succ, i64_w, i32_w]
                            rfl
                          refine one_ (i := 3) (N := some 52) #[true, true, true, true, true, true, false, true, true, false, false, false] rfl rfl (one_of HT_.out (by kernel_rfl)) (by decide) (fun K hK => ?_)
                          refine goes_ Try.func49 (by kernel_rfl) rfl #[.agg #[.int .i64 a0_0, .int .i64 a0_1, .slice (some ad394) l0_2.length c0_2], .int .i64 x44_2] (by rfl) rfl rfl arr_ ?_
                          with_reducible refine (impl_Plan_from.calls k2 a0_0 a0_1 _ _ l0_2 x44_2 t396 _ ?side1 ?side2 A28.out).mono ?_
                          (case side1 => exact kc_ (Kd.C_below HR0_2.out HB.out))
                          (case side2 => exact HC0_2.out)
                          rintro e w52 ⟨rfl, hb⟩
                          refine ⟨_, rfl, ?_⟩
                          have n0_ := Aside0.mk (bb_ BK389.out hb)
                          have n1_ := Aside0.mk (bb_ BK395.out hb)
                          have n2_ := Aside0.mk (below_step (hb2_ HB.out GE389.out GE395.out) hb)
                          clear BK389
                          clear BK395
                          clear HB
                          have BK389 := n0_
                          have BK395 := n1_
                          have HB := n2_
                          clear n0_ n1_ n2_
                          (try clear hb)
                          (try clear hb2)
                          (try clear hk)
                          (try clear hi)
                          refine hK.out _ _ ⟨(blk_cell BK389.out 0).trans rfl, (blk_cell BK389.out 1).trans rfl, (blk_cell BK389.out 2).trans rfl, (blk_cell BK395.out 0).trans rfl, (blk_cell BK395.out 1).trans rfl⟩ (fun hHeld => ?_)
                          clear hK K
                          refine norm_ (a' := ?_) ?_ ?_
                          rotate_left
                          · show Act.put _ (some 52) _ = _
                            simp only [Act.put, List.setIfInBounds_toArray, List.set_cons_zero, List.set_cons_succ, i64_w, i32_w]
                            rfl
                          refine one_ (i := 6) (N := some 55) #[true, true, true, true, true, true, true, true, true, false, false, false] rfl rfl (one_of HT_.out (by kernel_rfl)) (by decide) (fun K hK => ?_)
                          refine goes_ Try.func49 (by kernel_rfl) rfl #[.agg #[.int .i64 a0_0, .int .i64 a0_1, .slice (some ad394) l0_2.length c0_2], .int .i64 x44_2] (by rfl) rfl rfl arr_ ?_
                          with_reducible refine (impl_Plan_from.calls k2 a0_0 a0_1 _ _ l0_2 x44_2 t397 _ ?side1 ?side2 A29.out).mono ?_
                          (case side1 => exact kc_ (Kd.C_below HR0_2.out HB.out))
                          (case side2 => exact HC0_2.out)
                          rintro e w53 ⟨rfl, hb⟩
                          refine ⟨_, rfl, ?_⟩
                          have n0_ := Aside0.mk (bb_ BK389.out hb)
                          have n1_ := Aside0.mk (bb_ BK395.out hb)
                          have n2_ := Aside0.mk (below_step (hb2_ HB.out GE389.out GE395.out) hb)
                          clear BK389
                          clear BK395
                          clear HB
                          have BK389 := n0_
                          have BK395 := n1_
                          have HB := n2_
                          clear n0_ n1_ n2_
                          (try clear hb)
                          (try clear hb2)
                          (try clear hk)
                          (try clear hi)
                          refine hK.out _ _ ⟨(blk_cell BK389.out 0).trans rfl, (blk_cell BK389.out 1).trans rfl, (blk_cell BK389.out 2).trans rfl, (blk_cell BK395.out 0).trans rfl, (blk_cell BK395.out 1).trans rfl⟩ (fun hHeld => ?_)
                          clear hK K
                          refine norm_ (a' := ?_) ?_ ?_
                          rotate_left
                          · show Act.put _ (some 55) _ = _
                            simp only [Act.put, List.setIfInBounds_toArray, List.set_cons_zero, List.set_cons_succ, i64_w, i32_w]
                            rfl
                          refine pure_ (i := 9) (N := some 58) (v := ?_) (a' := ?_) #[true, true, true, true, true, true, true, true, true, true, false, false] rfl rfl (any_of HT_.out (by kernel_rfl)) (fun _ _ _ h => h) (Or.inl ⟨by rfl, ?_⟩) ?_ ?_
                          rotate_left
                          · intro w'
                            go_simp
                            with_reducible rfl
                          rotate_left
                          · simp only [Act.put, List.setIfInBounds_toArray, List.set_cons_zero, List.set_cons_succ, i64_w, i32_w]
                            rfl
                          refine pure_ (i := 10) (N := some 59) (v := ?_) (a' := ?_) #[true, true, true, true, true, true, true, true, true, true, true, false] rfl rfl (any_of HT_.out (by kernel_rfl)) (fun _ _ _ h => h) (Or.inl ⟨by rfl, ?_⟩) ?_ ?_
                          rotate_left
                          · intro w'
                            go_simp
                            with_reducible rfl
                          rotate_left
                          · simp only [Act.put, List.setIfInBounds_toArray, List.set_cons_zero, List.set_cons_succ, i64_w, i32_w]
                            rfl
                          refine one_ (i := 11) (N := some 60) #[true, true, true, true, true, true, true, true, true, true, true, true] rfl rfl (one_of HT_.out (by kernel_rfl)) (by decide) (fun K hK => ?_)
                          refine goes_ Try.func52 (by kernel_rfl) rfl #[.int .i64 (Int.tmod (wrap64 (a1 - a0_0)) t393), .int .i64 t396, .int .i64 (wrap64 ((wrap64 (t397 + ((rd_T60 l0_2 x44_2).f1))) - 1))] (by rfl) rfl rfl arr_ ?_
                          with_reducible refine (impl_in.calls (Int.tmod (wrap64 (a1 - a0_0)) t393) t396 (wrap64 ((wrap64 (t397 + ((rd_T60 l0_2 x44_2).f1))) - 1)) true _ A30.out).mono ?_
                          rintro e w' ⟨rfl, ⟨nd, rfl⟩⟩
                          refine ⟨_, rfl, ?_⟩
                          refine hK.out _ _ ⟨(blk_cell BK389.out 0).trans rfl, (blk_cell BK389.out 1).trans rfl, (blk_cell BK389.out 2).trans rfl, (blk_cell BK395.out 0).trans rfl, (blk_cell BK395.out 1).trans rfl⟩ (fun hHeld => ?_)
                          clear hK K
                          refine norm_ (a' := ?_) ?_ ?_
                          rotate_left
                          · show Act.put _ (some 60) _ = _
                            simp only [Act.put, List.setIfInBounds_toArray, List.set_cons_zero, List.set_cons_succ, i64_w, i32_w]
                            rfl
                          refine done_ (done_of HT_.out (by kernel_rfl)) ?_
                          have hcz54_0 := bc_ BK389.out 0 (.int .i64 a0_0) rfl
                          have hcz54_1 := bc_ BK389.out 1 (.int .i64 a0_1) rfl
                          have hcz54_2 : w53.cell? ⟨gb389, 2, none⟩ = some (.slice (some ad394) l0_2.length c0_2) := (blk_cell BK389.out 2).trans rfl
                          have hfz54_0 := blk_frozen BK389.out 0
                          have hfz54_1 := blk_frozen BK389.out 1
                          have hfz54_2 := blk_frozen BK389.out 2
                          try go_wp2_with (first | ((with_reducible refine gate_callee (f := 25) rfl ?_); refine goesL_ (some 65) rfl rfl Try.func25 (by kernel_rfl) rfl #[.agg #[.int .i64 a0_0, .int .i64 a0_1, .slice (some ad394) l0_2.length c0_2], .int .i64 x44_2, .int .i64 (wrap64 (Int.tdiv (wrap64 (a1 - a0_0)) t392))] rfl arr_ ?_; (with_reducible refine (impl_Occurrence.calls k2 a0_0 a0_1 _ _ l0_2 x44_2 (wrap64 (Int.tdiv (wrap64 (a1 - a0_0)) t392)) t399 t400 false _ ?side1 ?side2 A32.out).mono ?_); (case side1 => repeat (first | exact (Kd.C_below HR0_2.out (hb2_ HB.out GE389.out GE395.out)) | (with_reducible refine Kd.C_alloc ?_ _) | (with_reducible refine Kd.C_drewN ?_ _) | (with_reducible refine Kd.C_drew ?_))); (case side2 => exact HC0_2.out); rintro e w55 ⟨rfl, hb⟩; refine ⟨_, rfl, ?_⟩; have n0_ := Aside0.mk (bb_ BK389.out hb); have n1_ := Aside0.mk (bb_ BK395.out hb); have n2_ := Aside0.mk (below_step (hb2_ HB.out GE389.out GE395.out) hb); clear BK389; clear BK395; clear HB; have BK389 := n0_; have BK395 := n1_; have HB := n2_; clear n0_ n1_ n2_; (try clear hb); (try clear hb2); (try clear hk); (try clear hi)) | ((with_reducible refine gate_dst (N := 11) rfl ?_); refine box_event ?hg (N := 11) ?hd (cs := #[.int .i64 0, .int .i64 0]) (t := 40) ?hr ?_; (case hd => rfl); (case hg => rfl); (case hr => first | (go_simp; done) | (go_simp; rfl)); intro gb402 hg w56 hbox hb; have n0_ := Aside0.mk (bb_ BK389.out hb); have n1_ := Aside0.mk (bb_ BK395.out hb); have n2_ := Aside0.mk (below_step (hb2_ HB.out GE389.out GE395.out) hb); have n3_ := Aside0.mk (hbox); have n4_ := Aside0.mk ((by rw [hg]; exact (below_size (hb2_ HB.out GE389.out GE395.out)) : w.heap.size ≤ gb402)); have n5_ := Aside0.mk ((by rw [hg]; exact (below_size (hb2_ HB.out GE389.out GE395.out)) : w.heap.size ≤ gb402)); have n6_ := Aside0.mk ((bl_ hg BK389.out : gb389 ≠ gb402)); have n7_ := Aside0.mk ((bg_ hg BK389.out : gb402 ≠ gb389)); have n8_ := Aside0.mk ((bl_ hg BK395.out : gb395 ≠ gb402)); have n9_ := Aside0.mk ((bg_ hg BK395.out : gb402 ≠ gb395)); clear BK389; clear BK395; clear HB; have BK389 := n0_; have BK395 := n1_; have HB := n2_; have BK402 := n3_; have GW402 := n4_; have GE402 := n5_; have NB389_402 := n6_; have NB402_389 := n7_; have NB395_402 := n8_; have NB402_395 := n9_; clear n0_ n1_ n2_ n3_ n4_ n5_ n6_ n7_ n8_ n9_; clear hb hbox hg; have hnb57 := NB402_389.out; have hnc57 := NB389_402.out; have hnb58 := NB402_395.out; have hnc58 := NB395_402.out; have hcz59_0 := bc_ BK402.out 0 (.int .i64 0) rfl; have hcz59_1 := bc_ BK402.out 1 (.int .i64 0) rfl; have hfz59_0 := blk_frozen BK402.out 0; have hfz59_1 := blk_frozen BK402.out 1))
                          go_ret3
                          exact ⟨er_, hb3_ HB.out GE389.out GE395.out GE402.out⟩
                      · replace c31 := Bool.eq_false_iff.mpr c31
                        subst c31
                        have H1 : (impl_SlotAt.l0 k2 (wrap64 (Int.tdiv (wrap64 (a1 - a0_0)) t392)) (Int.tmod (wrap64 (a1 - a0_0)) t393) l0_2 (l0_2.length : Int) (wrap64 (x44_2 + 1)) a0_0 a0_1 l0_2) = some (r1, r2, r3) := by rw [if_neg (show ¬ (false = true) by decide)] at H; exact H
                        clear H
                        have H := H1
                        clear H1
                        have H' := Aside0.mk H
                        clear H
                        have p394 : 0 ≤ (x44_2 : Int) := of_decide_eq_true (by first | (with_reducible assumption) | assumption)
                        have q394 : x44_2 < (l0_2.length : Int) := of_decide_eq_true (by first | (with_reducible assumption) | assumption)
                        obtain ⟨ad394, e394, hx394_0, hx394_1⟩ := at_T60 HR0_2.out x44_2 p394 q394
                        cases e394
                        replace hx394_0 := (HB.out.cell (World.block_lt_of_cell? w _ hx394_0)).trans hx394_0
                        replace hx394_1 := (HB.out.cell (World.block_lt_of_cell? w _ hx394_1)).trans hx394_1
                        replace p394 := eq_true p394
                        replace q394 := eq_true q394
                        try go_wp2_with (first | ((with_reducible refine gate_dst (N := 10) rfl ?_); refine box_event ?hg (N := 10) ?hd (cs := #[.int .i64 0, .int .i64 0]) (t := 60) ?hr ?_; (case hd => rfl); (case hg => rfl); (case hr => first | (go_simp; done) | (go_simp; rfl)); intro gb395 hg w60 hbox hb; have n0_ := Aside0.mk (bb_ BK389.out hb); have n1_ := Aside0.mk (below_step (hb1_ HB.out GE389.out) hb); have n2_ := Aside0.mk (hbox); have n3_ := Aside0.mk ((by rw [hg]; exact (below_size (hb1_ HB.out GE389.out)) : w.heap.size ≤ gb395)); have n4_ := Aside0.mk ((by rw [hg]; exact (below_size (hb1_ HB.out GE389.out)) : w.heap.size ≤ gb395)); have n5_ := Aside0.mk ((bl_ hg BK389.out : gb389 ≠ gb395)); have n6_ := Aside0.mk ((bg_ hg BK389.out : gb395 ≠ gb389)); clear BK389; clear HB; have BK389 := n0_; have HB := n1_; have BK395 := n2_; have GW395 := n3_; have GE395 := n4_; have NB389_395 := n5_; have NB395_389 := n6_; clear n0_ n1_ n2_ n3_ n4_ n5_ n6_; clear hb hbox hg; have hnb61 := NB395_389.out; have hnc61 := NB389_395.out; have hcz62_0 := bc_ BK395.out 0 (.int .i64 0) rfl; have hcz62_1 := bc_ BK395.out 1 (.int .i64 0) rfl; have hfz62_0 := blk_frozen BK395.out 0; have hfz62_1 := blk_frozen BK395.out 1))
                        have n0_ : Aside0 (((w60.setCell ⟨gb395, 0, none⟩ (.int .i64 ((rd_T60 l0_2 x44_2).f0))).setCell ⟨gb395, 1, none⟩ (.int .i64 ((rd_T60 l0_2 x44_2).f1))).heap[gb389]? = some (.cells #[.int .i64 a0_0, .int .i64 a0_1, .slice (some ad394) l0_2.length c0_2] 29 (0, 0))) := ⟨by (with_reducible repeat (first | refine blk_drewN ?_ _ | refine blk_drew ?_ | refine blk_alloc ?_ _)); refine blk_far ?_ NB389_395.out _; (with_reducible repeat (first | refine blk_drewN ?_ _ | refine blk_drew ?_ | refine blk_alloc ?_ _)); refine blk_far ?_ NB389_395.out _; (with_reducible repeat (first | refine blk_drewN ?_ _ | refine blk_drew ?_ | refine blk_alloc ?_ _)); exact BK389.out⟩
                        have n1_ : Aside0 (((w60.setCell ⟨gb395, 0, none⟩ (.int .i64 ((rd_T60 l0_2 x44_2).f0))).setCell ⟨gb395, 1, none⟩ (.int .i64 ((rd_T60 l0_2 x44_2).f1))).heap[gb395]? = some (.cells #[.int .i64 ((rd_T60 l0_2 x44_2).f0), .int .i64 ((rd_T60 l0_2 x44_2).f1)] 60 (0, 0))) := ⟨by (with_reducible repeat (first | refine blk_drewN ?_ _ | refine blk_drew ?_ | refine blk_alloc ?_ _)); refine blk_put (cs := #[.int .i64 ((rd_T60 l0_2 x44_2).f0), .int .i64 0]) ?_ 1 _ rfl; (with_reducible repeat (first | refine blk_drewN ?_ _ | refine blk_drew ?_ | refine blk_alloc ?_ _)); refine blk_put (cs := #[.int .i64 0, .int .i64 0]) ?_ 0 _ rfl; (with_reducible repeat (first | refine blk_drewN ?_ _ | refine blk_drew ?_ | refine blk_alloc ?_ _)); exact BK395.out⟩
                        have n2_ : Aside0 (Below w.heap.size w ((w60.setCell ⟨gb395, 0, none⟩ (.int .i64 ((rd_T60 l0_2 x44_2).f0))).setCell ⟨gb395, 1, none⟩ (.int .i64 ((rd_T60 l0_2 x44_2).f1)))) := ⟨hb2_ HB.out GE389.out GE395.out⟩
                        (try clear BK389)
                        (try clear BK395)
                        (try clear HB)
                        generalize ((w60.setCell ⟨gb395, 0, none⟩ (.int .i64 ((rd_T60 l0_2 x44_2).f0))).setCell ⟨gb395, 1, none⟩ (.int .i64 ((rd_T60 l0_2 x44_2).f1))) = w63 at n0_ n1_ n2_ ⊢
                        have BK389 := n0_
                        have BK395 := n1_
                        have HB := n2_
                        clear n0_ n1_ n2_
                        have n0_ := Aside0.mk (blk_drew BK389.out)
                        have n1_ := Aside0.mk (blk_drew BK395.out)
                        have n2_ := Aside0.mk (below_drew1 HB.out)
                        clear BK389
                        clear BK395
                        clear HB
                        have BK389 := n0_
                        have BK395 := n1_
                        have HB := n2_
                        clear n0_ n1_ n2_
                        refine start_ (n := 12) (S := fun w' => w'.cell? ⟨gb389, 0, none⟩ = some (.int .i64 a0_0) ∧ w'.cell? ⟨gb389, 1, none⟩ = some (.int .i64 a0_1) ∧ w'.cell? ⟨gb389, 2, none⟩ = some (.slice (some ad394) l0_2.length c0_2) ∧ w'.cell? ⟨gb395, 0, none⟩ = some (.int .i64 ((rd_T60 l0_2 x44_2).f0)) ∧ w'.cell? ⟨gb395, 1, none⟩ = some (.int .i64 ((rd_T60 l0_2 x44_2).f1))) (ds := []) #[false, false, false, false, false, false, false, false, false, false, false, false] (by kernel_rfl) rfl rfl ⟨(blk_cell BK389.out 0).trans rfl, (blk_cell BK389.out 1).trans rfl, (blk_cell BK389.out 2).trans rfl, (blk_cell BK395.out 0).trans rfl, (blk_cell BK395.out 1).trans rfl⟩ (fun hHeld => ?_); refine with_tabW impl_SlotAt.tab7 impl_SlotAt.bits7 (fun HT_ HW_ => ?_)
                        generalize w63.drew = w64 at BK389 BK395 HB hHeld ⊢
                        refine pure_ (i := 0) (N := some 49) (v := ?_) (a' := ?_) #[true, false, false, false, false, false, false, false, false, false, false, false] rfl rfl (any_of HT_.out (by kernel_rfl)) (fun _ _ _ h => h) (Or.inl ⟨by rfl, ?_⟩) ?_ ?_
                        rotate_left
                        · intro w'
                          go_simp
                          with_reducible rfl
                        rotate_left
                        · simp only [Act.put, List.setIfInBounds_toArray, List.set_cons_zero, List.set_cons_succ, i64_w, i32_w]
                          rfl
                        refine pure_ (i := 2) (N := some 51) (v := ?_) (a' := ?_) #[true, false, true, false, false, false, false, false, false, false, false, false] rfl rfl (any_of HT_.out (by kernel_rfl)) (fun _ _ _ h => h) (Or.inl ⟨by rfl, ?_⟩) ?_ ?_
                        rotate_left
                        · intro w'
                          go_simp
                          with_reducible rfl
                        rotate_left
                        · simp only [Act.put, List.setIfInBounds_toArray, List.set_cons_zero, List.set_cons_succ, i64_w, i32_w]
                          rfl
                        refine pure_ (i := 5) (N := some 54) (v := ?_) (a' := ?_) #[true, false, true, false, false, true, false, false, false, false, false, false] rfl rfl (any_of HT_.out (by kernel_rfl)) (fun _ _ _ h => h) (Or.inl ⟨by rfl, ?_⟩) ?_ ?_
                        rotate_left
                        · intro w'
                          go_simp
                          with_reducible rfl
                        rotate_left
                        · simp only [Act.put, List.setIfInBounds_toArray, List.set_cons_zero, List.set_cons_succ, i64_w, i32_w]
                          rfl
                        refine pure_ (i := 7) (N := some 56) (v := ?_) (a' := ?_) #[true, false, true, false, false, true, false, true, false, false, false, false] rfl rfl (any_of HT_.out (by kernel_rfl)) (fun _ _ _ h => h) (Or.inl ⟨by rfl, ?_⟩) ?_ ?_
                        rotate_left
                        · intro w'
                          go_simp
                          with_reducible rfl
                        rotate_left
                        · simp only [Act.put, List.setIfInBounds_toArray, List.set_cons_zero, List.set_cons_succ, i64_w, i32_w]
                          rfl
                        refine take_ (i := 1) (N := some 50) (v := ?_) (a' := ?_) #[true, true, true, false, false, true, false, true, false, false, false, false] rfl rfl (take_ofW HT_.out HW_.out (by kernel_rfl)) (fun _ _ _ h => h) (Or.inl ⟨by rfl, ?_⟩) hHeld ?_ ?_
                        rotate_left
                        · rintro w' ⟨s0, s1, s2, s3, s4⟩
                          go_simp
                          with_reducible rfl
                        rotate_left
                        · simp only [Act.put, List.setIfInBounds_toArray, List.set_cons_zero, List.set_cons_succ, i64_w, i32_w]
                          rfl
                        refine take_ (i := 4) (N := some 53) (v := ?_) (a' := ?_) #[true, true, true, false, true, true, false, true, false, false, false, false] rfl rfl (take_ofW HT_.out HW_.out (by kernel_rfl)) (fun _ _ _ h => h) (Or.inl ⟨by rfl, ?_⟩) hHeld ?_ ?_
                        rotate_left
                        · rintro w' ⟨s0, s1, s2, s3, s4⟩
                          go_simp
                          with_reducible rfl
                        rotate_left
                        · simp only [Act.put, List.setIfInBounds_toArray, List.set_cons_zero, List.set_cons_succ, i64_w, i32_w]
                          rfl
                        refine take_ (i := 8) (N := some 57) (v := ?_) (a' := ?_) #[true, true, true, false, true, true, false, true, true, false, false, false] rfl rfl (take_ofW HT_.out HW_.out (by kernel_rfl)) (fun _ _ _ h => h) (Or.inl ⟨by rfl, ?_⟩) hHeld ?_ ?_
                        rotate_left
                        · rintro w' ⟨s0, s1, s2, s3, s4⟩
                          go_simp
                          with_reducible rfl
                        rotate_left
                        · simp only [Act.put, List.setIfInBounds_toArray, List.set_cons_zero, List.set_cons_succ, i64_w, i32_w]
                          rfl
                        refine one_ (i := 3) (N := some 52) #[true, true, true, true, true, true, false, true, true, false, false, false] rfl rfl (one_of HT_.out (by kernel_rfl)) (by decide) (fun K hK => ?_)
                        refine goes_ Try.func49 (by kernel_rfl) rfl #[.agg #[.int .i64 a0_0, .int .i64 a0_1, .slice (some ad394) l0_2.length c0_2], .int .i64 x44_2] (by rfl) rfl rfl arr_ ?_
                        with_reducible refine (impl_Plan_from.calls k2 a0_0 a0_1 _ _ l0_2 x44_2 t396 _ ?side1 ?side2 A28.out).mono ?_
                        (case side1 => exact kc_ (Kd.C_below HR0_2.out HB.out))
                        (case side2 => exact HC0_2.out)
                        rintro e w65 ⟨rfl, hb⟩
                        refine ⟨_, rfl, ?_⟩
                        have n0_ := Aside0.mk (bb_ BK389.out hb)
                        have n1_ := Aside0.mk (bb_ BK395.out hb)
                        have n2_ := Aside0.mk (below_step (hb2_ HB.out GE389.out GE395.out) hb)
                        clear BK389
                        clear BK395
                        clear HB
                        have BK389 := n0_
                        have BK395 := n1_
                        have HB := n2_
                        clear n0_ n1_ n2_
                        (try clear hb)
                        (try clear hb2)
                        (try clear hk)
                        (try clear hi)
                        refine hK.out _ _ ⟨(blk_cell BK389.out 0).trans rfl, (blk_cell BK389.out 1).trans rfl, (blk_cell BK389.out 2).trans rfl, (blk_cell BK395.out 0).trans rfl, (blk_cell BK395.out 1).trans rfl⟩ (fun hHeld => ?_)
                        clear hK K
                        refine norm_ (a' := ?_) ?_ ?_
                        rotate_left
                        · show Act.put _ (some 52) _ = _
                          simp only [Act.put, List.setIfInBounds_toArray, List.set_cons_zero, List.set_cons_succ, i64_w, i32_w]
                          rfl
                        refine one_ (i := 6) (N := some 55) #[true, true, true, true, true, true, true, true, true, false, false, false] rfl rfl (one_of HT_.out (by kernel_rfl)) (by decide) (fun K hK => ?_)
                        refine goes_ Try.func49 (by kernel_rfl) rfl #[.agg #[.int .i64 a0_0, .int .i64 a0_1, .slice (some ad394) l0_2.length c0_2], .int .i64 x44_2] (by rfl) rfl rfl arr_ ?_
                        with_reducible refine (impl_Plan_from.calls k2 a0_0 a0_1 _ _ l0_2 x44_2 t397 _ ?side1 ?side2 A29.out).mono ?_
                        (case side1 => exact kc_ (Kd.C_below HR0_2.out HB.out))
                        (case side2 => exact HC0_2.out)
                        rintro e w66 ⟨rfl, hb⟩
                        refine ⟨_, rfl, ?_⟩
                        have n0_ := Aside0.mk (bb_ BK389.out hb)
                        have n1_ := Aside0.mk (bb_ BK395.out hb)
                        have n2_ := Aside0.mk (below_step (hb2_ HB.out GE389.out GE395.out) hb)
                        clear BK389
                        clear BK395
                        clear HB
                        have BK389 := n0_
                        have BK395 := n1_
                        have HB := n2_
                        clear n0_ n1_ n2_
                        (try clear hb)
                        (try clear hb2)
                        (try clear hk)
                        (try clear hi)
                        refine hK.out _ _ ⟨(blk_cell BK389.out 0).trans rfl, (blk_cell BK389.out 1).trans rfl, (blk_cell BK389.out 2).trans rfl, (blk_cell BK395.out 0).trans rfl, (blk_cell BK395.out 1).trans rfl⟩ (fun hHeld => ?_)
                        clear hK K
                        refine norm_ (a' := ?_) ?_ ?_
                        rotate_left
                        · show Act.put _ (some 55) _ = _
                          simp only [Act.put, List.setIfInBounds_toArray, List.set_cons_zero, List.set_cons_succ, i64_w, i32_w]
                          rfl
                        refine pure_ (i := 9) (N := some 58) (v := ?_) (a' := ?_) #[true, true, true, true, true, true, true, true, true, true, false, false] rfl rfl (any_of HT_.out (by kernel_rfl)) (fun _ _ _ h => h) (Or.inl ⟨by rfl, ?_⟩) ?_ ?_
                        rotate_left
                        · intro w'
                          go_simp
                          with_reducible rfl
                        rotate_left
                        · simp only [Act.put, List.setIfInBounds_toArray, List.set_cons_zero, List.set_cons_succ, i64_w, i32_w]
                          rfl
                        refine pure_ (i := 10) (N := some 59) (v := ?_) (a' := ?_) #[true, true, true, true, true, true, true, true, true, true, true, false] rfl rfl (any_of HT_.out (by kernel_rfl)) (fun _ _ _ h => h) (Or.inl ⟨by rfl, ?_⟩) ?_ ?_
                        rotate_left
                        · intro w'
                          go_simp
                          with_reducible rfl
                        rotate_left
                        · simp only [Act.put, List.setIfInBounds_toArray, List.set_cons_zero, List.set_cons_succ, i64_w, i32_w]
                          rfl
                        refine one_ (i := 11) (N := some 60) #[true, true, true, true, true, true, true, true, true, true, true, true] rfl rfl (one_of HT_.out (by kernel_rfl)) (by decide) (fun K hK => ?_)
                        refine goes_ Try.func52 (by kernel_rfl) rfl #[.int .i64 (Int.tmod (wrap64 (a1 - a0_0)) t393), .int .i64 t396, .int .i64 (wrap64 ((wrap64 (t397 + ((rd_T60 l0_2 x44_2).f1))) - 1))] (by rfl) rfl rfl arr_ ?_
                        with_reducible refine (impl_in.calls (Int.tmod (wrap64 (a1 - a0_0)) t393) t396 (wrap64 ((wrap64 (t397 + ((rd_T60 l0_2 x44_2).f1))) - 1)) false _ A30.out).mono ?_
                        rintro e w' ⟨rfl, ⟨nd, rfl⟩⟩
                        refine ⟨_, rfl, ?_⟩
                        refine hK.out _ _ ⟨(blk_cell BK389.out 0).trans rfl, (blk_cell BK389.out 1).trans rfl, (blk_cell BK389.out 2).trans rfl, (blk_cell BK395.out 0).trans rfl, (blk_cell BK395.out 1).trans rfl⟩ (fun hHeld => ?_)
                        clear hK K
                        refine norm_ (a' := ?_) ?_ ?_
                        rotate_left
                        · show Act.put _ (some 60) _ = _
                          simp only [Act.put, List.setIfInBounds_toArray, List.set_cons_zero, List.set_cons_succ, i64_w, i32_w]
                          rfl
                        refine done_ (done_of HT_.out (by kernel_rfl)) ?_
                        try go_wp2
                        go_roundg k2
                        case measure => have := HJ2.out; have := HK2.out; omega
                        case rel => exact ⟨(wrap64 (x44_2 + 1)), (by first | rfl | (simp; done) | (simp [*]; done)), H', ⟨by have := HJ2.out; have := HK2.out; omega⟩, ⟨bk_ BK389.out⟩, ⟨hb2_ HB.out GE389.out GE395.out⟩⟩
                    · rw [if_neg c27] at H
                      exact absurd H (by simp)
                  · rw [if_neg c26] at H
                    exact absurd H (by simp)
                · rw [if_neg c25] at H
                  have c25b0 : decide (x44_2 < (l0_2.length : Int)) = false := decide_eq_false c25
                  clear c25
                  simp only [Option.some.injEq, Prod.mk.injEq] at H
                  obtain ⟨rfl, rfl, rfl⟩ := H
                  go_wp2
                  go_ret3
                  exact ⟨er_, hb1_ HB.out GE389.out⟩
end Go.Proofs.Ytakcaiigkdglhaa.P

namespace Go.Proofs.Ytakcaiigkdglhaa.P
open Go.RowKit Go.Proofs.YtakcaiigkdglhaaW.PrintWords Go.Proofs.YtakcaiigkdglhaaW.PrintLast Go.Proofs.YtakcaiigkdglhaaW.PrintMore
attribute [local go_sem] max2_int min2_int max_two min_two max_three min_three max_four min_four
set_option linter.unusedVariables false
set_option linter.unusedSimpArgs false
def spec_InSlot.j0 : Nat → Int → Int → Int → Bool → Int → Int → List (S60) → Option (Int × Int × Bool)
  | 0, _, _, _, _, _, _, _ => none
  | k + 1, x3, x11, x12, x39, x429000, x429001, x429002 => if x39 = true then (some (0, 0, false)) else ((spec_Occurrence.f k x429000 x429001 x429002 x11 x12).bind fun bt433 => (if x3 > bt433.2.1 then (some (0, 0, false)) else (some (x11, x12, true))))
def spec_InSlot.f (k : Nat) (a0_0 : Int) (a0_1 : Int) (l0_2 : List (S60)) (a1 : Int) (a2 : Int) (a3 : Int) : Option (Int × Int × Bool) := (spec_SlotAt.f k a0_0 a0_1 l0_2 a2).bind fun bt429 => (if bt429.2.2 = true then (if 0 ≤ bt429.1 then (if bt429.1 < (l0_2.length : Int) then (if ((rd_T60 l0_2 bt429.1).f0) = a1 then (spec_InSlot.j0 k a3 bt429.1 bt429.2.1 (decide (a2 > a3)) a0_0 a0_1 l0_2) else (spec_InSlot.j0 k a3 bt429.1 bt429.2.1 true a0_0 a0_1 l0_2)) else (none)) else (none)) else (spec_InSlot.j0 k a3 bt429.1 bt429.2.1 true a0_0 a0_1 l0_2))
theorem spec_InSlot.mono_l : ∀ k, (∀ y0 y1 y2 y3 y4 y5 y6, LeO (spec_InSlot.j0 k y0 y1 y2 y3 y4 y5 y6) (spec_InSlot.j0 (k + 1) y0 y1 y2 y3 y4 y5 y6))
  | 0 => fun _ _ _ _ _ _ _ r h => by simp [spec_InSlot.j0] at h
  | k + 1 => by
    have ih0 := spec_InSlot.mono_l k
    · intro y0 y1 y2 y3 y4 y5 y6
      unfold spec_InSlot.j0
      repeat' first
      | (with_reducible exact ih0 _ _ _ _ _ _ _)
      | (with_reducible exact spec_Occurrence.mono _ _ _ _ _ _)
      | (with_reducible exact spec_SlotAt.mono _ _ _ _ _)
      | (with_reducible exact LeO.refl _)
      | (with_reducible exact LeO.none _)
      | (with_reducible refine LeO.ite ?_ ?_)
      | (with_reducible refine LeO.bind ?_ (fun _ => ?_))
      | exact ih0 _ _ _ _ _ _ _
      | exact spec_Occurrence.mono _ _ _ _ _ _
      | exact spec_SlotAt.mono _ _ _ _ _
      | exact LeO.none _
      | refine LeO.ite ?_ ?_
      | refine LeO.bind ?_ (fun _ => ?_)
theorem spec_InSlot.mono : ∀ a0 a1 a2 a3 a4 a5 k, LeO (spec_InSlot.f k a0 a1 a2 a3 a4 a5) (spec_InSlot.f (k + 1) a0 a1 a2 a3 a4 a5) := by
  intro a0 a1 a2 a3 a4 a5 k
  have ih0 := spec_InSlot.mono_l k
  unfold spec_InSlot.f
  repeat' first
      | (with_reducible exact ih0 _ _ _ _ _ _ _)
      | (with_reducible exact spec_Occurrence.mono _ _ _ _ _ _)
      | (with_reducible exact spec_SlotAt.mono _ _ _ _ _)
      | (with_reducible exact LeO.refl _)
      | (with_reducible exact LeO.none _)
      | (with_reducible refine LeO.ite ?_ ?_)
      | (with_reducible refine LeO.bind ?_ (fun _ => ?_))
      | exact ih0 _ _ _ _ _ _ _
      | exact spec_Occurrence.mono _ _ _ _ _ _
      | exact spec_SlotAt.mono _ _ _ _ _
      | exact LeO.none _
      | refine LeO.ite ?_ ?_
      | refine LeO.bind ?_ (fun _ => ?_)
set_option maxHeartbeats 8000000 in
set_option maxRecDepth 100000 in
theorem spec_InSlot.calls (k : Nat) (a0_0 : Int) (a0_1 : Int) (A0_2 : Option Addr) (c0_2 : Nat) (l0_2 : List (S60)) (a1 : Int) (a2 : Int) (a3 : Int) (r1 : Int) (r2 : Int) (r3 : Bool) (w : World) (hr0_2 : Kd.C k60 w A0_2 l0_2.length l0_2) (hc0_2 : l0_2.length ≤ c0_2) (h : spec_InSlot.f k a0_0 a0_1 l0_2 a1 a2 a3 = some (r1, r2, r3)) :
    Calls Try.prog 29 #[.agg #[.int .i64 a0_0, .int .i64 a0_1, .slice A0_2 l0_2.length c0_2], .int .i64 a1, .int .i64 a2, .int .i64 a3] w fun e w' => e = .returned (.tuple #[.int .i64 r1, .int .i64 r2, .bool r3]) ∧ Below w.heap.size w w' := by
  have hu29 := Try.underlying29
  have hu40 := Try.underlying40
  have HR0_2 := Aside0.mk hr0_2
  have HC0_2 := Aside0.mk hc0_2
  clear hr0_2 hc0_2
  have HB := Aside0.mk (Below.refl w.heap.size w)
  have H : ((spec_SlotAt.f k a0_0 a0_1 l0_2 a2).bind fun bt429 => (if bt429.2.2 = true then (if 0 ≤ bt429.1 then (if bt429.1 < (l0_2.length : Int) then (if ((rd_T60 l0_2 bt429.1).f0) = a1 then (spec_InSlot.j0 k a3 bt429.1 bt429.2.1 (decide (a2 > a3)) a0_0 a0_1 l0_2) else (spec_InSlot.j0 k a3 bt429.1 bt429.2.1 true a0_0 a0_1 l0_2)) else (none)) else (none)) else (spec_InSlot.j0 k a3 bt429.1 bt429.2.1 true a0_0 a0_1 l0_2))) = some (r1, r2, r3) := h
  clear h
  replace H := Option.bind_eq_some_iff.mp H
  obtain ⟨⟨t429, t430, t431⟩, A50, H⟩ := H
  replace H : (if t431 = true then (if 0 ≤ t429 then (if t429 < (l0_2.length : Int) then (if ((rd_T60 l0_2 t429).f0) = a1 then (spec_InSlot.j0 k a3 t429 t430 (decide (a2 > a3)) a0_0 a0_1 l0_2) else (spec_InSlot.j0 k a3 t429 t430 true a0_0 a0_1 l0_2)) else (none)) else (none)) else (spec_InSlot.j0 k a3 t429 t430 true a0_0 a0_1 l0_2)) = some (r1, r2, r3) := H
  have A5 := Aside0.mk A50
  clear A50
  have HC6 := Aside0.mk H
  clear H
  go_enter Try.func29, Try.ntmps29
  go_upto_region 2 with (first | ((with_reducible refine gate_dst (N := 4) rfl ?_); refine box_event ?hg (N := 4) ?hd (cs := #[.int .i64 a0_0, .int .i64 a0_1, .slice A0_2 l0_2.length c0_2]) (t := 29) ?hr ?_; (case hd => rfl); (case hg => rfl); (case hr => first | (go_simp; done) | (go_simp; rfl)); intro gb428 hg w7 hbox hb; have n0_ := Aside0.mk (below_step (hb_ HB.out) hb); have n1_ := Aside0.mk (hbox); have n2_ := Aside0.mk ((by rw [hg]; exact (below_size (hb_ HB.out)) : w.heap.size ≤ gb428)); have n3_ := Aside0.mk ((by rw [hg]; exact (below_size (hb_ HB.out)) : w.heap.size ≤ gb428)); clear HB; have HB := n0_; have BK428 := n1_; have GW428 := n2_; have GE428 := n3_; clear n0_ n1_ n2_ n3_; clear hb hbox hg; have hcz8_0 := bc_ BK428.out 0 (.int .i64 a0_0) rfl; have hcz8_1 := bc_ BK428.out 1 (.int .i64 a0_1) rfl; have hcz8_2 := bc_ BK428.out 2 (.slice A0_2 l0_2.length c0_2) rfl; have hfz8_0 := blk_frozen BK428.out 0; have hfz8_1 := blk_frozen BK428.out 1; have hfz8_2 := blk_frozen BK428.out 2) | ((with_reducible refine gate_callee (f := 27) rfl ?_); refine goesL_ (some 19) rfl rfl Try.func27 (by kernel_rfl) rfl #[.agg #[.int .i64 a0_0, .int .i64 a0_1, .slice A0_2 l0_2.length c0_2], .int .i64 a2] rfl arr_ ?_; (with_reducible refine (spec_SlotAt.calls k a0_0 a0_1 _ _ l0_2 a2 t429 t430 t431 _ ?side1 ?side2 A5.out).mono ?_); (case side1 => exact kc_ (Kd.C_below HR0_2.out HB.out)); (case side2 => exact HC0_2.out); rintro e w9 ⟨rfl, hb⟩; refine ⟨_, rfl, ?_⟩; have n0_ := Aside0.mk (bb_ BK428.out hb); have n1_ := Aside0.mk (below_step (hb1_ HB.out GE428.out) hb); clear BK428; clear HB; have BK428 := n0_; have HB := n1_; clear n0_ n1_; (try clear hb); (try clear hb2); (try clear hk); (try clear hi)))
  (try simp only [Act.put, List.setIfInBounds_toArray, List.set_cons_zero, List.set_cons_succ])
  go_cut [39] (fun v39 wc => ∃ (kq : Nat) (x39_5 : Bool), v39 = .bool x39_5 ∧ Aside0 (spec_InSlot.j0 kq a3 t429 t430 x39_5 a0_0 a0_1 l0_2 = some (r1, r2, r3)) ∧ Aside0 (kq ≤ k) ∧ Aside0 (wc.heap[gb428]? = some (.cells #[.int .i64 a0_0, .int .i64 a0_1, (.slice A0_2 l0_2.length c0_2)] 29 (0, 0))) ∧ Aside0 (Below w.heap.size w wc))
  case first =>
    have H := HC6.out
    clear HC6
    by_cases c10 : t431 = true
    · subst c10
      have H1 : (if 0 ≤ t429 then (if t429 < (l0_2.length : Int) then (if ((rd_T60 l0_2 t429).f0) = a1 then (spec_InSlot.j0 k a3 t429 t430 (decide (a2 > a3)) a0_0 a0_1 l0_2) else (spec_InSlot.j0 k a3 t429 t430 true a0_0 a0_1 l0_2)) else (none)) else (none)) = some (r1, r2, r3) := by rw [if_pos rfl] at H; exact H
      clear H
      have H := H1
      clear H1
      by_cases c11 : 0 ≤ t429
      · rw [if_pos c11] at H
        have c11b0 : decide (0 ≤ t429) = true := decide_eq_true c11
        clear c11
        (first | rw [c11b0] | (simp only [i64_w, i32_w]; rw [c11b0]) | skip)
        by_cases c12 : t429 < (l0_2.length : Int)
        · rw [if_pos c12] at H
          have c12b0 : decide (t429 < (l0_2.length : Int)) = true := decide_eq_true c12
          clear c12
          by_cases c13 : ((rd_T60 l0_2 t429).f0) = a1
          · rw [if_pos c13] at H
            have c13b0 : (((rd_T60 l0_2 t429).f0) == a1) = true := beq_iff_eq.mpr c13
            have c13b1 : (((rd_T60 l0_2 t429).f0) != a1) = false := bne_eq_false_iff_eq.mpr c13
            clear c13
            have H' := Aside0.mk H
            clear H
            have hcz14_0 := bc_ BK428.out 0 (.int .i64 a0_0) rfl
            have hcz14_1 := bc_ BK428.out 1 (.int .i64 a0_1) rfl
            have hcz14_2 := bc_ BK428.out 2 (.slice A0_2 l0_2.length c0_2) rfl
            have hfz14_0 := blk_frozen BK428.out 0
            have hfz14_1 := blk_frozen BK428.out 1
            have hfz14_2 := blk_frozen BK428.out 2
            have p432 : 0 ≤ (t429 : Int) := of_decide_eq_true (by first | (with_reducible assumption) | assumption)
            have q432 : t429 < (l0_2.length : Int) := of_decide_eq_true (by first | (with_reducible assumption) | assumption)
            obtain ⟨ad432, e432, hx432_0, hx432_1⟩ := at_T60 HR0_2.out t429 p432 q432
            cases e432
            replace hx432_0 := (HB.out.cell (World.block_lt_of_cell? w _ hx432_0)).trans hx432_0
            replace hx432_1 := (HB.out.cell (World.block_lt_of_cell? w _ hx432_1)).trans hx432_1
            replace p432 := eq_true p432
            replace q432 := eq_true q432
            go_wp2
            go_meet
            case rel => exact ⟨_, (decide (a2 > a3)), (by first | rfl | (simp; done) | (simp [*]; done)), H', ⟨by first | omega | exact Nat.le_refl _⟩, ⟨bk_ BK428.out⟩, ⟨hb1_ HB.out GE428.out⟩⟩
          · rw [if_neg c13] at H
            have c13b0 : (((rd_T60 l0_2 t429).f0) == a1) = false := beq_eq_false_iff_ne.mpr c13
            have c13b1 : (((rd_T60 l0_2 t429).f0) != a1) = true := bne_iff_ne.mpr c13
            have H' := Aside0.mk H
            clear H
            have hcz15_0 := bc_ BK428.out 0 (.int .i64 a0_0) rfl
            have hcz15_1 := bc_ BK428.out 1 (.int .i64 a0_1) rfl
            have hcz15_2 := bc_ BK428.out 2 (.slice A0_2 l0_2.length c0_2) rfl
            have hfz15_0 := blk_frozen BK428.out 0
            have hfz15_1 := blk_frozen BK428.out 1
            have hfz15_2 := blk_frozen BK428.out 2
            have p432 : 0 ≤ (t429 : Int) := of_decide_eq_true (by first | (with_reducible assumption) | assumption)
            have q432 : t429 < (l0_2.length : Int) := of_decide_eq_true (by first | (with_reducible assumption) | assumption)
            obtain ⟨ad432, e432, hx432_0, hx432_1⟩ := at_T60 HR0_2.out t429 p432 q432
            cases e432
            replace hx432_0 := (HB.out.cell (World.block_lt_of_cell? w _ hx432_0)).trans hx432_0
            replace hx432_1 := (HB.out.cell (World.block_lt_of_cell? w _ hx432_1)).trans hx432_1
            replace p432 := eq_true p432
            replace q432 := eq_true q432
            go_wp2
            go_meet
            case rel => exact ⟨_, (true), (by first | rfl | (simp; done) | (simp [*]; done)), H', ⟨by first | omega | exact Nat.le_refl _⟩, ⟨bk_ BK428.out⟩, ⟨hb1_ HB.out GE428.out⟩⟩
        · rw [if_neg c12] at H
          exact absurd H (by simp)
      · rw [if_neg c11] at H
        exact absurd H (by simp)
    · replace c10 := Bool.eq_false_iff.mpr c10
      subst c10
      have H1 : (spec_InSlot.j0 k a3 t429 t430 true a0_0 a0_1 l0_2) = some (r1, r2, r3) := by rw [if_neg (show ¬ (false = true) by decide)] at H; exact H
      clear H
      have H := H1
      clear H1
      have H' := Aside0.mk H
      clear H
      go_wp2
      go_meet
      case rel => exact ⟨_, (true), (by first | rfl | (simp; done) | (simp [*]; done)), H', ⟨by first | omega | exact Nat.le_refl _⟩, ⟨bk_ BK428.out⟩, ⟨hb1_ HB.out GE428.out⟩⟩
  case rest =>
    clear HC6
    try clear c1
    try clear c2
    try clear p2
    try clear p4
    try clear q4
    try clear hx4
    try clear c10
    try clear c11
    try clear c11b0
    try clear c12
    try clear c12b0
    try clear c13
    try clear c13b0
    try clear c13b1
    try clear hcz14_0
    try clear hcz14_1
    try clear hcz14_2
    try clear hcz15_0
    try clear hcz15_1
    try clear hcz15_2
    try clear hcz8_0
    try clear hcz8_1
    try clear hcz8_2
    try clear hfz14_0
    try clear hfz14_1
    try clear hfz14_2
    try clear hfz15_0
    try clear hfz15_1
    try clear hfz15_2
    try clear hfz8_0
    try clear hfz8_1
    try clear hfz8_2
    try clear hx432_0
    try clear hx432_1
    try clear p432
    try clear q432
    obtain ⟨kq, x39_5, rfl, HA, HJ5, BK428, HB⟩ := hcut
    cases kq with
    | zero => exact absurd HA.out (by simp [spec_InSlot.j0])
    | succ kj5 =>
      have H := HA.out
      clear HA
      simp only [spec_InSlot.j0] at H
      by_cases c16 : x39_5 = true
      · subst c16
        have H1 : (some (0, 0, false)) = some (r1, r2, r3) := by rw [if_pos rfl] at H; exact H
        clear H
        have H := H1
        clear H1
        simp only [Option.some.injEq, Prod.mk.injEq] at H
        obtain ⟨rfl, rfl, rfl⟩ := H
        go_wp2
        go_ret3
        exact ⟨er_, hb1_ HB.out GE428.out⟩
      · replace c16 := Bool.eq_false_iff.mpr c16
        subst c16
        have H1 : ((spec_Occurrence.f kj5 a0_0 a0_1 l0_2 t429 t430).bind fun bt433 => (if a3 > bt433.2.1 then (some (0, 0, false)) else (some (t429, t430, true)))) = some (r1, r2, r3) := by rw [if_neg (show ¬ (false = true) by decide)] at H; exact H
        clear H
        have H := H1
        clear H1
        replace H := Option.bind_eq_some_iff.mp H
        obtain ⟨⟨t433, t434, t435⟩, A170, H⟩ := H
        replace H : (if a3 > t434 then (some (0, 0, false)) else (some (t429, t430, true))) = some (r1, r2, r3) := H
        have A17 := Aside0.mk A170
        clear A170
        by_cases c18 : a3 > t434
        · rw [if_pos c18] at H
          have c18b0 : decide (t434 < a3) = true := decide_eq_true c18
          clear c18
          simp only [Option.some.injEq, Prod.mk.injEq] at H
          obtain ⟨rfl, rfl, rfl⟩ := H
          have hcz19_0 := bc_ BK428.out 0 (.int .i64 a0_0) rfl
          have hcz19_1 := bc_ BK428.out 1 (.int .i64 a0_1) rfl
          have hcz19_2 := bc_ BK428.out 2 (.slice A0_2 l0_2.length c0_2) rfl
          have hfz19_0 := blk_frozen BK428.out 0
          have hfz19_1 := blk_frozen BK428.out 1
          have hfz19_2 := blk_frozen BK428.out 2
          go_wp2_with (first | ((with_reducible refine gate_callee (f := 24) rfl ?_); refine goesL_ (some 44) rfl rfl Try.func24 (by kernel_rfl) rfl #[.agg #[.int .i64 a0_0, .int .i64 a0_1, .slice A0_2 l0_2.length c0_2], .int .i64 t429, .int .i64 t430] rfl arr_ ?_; (with_reducible refine (spec_Occurrence.calls kj5 a0_0 a0_1 _ _ l0_2 t429 t430 t433 t434 t435 _ ?side1 ?side2 A17.out).mono ?_); (case side1 => exact kc_ (Kd.C_below HR0_2.out HB.out)); (case side2 => exact HC0_2.out); rintro e w20 ⟨rfl, hb⟩; refine ⟨_, rfl, ?_⟩; have n0_ := Aside0.mk (bb_ BK428.out hb); have n1_ := Aside0.mk (below_step (hb1_ HB.out GE428.out) hb); clear BK428; clear HB; have BK428 := n0_; have HB := n1_; clear n0_ n1_; (try clear hb); (try clear hb2); (try clear hk); (try clear hi)) | ((with_reducible refine gate_dst (N := 14) rfl ?_); refine box_event ?hg (N := 14) ?hd (cs := #[.int .i64 0, .int .i64 0]) (t := 40) ?hr ?_; (case hd => rfl); (case hg => rfl); (case hr => first | (go_simp; done) | (go_simp; rfl)); intro gb436 hg w21 hbox hb; have n0_ := Aside0.mk (bb_ BK428.out hb); have n1_ := Aside0.mk (below_step (hb1_ HB.out GE428.out) hb); have n2_ := Aside0.mk (hbox); have n3_ := Aside0.mk ((by rw [hg]; exact (below_size (hb1_ HB.out GE428.out)) : w.heap.size ≤ gb436)); have n4_ := Aside0.mk ((by rw [hg]; exact (below_size (hb1_ HB.out GE428.out)) : w.heap.size ≤ gb436)); have n5_ := Aside0.mk ((bl_ hg BK428.out : gb428 ≠ gb436)); have n6_ := Aside0.mk ((bg_ hg BK428.out : gb436 ≠ gb428)); clear BK428; clear HB; have BK428 := n0_; have HB := n1_; have BK436 := n2_; have GW436 := n3_; have GE436 := n4_; have NB428_436 := n5_; have NB436_428 := n6_; clear n0_ n1_ n2_ n3_ n4_ n5_ n6_; clear hb hbox hg; have hnb22 := NB436_428.out; have hnc22 := NB428_436.out; have hcz23_0 := bc_ BK436.out 0 (.int .i64 0) rfl; have hcz23_1 := bc_ BK436.out 1 (.int .i64 0) rfl; have hfz23_0 := blk_frozen BK436.out 0; have hfz23_1 := blk_frozen BK436.out 1))
          go_ret3
          exact ⟨er_, hb2_ HB.out GE428.out GE436.out⟩
        · rw [if_neg c18] at H
          have c18b0 : decide (t434 < a3) = false := decide_eq_false c18
          clear c18
          simp only [Option.some.injEq, Prod.mk.injEq] at H
          obtain ⟨rfl, rfl, rfl⟩ := H
          have hcz24_0 := bc_ BK428.out 0 (.int .i64 a0_0) rfl
          have hcz24_1 := bc_ BK428.out 1 (.int .i64 a0_1) rfl
          have hcz24_2 := bc_ BK428.out 2 (.slice A0_2 l0_2.length c0_2) rfl
          have hfz24_0 := blk_frozen BK428.out 0
          have hfz24_1 := blk_frozen BK428.out 1
          have hfz24_2 := blk_frozen BK428.out 2
          go_wp2_with (first | ((with_reducible refine gate_callee (f := 24) rfl ?_); refine goesL_ (some 44) rfl rfl Try.func24 (by kernel_rfl) rfl #[.agg #[.int .i64 a0_0, .int .i64 a0_1, .slice A0_2 l0_2.length c0_2], .int .i64 t429, .int .i64 t430] rfl arr_ ?_; (with_reducible refine (spec_Occurrence.calls kj5 a0_0 a0_1 _ _ l0_2 t429 t430 t433 t434 t435 _ ?side1 ?side2 A17.out).mono ?_); (case side1 => exact kc_ (Kd.C_below HR0_2.out HB.out)); (case side2 => exact HC0_2.out); rintro e w25 ⟨rfl, hb⟩; refine ⟨_, rfl, ?_⟩; have n0_ := Aside0.mk (bb_ BK428.out hb); have n1_ := Aside0.mk (below_step (hb1_ HB.out GE428.out) hb); clear BK428; clear HB; have BK428 := n0_; have HB := n1_; clear n0_ n1_; (try clear hb); (try clear hb2); (try clear hk); (try clear hi)) | ((with_reducible refine gate_dst (N := 14) rfl ?_); refine box_event ?hg (N := 14) ?hd (cs := #[.int .i64 0, .int .i64 0]) (t := 40) ?hr ?_; (case hd => rfl); (case hg => rfl); (case hr => first | (go_simp; done) | (go_simp; rfl)); intro gb436 hg w26 hbox hb; have n0_ := Aside0.mk (bb_ BK428.out hb); have n1_ := Aside0.mk (below_step (hb1_ HB.out GE428.out) hb); have n2_ := Aside0.mk (hbox); have n3_ := Aside0.mk ((by rw [hg]; exact (below_size (hb1_ HB.out GE428.out)) : w.heap.size ≤ gb436)); have n4_ := Aside0.mk ((by rw [hg]; exact (below_size (hb1_ HB.out GE428.out)) : w.heap.size ≤ gb436)); have n5_ := Aside0.mk ((bl_ hg BK428.out : gb428 ≠ gb436)); have n6_ := Aside0.mk ((bg_ hg BK428.out : gb436 ≠ gb428)); clear BK428; clear HB; have BK428 := n0_; have HB := n1_; have BK436 := n2_; have GW436 := n3_; have GE436 := n4_; have NB428_436 := n5_; have NB436_428 := n6_; clear n0_ n1_ n2_ n3_ n4_ n5_ n6_; clear hb hbox hg; have hnb27 := NB436_428.out; have hnc27 := NB428_436.out; have hcz28_0 := bc_ BK436.out 0 (.int .i64 0) rfl; have hcz28_1 := bc_ BK436.out 1 (.int .i64 0) rfl; have hfz28_0 := blk_frozen BK436.out 0; have hfz28_1 := blk_frozen BK436.out 1))
          go_ret3
          exact ⟨er_, hb2_ HB.out GE428.out GE436.out⟩
def impl_InSlot.j0 : Nat → Int → Int → Int → Bool → Int → Int → List (S60) → Option (Int × Int × Bool)
  | 0, _, _, _, _, _, _, _ => none
  | k + 1, x3, x11, x12, x39, x438000, x438001, x438002 => if x39 = true then (some (0, 0, false)) else ((impl_Occurrence.f k x438000 x438001 x438002 x11 x12).bind fun bt442 => (if x3 > bt442.2.1 then (some (0, 0, false)) else (some (x11, x12, true))))
def impl_InSlot.f (k : Nat) (a0_0 : Int) (a0_1 : Int) (l0_2 : List (S60)) (a1 : Int) (a2 : Int) (a3 : Int) : Option (Int × Int × Bool) := (impl_SlotAt.f k a0_0 a0_1 l0_2 a2).bind fun bt438 => (if bt438.2.2 = true then (if 0 ≤ bt438.1 then (if bt438.1 < (l0_2.length : Int) then (if ((rd_T60 l0_2 bt438.1).f0) = a1 then (impl_InSlot.j0 k a3 bt438.1 bt438.2.1 (decide (a2 > a3)) a0_0 a0_1 l0_2) else (impl_InSlot.j0 k a3 bt438.1 bt438.2.1 true a0_0 a0_1 l0_2)) else (none)) else (none)) else (impl_InSlot.j0 k a3 bt438.1 bt438.2.1 true a0_0 a0_1 l0_2))
theorem impl_InSlot.mono_l : ∀ k, (∀ y0 y1 y2 y3 y4 y5 y6, LeO (impl_InSlot.j0 k y0 y1 y2 y3 y4 y5 y6) (impl_InSlot.j0 (k + 1) y0 y1 y2 y3 y4 y5 y6))
  | 0 => fun _ _ _ _ _ _ _ r h => by simp [impl_InSlot.j0] at h
  | k + 1 => by
    have ih0 := impl_InSlot.mono_l k
    · intro y0 y1 y2 y3 y4 y5 y6
      unfold impl_InSlot.j0
      repeat' first
      | (with_reducible exact ih0 _ _ _ _ _ _ _)
      | (with_reducible exact impl_Occurrence.mono _ _ _ _ _ _)
      | (with_reducible exact impl_SlotAt.mono _ _ _ _ _)
      | (with_reducible exact LeO.refl _)
      | (with_reducible exact LeO.none _)
      | (with_reducible refine LeO.ite ?_ ?_)
      | (with_reducible refine LeO.bind ?_ (fun _ => ?_))
      | exact ih0 _ _ _ _ _ _ _
      | exact impl_Occurrence.mono _ _ _ _ _ _
      | exact impl_SlotAt.mono _ _ _ _ _
      | exact LeO.none _
      | refine LeO.ite ?_ ?_
      | refine LeO.bind ?_ (fun _ => ?_)
theorem impl_InSlot.mono : ∀ a0 a1 a2 a3 a4 a5 k, LeO (impl_InSlot.f k a0 a1 a2 a3 a4 a5) (impl_InSlot.f (k + 1) a0 a1 a2 a3 a4 a5) := by
  intro a0 a1 a2 a3 a4 a5 k
  have ih0 := impl_InSlot.mono_l k
  unfold impl_InSlot.f
  repeat' first
      | (with_reducible exact ih0 _ _ _ _ _ _ _)
      | (with_reducible exact impl_Occurrence.mono _ _ _ _ _ _)
      | (with_reducible exact impl_SlotAt.mono _ _ _ _ _)
      | (with_reducible exact LeO.refl _)
      | (with_reducible exact LeO.none _)
      | (with_reducible refine LeO.ite ?_ ?_)
      | (with_reducible refine LeO.bind ?_ (fun _ => ?_))
      | exact ih0 _ _ _ _ _ _ _
      | exact impl_Occurrence.mono _ _ _ _ _ _
      | exact impl_SlotAt.mono _ _ _ _ _
      | exact LeO.none _
      | refine LeO.ite ?_ ?_
      | refine LeO.bind ?_ (fun _ => ?_)
set_option maxHeartbeats 8000000 in
set_option maxRecDepth 100000 in
theorem impl_InSlot.calls (k : Nat) (a0_0 : Int) (a0_1 : Int) (A0_2 : Option Addr) (c0_2 : Nat) (l0_2 : List (S60)) (a1 : Int) (a2 : Int) (a3 : Int) (r1 : Int) (r2 : Int) (r3 : Bool) (w : World) (hr0_2 : Kd.C k60 w A0_2 l0_2.length l0_2) (hc0_2 : l0_2.length ≤ c0_2) (h : impl_InSlot.f k a0_0 a0_1 l0_2 a1 a2 a3 = some (r1, r2, r3)) :
    Calls Try.prog 30 #[.agg #[.int .i64 a0_0, .int .i64 a0_1, .slice A0_2 l0_2.length c0_2], .int .i64 a1, .int .i64 a2, .int .i64 a3] w fun e w' => e = .returned (.tuple #[.int .i64 r1, .int .i64 r2, .bool r3]) ∧ Below w.heap.size w w' := by
  have hu29 := Try.underlying29
  have hu40 := Try.underlying40
  have HR0_2 := Aside0.mk hr0_2
  have HC0_2 := Aside0.mk hc0_2
  clear hr0_2 hc0_2
  have HB := Aside0.mk (Below.refl w.heap.size w)
  have H : ((impl_SlotAt.f k a0_0 a0_1 l0_2 a2).bind fun bt438 => (if bt438.2.2 = true then (if 0 ≤ bt438.1 then (if bt438.1 < (l0_2.length : Int) then (if ((rd_T60 l0_2 bt438.1).f0) = a1 then (impl_InSlot.j0 k a3 bt438.1 bt438.2.1 (decide (a2 > a3)) a0_0 a0_1 l0_2) else (impl_InSlot.j0 k a3 bt438.1 bt438.2.1 true a0_0 a0_1 l0_2)) else (none)) else (none)) else (impl_InSlot.j0 k a3 bt438.1 bt438.2.1 true a0_0 a0_1 l0_2))) = some (r1, r2, r3) := h
  clear h
  replace H := Option.bind_eq_some_iff.mp H
  obtain ⟨⟨t438, t439, t440⟩, A50, H⟩ := H
  replace H : (if t440 = true then (if 0 ≤ t438 then (if t438 < (l0_2.length : Int) then (if ((rd_T60 l0_2 t438).f0) = a1 then (impl_InSlot.j0 k a3 t438 t439 (decide (a2 > a3)) a0_0 a0_1 l0_2) else (impl_InSlot.j0 k a3 t438 t439 true a0_0 a0_1 l0_2)) else (none)) else (none)) else (impl_InSlot.j0 k a3 t438 t439 true a0_0 a0_1 l0_2)) = some (r1, r2, r3) := H
  have A5 := Aside0.mk A50
  clear A50
  have HC6 := Aside0.mk H
  clear H
  go_enter Try.func30, Try.ntmps30
  go_upto_region 2 with (first | ((with_reducible refine gate_dst (N := 4) rfl ?_); refine box_event ?hg (N := 4) ?hd (cs := #[.int .i64 a0_0, .int .i64 a0_1, .slice A0_2 l0_2.length c0_2]) (t := 29) ?hr ?_; (case hd => rfl); (case hg => rfl); (case hr => first | (go_simp; done) | (go_simp; rfl)); intro gb437 hg w7 hbox hb; have n0_ := Aside0.mk (below_step (hb_ HB.out) hb); have n1_ := Aside0.mk (hbox); have n2_ := Aside0.mk ((by rw [hg]; exact (below_size (hb_ HB.out)) : w.heap.size ≤ gb437)); have n3_ := Aside0.mk ((by rw [hg]; exact (below_size (hb_ HB.out)) : w.heap.size ≤ gb437)); clear HB; have HB := n0_; have BK437 := n1_; have GW437 := n2_; have GE437 := n3_; clear n0_ n1_ n2_ n3_; clear hb hbox hg; have hcz8_0 := bc_ BK437.out 0 (.int .i64 a0_0) rfl; have hcz8_1 := bc_ BK437.out 1 (.int .i64 a0_1) rfl; have hcz8_2 := bc_ BK437.out 2 (.slice A0_2 l0_2.length c0_2) rfl; have hfz8_0 := blk_frozen BK437.out 0; have hfz8_1 := blk_frozen BK437.out 1; have hfz8_2 := blk_frozen BK437.out 2) | ((with_reducible refine gate_callee (f := 28) rfl ?_); refine goesL_ (some 19) rfl rfl Try.func28 (by kernel_rfl) rfl #[.agg #[.int .i64 a0_0, .int .i64 a0_1, .slice A0_2 l0_2.length c0_2], .int .i64 a2] rfl arr_ ?_; (with_reducible refine (impl_SlotAt.calls k a0_0 a0_1 _ _ l0_2 a2 t438 t439 t440 _ ?side1 ?side2 A5.out).mono ?_); (case side1 => exact kc_ (Kd.C_below HR0_2.out HB.out)); (case side2 => exact HC0_2.out); rintro e w9 ⟨rfl, hb⟩; refine ⟨_, rfl, ?_⟩; have n0_ := Aside0.mk (bb_ BK437.out hb); have n1_ := Aside0.mk (below_step (hb1_ HB.out GE437.out) hb); clear BK437; clear HB; have BK437 := n0_; have HB := n1_; clear n0_ n1_; (try clear hb); (try clear hb2); (try clear hk); (try clear hi)))
  (try simp only [Act.put, List.setIfInBounds_toArray, List.set_cons_zero, List.set_cons_succ])
  go_cut [39] (fun v39 wc => ∃ (kq : Nat) (x39_5 : Bool), v39 = .bool x39_5 ∧ Aside0 (impl_InSlot.j0 kq a3 t438 t439 x39_5 a0_0 a0_1 l0_2 = some (r1, r2, r3)) ∧ Aside0 (kq ≤ k) ∧ Aside0 (wc.heap[gb437]? = some (.cells #[.int .i64 a0_0, .int .i64 a0_1, (.slice A0_2 l0_2.length c0_2)] 29 (0, 0))) ∧ Aside0 (Below w.heap.size w wc))
  case first =>
    have H := HC6.out
    clear HC6
    by_cases c10 : t440 = true
    · subst c10
      have H1 : (if 0 ≤ t438 then (if t438 < (l0_2.length : Int) then (if ((rd_T60 l0_2 t438).f0) = a1 then (impl_InSlot.j0 k a3 t438 t439 (decide (a2 > a3)) a0_0 a0_1 l0_2) else (impl_InSlot.j0 k a3 t438 t439 true a0_0 a0_1 l0_2)) else (none)) else (none)) = some (r1, r2, r3) := by rw [if_pos rfl] at H; exact H
      clear H
      have H := H1
      clear H1
      by_cases c11 : 0 ≤ t438
      · rw [if_pos c11] at H
        have c11b0 : decide (0 ≤ t438) = true := decide_eq_true c11
        clear c11
        (first | rw [c11b0] | (simp only [i64_w, i32_w]; rw [c11b0]) | skip)
        by_cases c12 : t438 < (l0_2.length : Int)
        · rw [if_pos c12] at H
          have c12b0 : decide (t438 < (l0_2.length : Int)) = true := decide_eq_true c12
          clear c12
          by_cases c13 : ((rd_T60 l0_2 t438).f0) = a1
          · rw [if_pos c13] at H
            have c13b0 : (((rd_T60 l0_2 t438).f0) == a1) = true := beq_iff_eq.mpr c13
            have c13b1 : (((rd_T60 l0_2 t438).f0) != a1) = false := bne_eq_false_iff_eq.mpr c13
            clear c13
            have H' := Aside0.mk H
            clear H
            have hcz14_0 := bc_ BK437.out 0 (.int .i64 a0_0) rfl
            have hcz14_1 := bc_ BK437.out 1 (.int .i64 a0_1) rfl
            have hcz14_2 := bc_ BK437.out 2 (.slice A0_2 l0_2.length c0_2) rfl
            have hfz14_0 := blk_frozen BK437.out 0
            have hfz14_1 := blk_frozen BK437.out 1
            have hfz14_2 := blk_frozen BK437.out 2
            have p441 : 0 ≤ (t438 : Int) := of_decide_eq_true (by first | (with_reducible assumption) | assumption)
            have q441 : t438 < (l0_2.length : Int) := of_decide_eq_true (by first | (with_reducible assumption) | assumption)
            obtain ⟨ad441, e441, hx441_0, hx441_1⟩ := at_T60 HR0_2.out t438 p441 q441
            cases e441
            replace hx441_0 := (HB.out.cell (World.block_lt_of_cell? w _ hx441_0)).trans hx441_0
            replace hx441_1 := (HB.out.cell (World.block_lt_of_cell? w _ hx441_1)).trans hx441_1
            replace p441 := eq_true p441
            replace q441 := eq_true q441
            go_wp2
            go_meet
            case rel => exact ⟨_, (decide (a2 > a3)), (by first | rfl | (simp; done) | (simp [*]; done)), H', ⟨by first | omega | exact Nat.le_refl _⟩, ⟨bk_ BK437.out⟩, ⟨hb1_ HB.out GE437.out⟩⟩
          · rw [if_neg c13] at H
            have c13b0 : (((rd_T60 l0_2 t438).f0) == a1) = false := beq_eq_false_iff_ne.mpr c13
            have c13b1 : (((rd_T60 l0_2 t438).f0) != a1) = true := bne_iff_ne.mpr c13
            have H' := Aside0.mk H
            clear H
            have hcz15_0 := bc_ BK437.out 0 (.int .i64 a0_0) rfl
            have hcz15_1 := bc_ BK437.out 1 (.int .i64 a0_1) rfl
            have hcz15_2 := bc_ BK437.out 2 (.slice A0_2 l0_2.length c0_2) rfl
            have hfz15_0 := blk_frozen BK437.out 0
            have hfz15_1 := blk_frozen BK437.out 1
            have hfz15_2 := blk_frozen BK437.out 2
            have p441 : 0 ≤ (t438 : Int) := of_decide_eq_true (by first | (with_reducible assumption) | assumption)
            have q441 : t438 < (l0_2.length : Int) := of_decide_eq_true (by first | (with_reducible assumption) | assumption)
            obtain ⟨ad441, e441, hx441_0, hx441_1⟩ := at_T60 HR0_2.out t438 p441 q441
            cases e441
            replace hx441_0 := (HB.out.cell (World.block_lt_of_cell? w _ hx441_0)).trans hx441_0
            replace hx441_1 := (HB.out.cell (World.block_lt_of_cell? w _ hx441_1)).trans hx441_1
            replace p441 := eq_true p441
            replace q441 := eq_true q441
            go_wp2
            go_meet
            case rel => exact ⟨_, (true), (by first | rfl | (simp; done) | (simp [*]; done)), H', ⟨by first | omega | exact Nat.le_refl _⟩, ⟨bk_ BK437.out⟩, ⟨hb1_ HB.out GE437.out⟩⟩
        · rw [if_neg c12] at H
          exact absurd H (by simp)
      · rw [if_neg c11] at H
        exact absurd H (by simp)
    · replace c10 := Bool.eq_false_iff.mpr c10
      subst c10
      have H1 : (impl_InSlot.j0 k a3 t438 t439 true a0_0 a0_1 l0_2) = some (r1, r2, r3) := by rw [if_neg (show ¬ (false = true) by decide)] at H; exact H
      clear H
      have H := H1
      clear H1
      have H' := Aside0.mk H
      clear H
      go_wp2
      go_meet
      case rel => exact ⟨_, (true), (by first | rfl | (simp; done) | (simp [*]; done)), H', ⟨by first | omega | exact Nat.le_refl _⟩, ⟨bk_ BK437.out⟩, ⟨hb1_ HB.out GE437.out⟩⟩
  case rest =>
    clear HC6
    try clear c1
    try clear c2
    try clear p2
    try clear c3
    try clear p4
    try clear q4
    try clear hx4
    try clear c10
    try clear c11
    try clear c11b0
    try clear c12
    try clear c12b0
    try clear c13
    try clear c13b0
    try clear c13b1
    try clear hcz14_0
    try clear hcz14_1
    try clear hcz14_2
    try clear hcz15_0
    try clear hcz15_1
    try clear hcz15_2
    try clear hcz8_0
    try clear hcz8_1
    try clear hcz8_2
    try clear hfz14_0
    try clear hfz14_1
    try clear hfz14_2
    try clear hfz15_0
    try clear hfz15_1
    try clear hfz15_2
    try clear hfz8_0
    try clear hfz8_1
    try clear hfz8_2
    try clear hx441_0
    try clear hx441_1
    try clear p441
    try clear q441
    obtain ⟨kq, x39_5, rfl, HA, HJ5, BK437, HB⟩ := hcut
    cases kq with
    | zero => exact absurd HA.out (by simp [impl_InSlot.j0])
    | succ kj5 =>
      have H := HA.out
      clear HA
      simp only [impl_InSlot.j0] at H
      by_cases c16 : x39_5 = true
      · subst c16
        have H1 : (some (0, 0, false)) = some (r1, r2, r3) := by rw [if_pos rfl] at H; exact H
        clear H
        have H := H1
        clear H1
        simp only [Option.some.injEq, Prod.mk.injEq] at H
        obtain ⟨rfl, rfl, rfl⟩ := H
        go_wp2
        go_ret3
        exact ⟨er_, hb1_ HB.out GE437.out⟩
      · replace c16 := Bool.eq_false_iff.mpr c16
        subst c16
        have H1 : ((impl_Occurrence.f kj5 a0_0 a0_1 l0_2 t438 t439).bind fun bt442 => (if a3 > bt442.2.1 then (some (0, 0, false)) else (some (t438, t439, true)))) = some (r1, r2, r3) := by rw [if_neg (show ¬ (false = true) by decide)] at H; exact H
        clear H
        have H := H1
        clear H1
        replace H := Option.bind_eq_some_iff.mp H
        obtain ⟨⟨t442, t443, t444⟩, A170, H⟩ := H
        replace H : (if a3 > t443 then (some (0, 0, false)) else (some (t438, t439, true))) = some (r1, r2, r3) := H
        have A17 := Aside0.mk A170
        clear A170
        by_cases c18 : a3 > t443
        · rw [if_pos c18] at H
          have c18b0 : decide (t443 < a3) = true := decide_eq_true c18
          clear c18
          simp only [Option.some.injEq, Prod.mk.injEq] at H
          obtain ⟨rfl, rfl, rfl⟩ := H
          have hcz19_0 := bc_ BK437.out 0 (.int .i64 a0_0) rfl
          have hcz19_1 := bc_ BK437.out 1 (.int .i64 a0_1) rfl
          have hcz19_2 := bc_ BK437.out 2 (.slice A0_2 l0_2.length c0_2) rfl
          have hfz19_0 := blk_frozen BK437.out 0
          have hfz19_1 := blk_frozen BK437.out 1
          have hfz19_2 := blk_frozen BK437.out 2
          go_wp2_with (first | ((with_reducible refine gate_callee (f := 25) rfl ?_); refine goesL_ (some 44) rfl rfl Try.func25 (by kernel_rfl) rfl #[.agg #[.int .i64 a0_0, .int .i64 a0_1, .slice A0_2 l0_2.length c0_2], .int .i64 t438, .int .i64 t439] rfl arr_ ?_; (with_reducible refine (impl_Occurrence.calls kj5 a0_0 a0_1 _ _ l0_2 t438 t439 t442 t443 t444 _ ?side1 ?side2 A17.out).mono ?_); (case side1 => exact kc_ (Kd.C_below HR0_2.out HB.out)); (case side2 => exact HC0_2.out); rintro e w20 ⟨rfl, hb⟩; refine ⟨_, rfl, ?_⟩; have n0_ := Aside0.mk (bb_ BK437.out hb); have n1_ := Aside0.mk (below_step (hb1_ HB.out GE437.out) hb); clear BK437; clear HB; have BK437 := n0_; have HB := n1_; clear n0_ n1_; (try clear hb); (try clear hb2); (try clear hk); (try clear hi)) | ((with_reducible refine gate_dst (N := 14) rfl ?_); refine box_event ?hg (N := 14) ?hd (cs := #[.int .i64 0, .int .i64 0]) (t := 40) ?hr ?_; (case hd => rfl); (case hg => rfl); (case hr => first | (go_simp; done) | (go_simp; rfl)); intro gb445 hg w21 hbox hb; have n0_ := Aside0.mk (bb_ BK437.out hb); have n1_ := Aside0.mk (below_step (hb1_ HB.out GE437.out) hb); have n2_ := Aside0.mk (hbox); have n3_ := Aside0.mk ((by rw [hg]; exact (below_size (hb1_ HB.out GE437.out)) : w.heap.size ≤ gb445)); have n4_ := Aside0.mk ((by rw [hg]; exact (below_size (hb1_ HB.out GE437.out)) : w.heap.size ≤ gb445)); have n5_ := Aside0.mk ((bl_ hg BK437.out : gb437 ≠ gb445)); have n6_ := Aside0.mk ((bg_ hg BK437.out : gb445 ≠ gb437)); clear BK437; clear HB; have BK437 := n0_; have HB := n1_; have BK445 := n2_; have GW445 := n3_; have GE445 := n4_; have NB437_445 := n5_; have NB445_437 := n6_; clear n0_ n1_ n2_ n3_ n4_ n5_ n6_; clear hb hbox hg; have hnb22 := NB445_437.out; have hnc22 := NB437_445.out; have hcz23_0 := bc_ BK445.out 0 (.int .i64 0) rfl; have hcz23_1 := bc_ BK445.out 1 (.int .i64 0) rfl; have hfz23_0 := blk_frozen BK445.out 0; have hfz23_1 := blk_frozen BK445.out 1))
          go_ret3
          exact ⟨er_, hb2_ HB.out GE437.out GE445.out⟩
        · rw [if_neg c18] at H
          have c18b0 : decide (t443 < a3) = false := decide_eq_false c18
          clear c18
          simp only [Option.some.injEq, Prod.mk.injEq] at H
          obtain ⟨rfl, rfl, rfl⟩ := H
          have hcz24_0 := bc_ BK437.out 0 (.int .i64 a0_0) rfl
          have hcz24_1 := bc_ BK437.out 1 (.int .i64 a0_1) rfl
          have hcz24_2 := bc_ BK437.out 2 (.slice A0_2 l0_2.length c0_2) rfl
          have hfz24_0 := blk_frozen BK437.out 0
          have hfz24_1 := blk_frozen BK437.out 1
          have hfz24_2 := blk_frozen BK437.out 2
          go_wp2_with (first | ((with_reducible refine gate_callee (f := 25) rfl ?_); refine goesL_ (some 44) rfl rfl Try.func25 (by kernel_rfl) rfl #[.agg #[.int .i64 a0_0, .int .i64 a0_1, .slice A0_2 l0_2.length c0_2], .int .i64 t438, .int .i64 t439] rfl arr_ ?_; (with_reducible refine (impl_Occurrence.calls kj5 a0_0 a0_1 _ _ l0_2 t438 t439 t442 t443 t444 _ ?side1 ?side2 A17.out).mono ?_); (case side1 => exact kc_ (Kd.C_below HR0_2.out HB.out)); (case side2 => exact HC0_2.out); rintro e w25 ⟨rfl, hb⟩; refine ⟨_, rfl, ?_⟩; have n0_ := Aside0.mk (bb_ BK437.out hb); have n1_ := Aside0.mk (below_step (hb1_ HB.out GE437.out) hb); clear BK437; clear HB; have BK437 := n0_; have HB := n1_; clear n0_ n1_; (try clear hb); (try clear hb2); (try clear hk); (try clear hi)) | ((with_reducible refine gate_dst (N := 14) rfl ?_); refine box_event ?hg (N := 14) ?hd (cs := #[.int .i64 0, .int .i64 0]) (t := 40) ?hr ?_; (case hd => rfl); (case hg => rfl); (case hr => first | (go_simp; done) | (go_simp; rfl)); intro gb445 hg w26 hbox hb; have n0_ := Aside0.mk (bb_ BK437.out hb); have n1_ := Aside0.mk (below_step (hb1_ HB.out GE437.out) hb); have n2_ := Aside0.mk (hbox); have n3_ := Aside0.mk ((by rw [hg]; exact (below_size (hb1_ HB.out GE437.out)) : w.heap.size ≤ gb445)); have n4_ := Aside0.mk ((by rw [hg]; exact (below_size (hb1_ HB.out GE437.out)) : w.heap.size ≤ gb445)); have n5_ := Aside0.mk ((bl_ hg BK437.out : gb437 ≠ gb445)); have n6_ := Aside0.mk ((bg_ hg BK437.out : gb445 ≠ gb437)); clear BK437; clear HB; have BK437 := n0_; have HB := n1_; have BK445 := n2_; have GW445 := n3_; have GE445 := n4_; have NB437_445 := n5_; have NB445_437 := n6_; clear n0_ n1_ n2_ n3_ n4_ n5_ n6_; clear hb hbox hg; have hnb27 := NB445_437.out; have hnc27 := NB437_445.out; have hcz28_0 := bc_ BK445.out 0 (.int .i64 0) rfl; have hcz28_1 := bc_ BK445.out 1 (.int .i64 0) rfl; have hfz28_0 := blk_frozen BK445.out 0; have hfz28_1 := blk_frozen BK445.out 1))
          go_ret3
          exact ⟨er_, hb2_ HB.out GE437.out GE445.out⟩
end Go.Proofs.Ytakcaiigkdglhaa.P
namespace Go.Proofs.Ytakcaiigkdglhaa.C
open Go.RowKit Go.Proofs.Ytakcaiigkdglhaa.P Go.Proofs.Ytakcaiigkdglhaa.G
def uptoL (gap : Int) : List Sl → Int
  | [] => 0
  | x :: xs => x.f1 + gap + uptoL gap xs
theorem uptoL_append (gap : Int) (a b : List Sl) : uptoL gap (a ++ b) = uptoL gap a + uptoL gap b := by
  induction a with
  | nil => simp [uptoL]
  | cons x xs ih => simp only [List.cons_append, uptoL, ih]; omega
def upto (gap : Int) (l : List Sl) (n : Nat) : Int := uptoL gap (l.take n)
theorem upto_zero (gap : Int) (l : List Sl) : upto gap l 0 = 0 := rfl
theorem upto_succ (gap : Int) (l : List Sl) (i : Nat) (h : i < l.length) : upto gap l (i + 1) = upto gap l i + (l[i].f1 + gap) := by
  unfold upto; rw [List.take_succ_eq_append_getElem h, uptoL_append]; simp [uptoL]
def round (gap : Int) (l : List Sl) : Int := upto gap l l.length
theorem upto_bd {st gap : Int} {l : List Sl} (h : planOk st gap l = true) : ∀ n, n ≤ l.length → (n : Int) ≤ upto gap l n ∧ upto gap l n ≤ 1100000 * n := by
  rw [planOk_iff] at h
  intro n
  induction n with
  | zero => intro _; rw [upto_zero]; omega
  | succ n ih =>
    intro hn
    have h1 := ih (by omega)
    have h2 := slotsOk_get h.2.2.2 n (by omega)
    rw [upto_succ gap l n (by omega)]
    omega
theorem round_bd {st gap : Int} {l : List Sl} (h : planOk st gap l = true) : 1 ≤ round gap l ∧ round gap l ≤ 13200000 := by
  have h1 := upto_bd h l.length (Nat.le_refl _)
  rw [planOk_iff] at h
  unfold round; omega
theorem upto_mono {st gap : Int} {l : List Sl} (h : planOk st gap l = true) (i : Nat) : ∀ j, (hj : i < j) → (hl : j ≤ l.length) → upto gap l i + (l[i]'(by omega)).f1 + gap ≤ upto gap l j := by
  have h' := h
  rw [planOk_iff] at h'
  intro j
  induction j with
  | zero => intro hj; omega
  | succ j ih =>
    intro hj hl
    rw [upto_succ gap l j (by omega)]
    have h2 := slotsOk_get h'.2.2.2 j (by omega)
    rcases Nat.lt_or_ge i j with c | c
    · have := ih c (by omega); omega
    · obtain rfl : i = j := by omega
      omega
theorem iFrom {st gap : Int} {l : List Sl} (h : planOk st gap l = true) (n : Nat) (hn : n ≤ l.length) (k : Nat) (hk : 20 ≤ k) : impl_Plan_from.f k st gap l (n : Int) = some (upto gap l n) := by
  have h' := h
  rw [planOk_iff] at h'
  unfold impl_Plan_from.f
  rw [if_pos (by omega), if_pos (by omega)]
  simp only [Option.bind_some, Int.toNat_natCast]
  have hy : (l.take n).length = n := by simp; omega
  rw [hy]
  refine track_loop0 (n := n) (c := 0) (L := fun k s i => impl_Plan_from.l0 k s (l.take n) (n : Int) i st gap l) (F := fun i => upto gap l i) (fun k i hi _ => ?_) (fun k _ => ?_) k (by omega)
  · simp only [impl_Plan_from.l0]
    have hb := upto_bd h i (by omega)
    have hs := slotsOk_get h'.2.2.2 i (by omega)
    rw [if_pos (by omega), if_pos (by omega), if_pos (by omega), wrap_succ hi (by omega), rdSl (l.take n) i (by omega), List.getElem_take, upto_succ gap l i (by omega), wrap_id (x := l[i].f1 + gap) (by omega) (by omega), wrap_id (by omega) (by omega)]
  · simp only [impl_Plan_from.l0]
    rw [if_neg (by omega)]
theorem iRound {st gap : Int} {l : List Sl} (h : planOk st gap l = true) (k : Nat) (hk : 20 ≤ k) : impl_Plan_round.f k st gap l = some (round gap l) := by
  unfold impl_Plan_round.f; rw [iFrom h l.length (Nat.le_refl _) k hk]; rfl
theorem sUpto {st gap : Int} {l : List Sl} (h : planOk st gap l = true) (n : Nat) (hn : n ≤ l.length) (k : Nat) (hk : 20 ≤ k) : spec_l13Upto.f k st gap l (n : Int) = some (upto gap l n) := by
  have h' := h
  rw [planOk_iff] at h'
  unfold spec_l13Upto.f
  refine track_loop0 (n := n) (c := 0) (L := fun k s i => spec_l13Upto.l0 k (n : Int) s i st gap l) (F := fun i => upto gap l i) (fun k i hi _ => ?_) (fun k _ => ?_) k (by omega)
  · simp only [spec_l13Upto.l0]
    have hb := upto_bd h i (by omega)
    have hs := slotsOk_get h'.2.2.2 i (by omega)
    rw [if_pos (by omega), if_pos (by omega), if_pos (by omega), wrap_succ hi (by omega), rdSl l i (by omega), upto_succ gap l i (by omega), wrap_id (x := upto gap l i + l[i].f1) (by omega) (by omega), wrap_id (by omega) (by omega)]
    congr 1; omega
  · simp only [spec_l13Upto.l0]
    rw [if_neg (by omega)]
def roundOf (st gap : Int) (l : List Sl) : Int := if planOk st gap l = true then round gap l else 0
theorem sRoundOf (st gap : Int) (l : List Sl) (hl : l.length ≤ 1048576) (k : Nat) (hk : 1050000 ≤ k) : spec_RoundOf.f k st gap l = some (roundOf st gap l) := by
  unfold spec_RoundOf.f roundOf; rw [sPlanOk st gap l hl k (by omega)]
  simp only [Option.bind_some]
  cases h : planOk st gap l with
  | false => rfl
  | true => rw [if_pos rfl, sUpto h l.length (Nat.le_refl _) k (by omega)]; rfl
theorem sRoundOf' {st gap : Int} {l : List Sl} (h : planOk st gap l = true) (k : Nat) (hk : 20 ≤ k) : spec_RoundOf.f k st gap l = some (round gap l) := by
  have h' := h
  rw [planOk_iff] at h'
  unfold spec_RoundOf.f; rw [sPlanOk st gap l (by omega) k (by omega), h]
  simp only [Option.bind_some]
  rw [if_pos trivial, sUpto h l.length (Nat.le_refl _) k (by omega)]; rfl
theorem iRoundOf (st gap : Int) (l : List Sl) (hl : l.length ≤ 1048576) (k : Nat) (hk : 1050000 ≤ k) : impl_RoundOf.f k st gap l = some (roundOf st gap l) := by
  unfold impl_RoundOf.f roundOf; rw [iPlanOk st gap l hl k (by omega)]
  simp only [Option.bind_some]
  cases h : planOk st gap l with
  | false => rfl
  | true => rw [if_pos rfl, iRound h k (by omega)]; rfl
def isSlot (st gap : Int) (l : List Sl) (i : Int) : Bool := planOk st gap l && decide (0 ≤ i ∧ i < l.length)
theorem isSlot_iff (st gap : Int) (l : List Sl) (i : Int) : isSlot st gap l i = true ↔ planOk st gap l = true ∧ 0 ≤ i ∧ i < l.length := by unfold isSlot; simp
theorem sSlot (st gap : Int) (l : List Sl) (hl : l.length ≤ 1048576) (i : Int) (k : Nat) (hk : 1050000 ≤ k) : spec_l13Slot.f k st gap l i = some (isSlot st gap l i) := by
  unfold spec_l13Slot.f isSlot; rw [sPlanOk st gap l hl k (by omega)]
  simp only [Option.bind_some, l1In]
  rw [wrap_id (by omega) (by omega)]
  cases planOk st gap l with
  | false => rfl
  | true => rw [if_pos rfl, Bool.true_and]; congr 1; rw [decide_eq_decide]; omega
theorem sSlot' {st gap : Int} {l : List Sl} (h : planOk st gap l = true) (i : Nat) (hi : i < l.length) (k : Nat) (hk : 20 ≤ k) : spec_l13Slot.f k st gap l (i : Int) = some true := by
  have h' := h
  rw [planOk_iff] at h'
  unfold spec_l13Slot.f; rw [sPlanOk st gap l (by omega) k (by omega), h]
  simp only [Option.bind_some, l1In]
  rw [wrap_id (by omega) (by omega), if_pos trivial, decide_eq_true (by omega)]
theorem iSlot (st gap : Int) (l : List Sl) (hl : l.length ≤ 1048576) (i : Int) (k : Nat) (hk : 1050000 ≤ k) : impl_isSlot.f k st gap l i = some (isSlot st gap l i) := by
  unfold impl_isSlot.f isSlot; rw [iPlanOk st gap l hl k (by omega)]
  simp only [Option.bind_some, in_]
  rw [wrap_id (by omega) (by omega)]
  cases planOk st gap l with
  | false => rfl
  | true => rw [if_pos rfl, Bool.true_and]; congr 1; rw [decide_eq_decide]; omega
theorem iSlot' {st gap : Int} {l : List Sl} (h : planOk st gap l = true) (i : Nat) (hi : i < l.length) (k : Nat) (hk : 20 ≤ k) : impl_isSlot.f k st gap l (i : Int) = some true := by
  have h' := h
  rw [planOk_iff] at h'
  unfold impl_isSlot.f; rw [iPlanOk st gap l (by omega) k (by omega), h]
  simp only [Option.bind_some, in_]
  rw [wrap_id (by omega) (by omega), if_pos trivial, decide_eq_true (by omega)]
def slotFrom (st gap : Int) (l : List Sl) (i : Int) : Int × Bool := if isSlot st gap l i = true then (upto gap l i.toNat, true) else (0, false)
theorem sSlotFrom (st gap : Int) (l : List Sl) (hl : l.length ≤ 1048576) (i : Int) (k : Nat) (hk : 1050000 ≤ k) : spec_SlotFrom.f k st gap l i = some (slotFrom st gap l i) := by
  unfold spec_SlotFrom.f slotFrom; rw [sSlot st gap l hl i k hk]
  simp only [Option.bind_some]
  cases h : isSlot st gap l i with
  | false => rfl
  | true =>
    rw [isSlot_iff] at h
    obtain ⟨n, rfl⟩ := Int.eq_ofNat_of_zero_le h.2.1
    rw [if_pos rfl, sUpto h.1 n (by omega) k (by omega)]; rfl
theorem iSlotFrom (st gap : Int) (l : List Sl) (hl : l.length ≤ 1048576) (i : Int) (k : Nat) (hk : 1050000 ≤ k) : impl_SlotFrom.f k st gap l i = some (slotFrom st gap l i) := by
  unfold impl_SlotFrom.f slotFrom; rw [iSlot st gap l hl i k hk]
  simp only [Option.bind_some]
  cases h : isSlot st gap l i with
  | false => rfl
  | true =>
    rw [isSlot_iff] at h
    obtain ⟨n, rfl⟩ := Int.eq_ofNat_of_zero_le h.2.1
    rw [if_pos rfl, iFrom h.1 n (by omega) k (by omega)]; rfl
def occ (st gap : Int) (l : List Sl) (i : Nat) (q : Int) : Int × Int × Bool := if 0 ≤ q ∧ q ≤ 1000000000000 / round gap l then ivalT (st + q * round gap l + upto gap l i) (st + q * round gap l + upto gap l i + (match l[i]? with | some x => x.f1 | none => 0)) else (0, 0, false)
def occurrence (st gap : Int) (l : List Sl) (i q : Int) : Int × Int × Bool := if isSlot st gap l i = true then occ st gap l i.toNat q else (0, 0, false)
theorem q_bd {r q : Int} (hr : 1 ≤ r) (h : 0 ≤ q ∧ q ≤ 1000000000000 / r) : 0 ≤ q * r ∧ q * r ≤ 1000000000000 ∧ q ≤ 1000000000000 := by
  have h1 : q * r ≤ 1000000000000 := Int.le_trans (Int.mul_le_mul_of_nonneg_right h.2 (by omega)) (Int.ediv_mul_le _ (by omega))
  have h2 : 0 ≤ q * r := Int.mul_nonneg h.1 (by omega)
  have h3 : q * 1 ≤ q * r := Int.mul_le_mul_of_nonneg_left hr h.1
  omega
theorem div_bd {r : Int} (hr : 1 ≤ r) : 0 ≤ (1000000000000 : Int) / r ∧ (1000000000000 : Int) / r ≤ 1000000000000 :=
  ⟨Int.ediv_nonneg (by omega) (by omega), Int.ediv_le_self _ (by omega)⟩
theorem occ_told {st gap : Int} {l : List Sl} (h : planOk st gap l = true) (i : Nat) (hi : i < l.length) (q : Int) (hq : 0 ≤ q ∧ q ≤ 1000000000000 / round gap l) :
    (0 ≤ st + q * round gap l + upto gap l i ∧ st + q * round gap l + upto gap l i + l[i].f1 ≤ 3000000000000) ∧ wrap64 (wrap64 (st + wrap64 (q * round gap l)) + upto gap l i) = st + q * round gap l + upto gap l i ∧ wrap64 (st + q * round gap l + upto gap l i + l[i].f1) = st + q * round gap l + upto gap l i + l[i].f1 := by
  have hr := round_bd h
  have hb := q_bd hr.1 hq
  have hu := upto_bd h i (by omega)
  rw [planOk_iff] at h
  have hs := slotsOk_get h.2.2.2 i hi
  refine ⟨by omega, ?_, wrap_id (by omega) (by omega)⟩
  rw [wrap_id (x := q * round gap l) (by omega) (by omega), wrap_id (x := st + q * round gap l) (by omega) (by omega), wrap_id (by omega) (by omega)]
theorem sOcc {st gap : Int} {l : List Sl} (h : planOk st gap l = true) (i : Nat) (hi : i < l.length) (q : Int) (k : Nat) (hk : 30 ≤ k) : spec_Occurrence.f k st gap l (i : Int) q = some (occ st gap l i q) := by
  obtain ⟨k, rfl⟩ : ∃ j, k = j + 1 := ⟨k - 1, by omega⟩
  have hr := round_bd h
  have hd := div_bd hr.1
  unfold spec_Occurrence.f occ
  rw [sSlot' h i hi _ (by omega), sRoundOf' h _ (by omega)]
  simp only [Option.bind_some, l1In, spec_Occurrence.j0, if_true]
  rw [sRoundOf' h _ (by omega), sUpto h i (by omega) _ (by omega)]
  simp only [Option.bind_some]
  rw [if_neg (show ¬ round gap l = 0 by omega), Int.tdiv_eq_ediv_of_nonneg (by omega : (0 : Int) ≤ 1000000000000), wrap_id (x := 1000000000000 / round gap l) (by omega) (by omega), if_pos (show (0 : Int) ≤ i by omega), if_pos (show (i : Int) < l.length by omega), rdSl l i hi, List.getElem?_eq_getElem hi]
  by_cases hq : 0 ≤ q ∧ q ≤ 1000000000000 / round gap l
  · have ht := occ_told h i hi q hq
    have hb := q_bd hr.1 hq
    rw [decide_eq_true (by omega : 0 ≤ q ∧ q ≤ 1000000000000), if_pos rfl, decide_eq_false (by omega), if_neg (by decide), if_pos hq, ht.2.1, ht.2.2, sTold]
    rfl
  · rw [if_neg hq]
    by_cases h1 : 0 ≤ q ∧ q ≤ 1000000000000
    · rw [decide_eq_true h1, if_pos rfl, decide_eq_true (by omega), if_pos rfl]
    · rw [decide_eq_false h1]; rfl
theorem iOcc {st gap : Int} {l : List Sl} (h : planOk st gap l = true) (i : Nat) (hi : i < l.length) (q : Int) (k : Nat) (hk : 30 ≤ k) : impl_Occurrence.f k st gap l (i : Int) q = some (occ st gap l i q) := by
  obtain ⟨k, rfl⟩ : ∃ j, k = j + 1 := ⟨k - 1, by omega⟩
  have hr := round_bd h
  have hd := div_bd hr.1
  unfold impl_Occurrence.f occ
  rw [iSlot' h i hi _ (by omega), iRound h _ (by omega)]
  simp only [Option.bind_some, in_, impl_Occurrence.j0, if_true]
  rw [iRound h _ (by omega), iFrom h i (by omega) _ (by omega)]
  simp only [Option.bind_some]
  rw [if_neg (show ¬ round gap l = 0 by omega), Int.tdiv_eq_ediv_of_nonneg (by omega : (0 : Int) ≤ 1000000000000), wrap_id (x := 1000000000000 / round gap l) (by omega) (by omega), if_pos (show (0 : Int) ≤ i by omega), if_pos (show (i : Int) < l.length by omega), rdSl l i hi, List.getElem?_eq_getElem hi]
  by_cases hq : 0 ≤ q ∧ q ≤ 1000000000000 / round gap l
  · have ht := occ_told h i hi q hq
    rw [decide_eq_true hq, if_neg (by decide), if_pos hq, ht.2.1, ht.2.2, iIval]
    rfl
  · rw [if_neg hq, decide_eq_false hq]; rfl
theorem sOccurrence (st gap : Int) (l : List Sl) (hl : l.length ≤ 1048576) (i q : Int) (k : Nat) (hk : 1050100 ≤ k) : spec_Occurrence.f k st gap l i q = some (occurrence st gap l i q) := by
  unfold occurrence
  cases h : isSlot st gap l i with
  | false =>
    obtain ⟨k, rfl⟩ : ∃ j, k = j + 1 := ⟨k - 1, by omega⟩
    unfold spec_Occurrence.f
    rw [sSlot st gap l hl i _ (by omega), h]
    simp only [Option.bind_some, spec_Occurrence.j0]
    rfl
  | true =>
    rw [isSlot_iff] at h
    obtain ⟨n, rfl⟩ := Int.eq_ofNat_of_zero_le h.2.1
    rw [sOcc h.1 n (by omega) q k (by omega)]; rfl
theorem iOccurrence (st gap : Int) (l : List Sl) (hl : l.length ≤ 1048576) (i q : Int) (k : Nat) (hk : 1050100 ≤ k) : impl_Occurrence.f k st gap l i q = some (occurrence st gap l i q) := by
  unfold occurrence
  cases h : isSlot st gap l i with
  | false =>
    obtain ⟨k, rfl⟩ : ∃ j, k = j + 1 := ⟨k - 1, by omega⟩
    unfold impl_Occurrence.f
    rw [iSlot st gap l hl i _ (by omega), h]
    simp only [Option.bind_some, impl_Occurrence.j0]
    rfl
  | true =>
    rw [isSlot_iff] at h
    obtain ⟨n, rfl⟩ := Int.eq_ofNat_of_zero_le h.2.1
    rw [iOcc h.1 n (by omega) q k (by omega)]; rfl
end Go.Proofs.Ytakcaiigkdglhaa.C
namespace Go.Proofs.Ytakcaiigkdglhaa.V
open Go.RowKit Go.Proofs.Ytakcaiigkdglhaa.P Go.Proofs.Ytakcaiigkdglhaa.C Go.Proofs.Ytakcaiigkdglhaa.G
theorem FnExactOccurrence : ∀ (a0_0 : Int) (a0_1 : Int) (l0_2 : List (SlL)) (a1 : Int) (a2 : Int), (Lit.int .i64 a0_0).wf = true → (Lit.int .i64 a0_1).wf = true → (l0_2.length ≤ 9223372036854775807 ∧ ∀ y ∈ l0_2, ((Lit.int .i64 y.f0).wf = true ∧ (Lit.int .i64 y.f1).wf = true)) → (Lit.int .i64 a1).wf = true → (Lit.int .i64 a2).wf = true → ∃ k, laws_FnExactOccurrence.f k a0_0 a0_1 l0_2 a1 a2 = some true := by
  intro a b l a1 a2 wa wb hl0 w1 w2
  obtain ⟨hl, _⟩ := hl0
  refine ⟨2000000, ?_⟩
  unfold laws_FnExactOccurrence.f
  rcases szPlan a b l hl 1048576 (by omega) with h | ⟨h, hs⟩
  · rw [h]; simp
  rw [h]
  simp only [Option.bind_some]
  rw [if_neg (by omega)]
  have hm : (l.map toSl).length = l.length := by simp
  rw [toPlan a b l (by omega) _ (by omega)]
  simp only [Option.bind_some]
  unfold laws_eqIval.f
  have hj : ∀ k, 1999000 ≤ k → laws_FnExactOccurrence.j0 k false a b l a b (l.map toSl) = some true := by
    intro k hk
    obtain ⟨k, rfl⟩ : ∃ j, k = j + 1 := ⟨k - 1, by omega⟩
    simp only [laws_FnExactOccurrence.j0]
    rw [if_neg (by decide), toPlan a b l (by omega) _ (by omega)]
    simp only [Option.bind_some]
    rw [eqPlan _ _ _ (by omega) _ (by omega)]
    rfl
  rw [sOccurrence _ _ _ (by omega) _ _ _ (by omega), iOccurrence _ _ _ (by omega) _ _ _ (by omega)]
  simp only [Option.bind_some, if_true, bne_self_eq_false]
  exact hj _ (by omega)
end Go.Proofs.Ytakcaiigkdglhaa.V
namespace Go.Proofs.Ytakcaiigkdglhaa.Args
open Go.ChangeShapes Go.WideShapes Go.Deep Go.Proofs.YtakcaiigkdglhaaW.PrintWords
theorem trod_field {H : Type} {enc : TypeId × Value → H} {P : Program} {w : World} {base : Nat} {spare : Nat → Bool} {held : Bool} {fuel : Nat} {t : TypeId} {cs : List Value} {x : DataW H × List MemPlace} {fs : Array Field}
    (ht : P.underlying t = some (.struct fs)) (h : DataW.trod enc P w base spare held fuel t cs = some x) :
    cs.length = P.cellsOf t ∧ ∀ (i : Nat) (f : Field), fs[i]? = some f → ∃ n y, DataW.trod enc P w base spare held n f.type ((cs.drop f.offset).take (P.cellsOf f.type)) = some y := by
  obtain ⟨xs, n, rfl, _, hl, hx, hf⟩ := DataW.trod_struct ht h
  refine ⟨hl, fun i f hi => ⟨n, ?_⟩⟩
  have hi2 : i < fs.size := by
    rcases Nat.lt_or_ge i fs.size with h' | h'
    · exact h'
    · rw [Array.getElem?_eq_none h'] at hi; cases hi
  obtain ⟨y, hy⟩ : ∃ y, xs[i]? = some y := ⟨_, List.getElem?_eq_getElem (by omega)⟩
  exact ⟨y, by rw [hf i f hi, hy]⟩
theorem trod_at {H : Type} {enc : TypeId × Value → H} {P : Program} {w : World} {base : Nat} {spare : Nat → Bool} {held : Bool} {fuel : Nat} {t : TypeId} {cs : List Value} {x : DataW H × List MemPlace} {fs : Array Field}
    (ht : P.underlying t = some (.struct fs)) (h : DataW.trod enc P w base spare held fuel t cs = some x) (i : Nat) (ft : TypeId) (off sz : Nat) (cs' : List Value)
    (hf : ∃ f, fs[i]? = some f ∧ f.type = ft ∧ f.offset = off) (hw : P.cellsOf ft = sz) (hc : (cs.drop off).take sz = cs') : ∃ n y, DataW.trod enc P w base spare held n ft cs' = some y := by
  obtain ⟨f, h1, rfl, rfl⟩ := hf
  subst hw hc
  exact (trod_field ht h).2 i f h1
def Opens (P : Program) (t : TypeId) {α : Type} (d : Kd α) (B : α → Prop) : Prop :=
  ∀ {H : Type} {enc : TypeId × Value → H} {w : World} {base : Nat} {spare : Nat → Bool} {held : Bool} {fuel : Nat} {cs : List Value} {x : DataW H × List MemPlace},
    DataW.trod enc P w base spare held fuel t cs = some x → ∃ a, d.K w a cs ∧ B a
theorem open_row {H : Type} {enc : TypeId × Value → H} {P : Program} {w : World} {base : Nat} {spare : Nat → Bool} {held : Bool} {fuel : Nat} {t e : TypeId} {c : Value} {x : DataW H × List MemPlace} {α : Type} {d : Kd α} {B : α → Prop} (z : α)
    (ht : P.underlying t = some (.slice e)) (hsz : P.cellsOf e = d.sz) (he : Opens P e d B) (h : DataW.trod enc P w base spare held fuel t [c] = some x) :
    ∃ A cap l, c = .slice A l.length cap ∧ Kd.C d w A l.length l ∧ l.length ≤ cap ∧ l.length ≤ 9223372036854775807 ∧ ∀ y ∈ l, B y := by
  haveI : Inhabited α := ⟨z⟩
  rcases open_slice ht h with ⟨hc, _⟩ | ⟨a, len, cap, m, n, D, Pl, hc, _, hl, hm, hmm, _, hx⟩
  · obtain rfl := List.head_eq_of_cons_eq hc
    exact ⟨none, 0, [], rfl, Kd.C_nil _ _, Nat.le_refl _, by simp, fun y hy => by cases hy⟩
  · obtain rfl := List.head_eq_of_cons_eq hc
    have hlm : len ≤ m := by rw [hmm]; split <;> omega
    obtain ⟨f, hf⟩ := choose_lt (α := α) (n := len) (p := fun i y => (∃ c', c'.length = d.sz ∧ d.K w y c' ∧ ∀ k u, c'[k]? = some u → w.cell? (a.add (i * d.sz + k)) = some u) ∧ B y) (fun i hi => by
      obtain ⟨cs', h1, h2⟩ := hx i (by omega)
      obtain ⟨y, hk, hb⟩ := he h2
      refine ⟨y, ⟨cs', d.K_len hk, hk, fun k u hu => ?_⟩, hb⟩
      obtain ⟨_, hlen, hcell⟩ := World.cells?_some h1
      have hk2 : k < cs'.length := (List.getElem?_eq_some_iff.1 hu).1
      have := hcell k (by omega)
      rw [hsz, Addr.add_add] at this
      rw [this, hu])
    have hmax : len ≤ 9223372036854775807 := by unfold maxLen at hm; omega
    refine ⟨some a, cap, (List.range len).map f, by simp, ⟨by simp, by simpa using hmax, fun _ => ⟨a, rfl, fun j p hj => ?_⟩⟩, by simpa using hl, by simpa using hmax, fun y hy => ?_⟩
    · have hj2 : j < len := by simpa using (List.getElem?_eq_some_iff.1 hj).1
      rw [List.getElem?_map, List.getElem?_range hj2] at hj
      obtain rfl := Option.some.inj hj
      exact (hf j hj2).1
    · obtain ⟨j, hj, rfl⟩ := List.mem_map.1 hy
      exact (hf j (List.mem_range.1 hj)).2
theorem opens_int {P : Program} {t : TypeId} {k : IntKind} (ht : P.underlying t = some (.int k)) : Opens P t (Kd.int k) (fun x => (Lit.int k x).wf = true) := by
  intro H enc w base spare held fuel cs x h
  obtain ⟨n, rfl, _, hw⟩ := DataW.trod_int ht h
  exact ⟨n, rfl, hw⟩
theorem opens_bool {P : Program} {t : TypeId} (ht : P.underlying t = some .bool) : Opens P t Kd.bool (fun _ => True) := by
  intro H enc w base spare held fuel cs x h
  obtain ⟨n, rfl, _⟩ := DataW.trod_bool ht h
  exact ⟨n, rfl, trivial⟩
theorem opens_string {P : Program} {t : TypeId} (ht : P.underlying t = some .string) : Opens P t Kd.string (fun s => s.size ≤ 9223372036854775807) := by
  intro H enc w base spare held fuel cs x h
  obtain ⟨s, rfl, _, hs⟩ := DataW.trod_string ht h
  exact ⟨s, rfl, by unfold maxLen at hs; exact hs⟩
theorem opens_slice {P : Program} {t e : TypeId} {α : Type} {d : Kd α} {B : α → Prop} (z : α) (ht : P.underlying t = some (.slice e)) (hsz : P.cellsOf e = d.sz) (hc : P.cellsOf t = 1) (he : Opens P e d B) :
    Opens P t (Kd.slice e d) (fun l => l.length ≤ 9223372036854775807 ∧ ∀ y ∈ l, B y) := by
  intro H enc w base spare held fuel cs x h
  have h1 : ∃ c, cs = [c] := by
    rcases open_slice ht h with ⟨hc, _⟩ | ⟨a, len, cap, m, n, D, Pl, hc, _⟩
    · exact ⟨_, hc⟩
    · exact ⟨_, hc⟩
  obtain ⟨c, rfl⟩ := h1
  obtain ⟨A, cap, l, rfl, h1, h2, h3, h4⟩ := open_row z ht hsz he h
  exact ⟨l, ⟨A, cap, rfl, h2, h1⟩, h3, h4⟩
end Go.Proofs.Ytakcaiigkdglhaa.Args
