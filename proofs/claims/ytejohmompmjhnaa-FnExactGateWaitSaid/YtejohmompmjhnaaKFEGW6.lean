/- Texts of the seat's proofs, part 6: functions of the program told as plain functions, with their contracts, and what is shown of them. No condition. -/
import Derived.Test.YtejohmompmjhnaaUKFEGW
import Derived.Test.YtejohmompmjhnaaKFEGW1
import Derived.Test.YtejohmompmjhnaaKFEGW5
import Derived.Test.YtejohmompmjhnaaKFEGW4
set_option linter.unusedVariables false
set_option linter.unusedSimpArgs false
namespace Go.Proofs.Ytejohmompmjhnaa.P
open Go.RowKit Go.Proofs.YtejohmompmjhnaaW.PrintWords Go.Proofs.YtejohmompmjhnaaW.PrintLast Go.Proofs.YtejohmompmjhnaaW.PrintMore
attribute [local go_sem] max2_int min2_int max_two min_two max_three min_three max_four min_four
set_option linter.unusedVariables false
set_option linter.unusedSimpArgs false
mutual
def impl_SlotAt.j0 : Nat → Int → Bool → Int → Int → List (S55) → Option (Int × Int × Bool)
  | 0, _, _, _, _, _ => none
  | k + 1, x1, x26, x281000, x281001, x281002 => if x26 = true then (some (0, 0, false)) else ((impl_Plan_round.f k x281000 x281001 x281002).bind fun t283 => (if t283 = 0 then (none) else ((impl_Plan_round.f k x281000 x281001 x281002).bind fun t284 => (if t284 = 0 then (none) else (impl_SlotAt.l0 k (wrap64 (Int.tdiv (wrap64 (x1 - x281000)) t283)) (Int.tmod (wrap64 (x1 - x281000)) t284) x281002 (x281002.length : Int) 0 x281000 x281001 x281002)))))
def impl_SlotAt.l0 : Nat → Int → Int → List (S55) → Int → Int → Int → Int → List (S55) → Option (Int × Int × Bool)
  | 0, _, _, _, _, _, _, _, _ => none
  | k + 1, x7, x8, x42, x43, x44, x281000, x281001, x281002 => if x44 < x43 then (if 0 ≤ x44 then (if x44 < (x42.length : Int) then ((impl_Plan_from.f k x281000 x281001 x281002 x44).bind fun t287 => ((impl_Plan_from.f k x281000 x281001 x281002 x44).bind fun t288 => ((impl_in.f x8 t287 (wrap64 ((wrap64 (t288 + ((rd_T55 x42 x44).f1))) - 1))).bind fun t289 => (if t289 = true then ((impl_Occurrence.f k x281000 x281001 x281002 x44 x7).bind fun bt290 => (if bt290.2.2 = true then (some (x44, x7, true)) else (some (0, 0, false)))) else (impl_SlotAt.l0 k x7 x8 x42 x43 (wrap64 (x44 + 1)) x281000 x281001 x281002))))) else (none)) else (none)) else (some (0, 0, false))
end
def impl_SlotAt.f (k : Nat) (a0_0 : Int) (a0_1 : Int) (l0_2 : List (S55)) (a1 : Int) : Option (Int × Int × Bool) := (impl_PlanOk.f k a0_0 a0_1 l0_2).bind fun t281 => (if t281 = true then ((impl_isTime.f a1).bind fun t282 => (if t282 = true then (impl_SlotAt.j0 k a1 (decide (a1 < a0_0)) a0_0 a0_1 l0_2) else (impl_SlotAt.j0 k a1 true a0_0 a0_1 l0_2))) else (impl_SlotAt.j0 k a1 true a0_0 a0_1 l0_2))
theorem impl_SlotAt.mono_l : ∀ k, (∀ y0 y1 y2 y3 y4, LeO (impl_SlotAt.j0 k y0 y1 y2 y3 y4) (impl_SlotAt.j0 (k + 1) y0 y1 y2 y3 y4)) ∧ (∀ y0 y1 y2 y3 y4 y5 y6 y7, LeO (impl_SlotAt.l0 k y0 y1 y2 y3 y4 y5 y6 y7) (impl_SlotAt.l0 (k + 1) y0 y1 y2 y3 y4 y5 y6 y7))
  | 0 => ⟨fun _ _ _ _ _ r h => by simp [impl_SlotAt.j0] at h, fun _ _ _ _ _ _ _ _ r h => by simp [impl_SlotAt.l0] at h⟩
  | k + 1 => by
    obtain ⟨ih0, ih1⟩ := impl_SlotAt.mono_l k
    refine ⟨?_, ?_⟩
    · intro y0 y1 y2 y3 y4
      unfold impl_SlotAt.j0
      repeat' first
      | (with_reducible exact ih0 _ _ _ _ _)
      | (with_reducible exact ih1 _ _ _ _ _ _ _ _)
      | (with_reducible exact impl_Occurrence.mono _ _ _ _ _ _)
      | (with_reducible exact impl_PlanOk.mono _ _ _ _)
      | (with_reducible exact impl_Plan_from.mono _ _ _ _ _)
      | (with_reducible exact impl_Plan_round.mono _ _ _ _)
      | (with_reducible exact LeO.refl _)
      | (with_reducible exact LeO.none _)
      | (with_reducible refine LeO.ite ?_ ?_)
      | (with_reducible refine LeO.bind ?_ (fun _ => ?_))
      | exact ih0 _ _ _ _ _
      | exact ih1 _ _ _ _ _ _ _ _
      | exact impl_Occurrence.mono _ _ _ _ _ _
      | exact impl_PlanOk.mono _ _ _ _
      | exact impl_Plan_from.mono _ _ _ _ _
      | exact impl_Plan_round.mono _ _ _ _
      | exact LeO.none _
      | refine LeO.ite ?_ ?_
      | refine LeO.bind ?_ (fun _ => ?_)
    · intro y0 y1 y2 y3 y4 y5 y6 y7
      unfold impl_SlotAt.l0
      repeat' first
      | (with_reducible exact ih0 _ _ _ _ _)
      | (with_reducible exact ih1 _ _ _ _ _ _ _ _)
      | (with_reducible exact impl_Occurrence.mono _ _ _ _ _ _)
      | (with_reducible exact impl_PlanOk.mono _ _ _ _)
      | (with_reducible exact impl_Plan_from.mono _ _ _ _ _)
      | (with_reducible exact impl_Plan_round.mono _ _ _ _)
      | (with_reducible exact LeO.refl _)
      | (with_reducible exact LeO.none _)
      | (with_reducible refine LeO.ite ?_ ?_)
      | (with_reducible refine LeO.bind ?_ (fun _ => ?_))
      | exact ih0 _ _ _ _ _
      | exact ih1 _ _ _ _ _ _ _ _
      | exact impl_Occurrence.mono _ _ _ _ _ _
      | exact impl_PlanOk.mono _ _ _ _
      | exact impl_Plan_from.mono _ _ _ _ _
      | exact impl_Plan_round.mono _ _ _ _
      | exact LeO.none _
      | refine LeO.ite ?_ ?_
      | refine LeO.bind ?_ (fun _ => ?_)
theorem impl_SlotAt.mono : ∀ a0 a1 a2 a3 k, LeO (impl_SlotAt.f k a0 a1 a2 a3) (impl_SlotAt.f (k + 1) a0 a1 a2 a3) := by
  intro a0 a1 a2 a3 k
  obtain ⟨ih0, ih1⟩ := impl_SlotAt.mono_l k
  unfold impl_SlotAt.f
  repeat' first
      | (with_reducible exact ih0 _ _ _ _ _)
      | (with_reducible exact ih1 _ _ _ _ _ _ _ _)
      | (with_reducible exact impl_Occurrence.mono _ _ _ _ _ _)
      | (with_reducible exact impl_PlanOk.mono _ _ _ _)
      | (with_reducible exact impl_Plan_from.mono _ _ _ _ _)
      | (with_reducible exact impl_Plan_round.mono _ _ _ _)
      | (with_reducible exact LeO.refl _)
      | (with_reducible exact LeO.none _)
      | (with_reducible refine LeO.ite ?_ ?_)
      | (with_reducible refine LeO.bind ?_ (fun _ => ?_))
      | exact ih0 _ _ _ _ _
      | exact ih1 _ _ _ _ _ _ _ _
      | exact impl_Occurrence.mono _ _ _ _ _ _
      | exact impl_PlanOk.mono _ _ _ _
      | exact impl_Plan_from.mono _ _ _ _ _
      | exact impl_Plan_round.mono _ _ _ _
      | exact LeO.none _
      | refine LeO.ite ?_ ?_
      | refine LeO.bind ?_ (fun _ => ?_)
def impl_SlotAt.T3 : Bool × List (List Nat × List Nat) := (true, [([], []), ([], []), ([1], [1]), ([0, 2], [0, 2]), ([], []), ([4], [4]), ([3, 5], [3, 5]), ([], []), ([], []), ([8], [8]), ([7, 9], [7, 9]), ([], []), ([11, 5], [11]), ([10, 12], [10, 12]), ([6, 12, 0, 1, 2, 3, 4, 5, 6], [6]), ([13, 14, 0, 1, 2, 3, 4, 5, 6, 7, 8, 9, 10, 11, 12, 13, 14], [13])])
def impl_SlotAt.B3 : List Nat := [0, 0, 2, 7, 0, 16, 63, 0, 0, 256, 896, 0, 2096, 8112, 6271, 32767]
theorem impl_SlotAt.tab3 : rtab .any (opsOf Try.f88 3) = impl_SlotAt.T3 := by kernel_rfl
theorem impl_SlotAt.bits3 : waitsOk impl_SlotAt.T3.2 impl_SlotAt.B3 = true := by kernel_rfl
def impl_SlotAt.T7 : Bool × List (List Nat × List Nat) := (true, [([], []), ([], []), ([], []), ([1, 2], [1, 2]), ([], []), ([], []), ([4, 5, 3], [4, 5]), ([], []), ([7], [7]), ([6, 8], [6, 8]), ([9], [9]), ([0, 3, 10, 6], [0, 3, 10])])
def impl_SlotAt.B7 : List Nat := [0, 0, 0, 6, 0, 0, 62, 0, 128, 510, 1022, 2047]
theorem impl_SlotAt.tab7 : rtab .any (opsOf Try.f88 7) = impl_SlotAt.T7 := by kernel_rfl
theorem impl_SlotAt.bits7 : waitsOk impl_SlotAt.T7.2 impl_SlotAt.B7 = true := by kernel_rfl
set_option maxHeartbeats 8000000 in
set_option maxRecDepth 100000 in
theorem impl_SlotAt.calls (k : Nat) (a0_0 : Int) (a0_1 : Int) (A0_2 : Option Addr) (c0_2 : Nat) (l0_2 : List (S55)) (a1 : Int) (r1 : Int) (r2 : Int) (r3 : Bool) (w : World) (hr0_2 : Kd.C k55 w A0_2 l0_2.length l0_2) (hc0_2 : l0_2.length ≤ c0_2) (h : impl_SlotAt.f k a0_0 a0_1 l0_2 a1 = some (r1, r2, r3)) :
    Calls Try.prog 88 #[.agg #[.int .i64 a0_0, .int .i64 a0_1, .slice A0_2 l0_2.length c0_2], .int .i64 a1] w fun e w' => e = .returned (.tuple #[.int .i64 r1, .int .i64 r2, .bool r3]) ∧ Below w.heap.size w w' := by
  have hu38 := Try.underlying38
  have hu55 := Try.underlying55
  have hu32 := Try.underlying32
  have HR0_2 := Aside0.mk hr0_2
  have HC0_2 := Aside0.mk hc0_2
  clear hr0_2 hc0_2
  have HB := am_ (Below.refl w.heap.size w)
  have H : ((impl_PlanOk.f k a0_0 a0_1 l0_2).bind fun t281 => (if t281 = true then ((impl_isTime.f a1).bind fun t282 => (if t282 = true then (impl_SlotAt.j0 k a1 (decide (a1 < a0_0)) a0_0 a0_1 l0_2) else (impl_SlotAt.j0 k a1 true a0_0 a0_1 l0_2))) else (impl_SlotAt.j0 k a1 true a0_0 a0_1 l0_2))) = some (r1, r2, r3) := h
  clear h
  have HC3 := Aside0.mk H
  clear H
  go_enter Try.func88, Try.ntmps88
  go_upto_region 1 with (first | ((with_reducible refine gate_dst (N := 2) rfl ?_); refine box_event ?hg (N := 2) ?hd (cs := #[.int .i64 a0_0, .int .i64 a0_1, .slice A0_2 l0_2.length c0_2]) (t := 38) ?hr ?_; (case hd => rfl); (case hg => rfl); (case hr => first|(go_simp;done)|(go_simp;rfl)); intro gb280 hg w4 hbox hb; have n0_ := am_ (below_step (hb_ HB.out) hb); have n1_ := am_ (hbox); have n2_ := am_ (hy_ hg (hb_ HB.out) : w.heap.size ≤ gb280); have n3_ := am_ (hy_ hg (hb_ HB.out) : w.heap.size ≤ gb280); clear HB; have HB := n0_; have BK280 := n1_; have GW280 := n2_; have GE280 := n3_; clear n0_ n1_ n2_ n3_; clear hb hbox hg))
  (try simp only [Act.put, List.setIfInBounds_toArray, List.set_cons_zero, List.set_cons_succ])
  go_cut [26] (fun v26 wc => ∃ (kq : Nat) (x26_2 : Bool), v26 = .bool x26_2 ∧ Aside0 (impl_SlotAt.j0 kq a1 x26_2 a0_0 a0_1 l0_2 = some (r1, r2, r3)) ∧ Aside0 (kq ≤ k) ∧ Aside0 (wc.heap[gb280]? = some (.cells #[.int .i64 a0_0, .int .i64 a0_1, (.slice A0_2 l0_2.length c0_2)] 38 (0, 0))) ∧ Aside0 (Below w.heap.size w wc))
  case first =>
    have H := HC3.out
    clear HC3
    replace H := Option.bind_eq_some_iff.mp H
    obtain ⟨t281, A50, H⟩ := H
    replace H : (if t281 = true then ((impl_isTime.f a1).bind fun t282 => (if t282 = true then (impl_SlotAt.j0 k a1 (decide (a1 < a0_0)) a0_0 a0_1 l0_2) else (impl_SlotAt.j0 k a1 true a0_0 a0_1 l0_2))) else (impl_SlotAt.j0 k a1 true a0_0 a0_1 l0_2)) = some (r1, r2, r3) := H
    have A5 := Aside0.mk A50
    clear A50
    by_cases c6 : t281 = true
    · subst c6
      have H1 : ((impl_isTime.f a1).bind fun t282 => (if t282 = true then (impl_SlotAt.j0 k a1 (decide (a1 < a0_0)) a0_0 a0_1 l0_2) else (impl_SlotAt.j0 k a1 true a0_0 a0_1 l0_2))) = some (r1, r2, r3) := by rw [if_pos rfl] at H; exact H
      clear H
      have H := H1
      clear H1
      replace H := Option.bind_eq_some_iff.mp H
      obtain ⟨t282, A70, H⟩ := H
      replace H : (if t282 = true then (impl_SlotAt.j0 k a1 (decide (a1 < a0_0)) a0_0 a0_1 l0_2) else (impl_SlotAt.j0 k a1 true a0_0 a0_1 l0_2)) = some (r1, r2, r3) := H
      have A7 := Aside0.mk A70
      clear A70
      by_cases c8 : t282 = true
      · subst c8
        have H1 : (impl_SlotAt.j0 k a1 (decide (a1 < a0_0)) a0_0 a0_1 l0_2) = some (r1, r2, r3) := by rw [if_pos rfl] at H; exact H
        clear H
        have H := H1
        clear H1
        have H' := Aside0.mk H
        clear H
        have hcz9_0 := bc_ BK280.out 0 (.int .i64 a0_0) rfl
        have hcz9_1 := bc_ BK280.out 1 (.int .i64 a0_1) rfl
        have hcz9_2 := bc_ BK280.out 2 (.slice A0_2 l0_2.length c0_2) rfl
        have hfz9_0 := blk_frozen BK280.out 0
        have hfz9_1 := blk_frozen BK280.out 1
        have hfz9_2 := blk_frozen BK280.out 2
        go_wp2_with (first | ((with_reducible refine gate_callee (f := 46) rfl ?_); refine goesL_ (some 14) rfl rfl Try.func46 (by kernel_rfl) rfl #[.agg #[.int .i64 a0_0, .int .i64 a0_1, .slice A0_2 l0_2.length c0_2]] rfl arr_ ?_; (with_reducible refine (impl_PlanOk.calls k a0_0 a0_1 _ _ l0_2 true _ ?side1 ?side2 A5.out).mono ?_); (case side1 => exact kc_ (Kd.C_below HR0_2.out HB.out)); (case side2 => exact HC0_2.out); rintro e w10 ⟨rfl, hb⟩; refine ⟨_, rfl, ?_⟩; have n0_ := am_ (bb_ BK280.out hb); have n1_ := am_ (below_step (hb1_ HB.out GE280.out) hb); clear BK280; clear HB; have BK280 := n0_; have HB := n1_; clear n0_ n1_; (try clear hb); (try clear hb2); (try clear hk); (try clear hi)) | (go_at_call 75; (with_reducible refine (impl_isTime.calls a1 true _ A7.out).mono ?_); rintro e w' ⟨rfl, ⟨nd, rfl⟩⟩; have hcz11_0 := bc_ BK280.out 0 (.int .i64 a0_0) rfl; have hcz11_1 := bc_ BK280.out 1 (.int .i64 a0_1) rfl; have hcz11_2 := bc_ BK280.out 2 (.slice A0_2 l0_2.length c0_2) rfl; have hfz11_0 := blk_frozen BK280.out 0; have hfz11_1 := blk_frozen BK280.out 1; have hfz11_2 := blk_frozen BK280.out 2))
        go_meet
        case rel => exact ⟨_, (decide (a1 < a0_0)), (by first | rfl | (simp; done) | (simp [*]; done)), H', ⟨by first | omega | exact Nat.le_refl _⟩, ⟨bk_ BK280.out⟩, ⟨hb1_ HB.out GE280.out⟩⟩
      · replace c8 := Bool.eq_false_iff.mpr c8
        subst c8
        have H1 : (impl_SlotAt.j0 k a1 true a0_0 a0_1 l0_2) = some (r1, r2, r3) := by rw [if_neg (show ¬ (false = true) by decide)] at H; exact H
        clear H
        have H := H1
        clear H1
        have H' := Aside0.mk H
        clear H
        have hcz12_0 := bc_ BK280.out 0 (.int .i64 a0_0) rfl
        have hcz12_1 := bc_ BK280.out 1 (.int .i64 a0_1) rfl
        have hcz12_2 := bc_ BK280.out 2 (.slice A0_2 l0_2.length c0_2) rfl
        have hfz12_0 := blk_frozen BK280.out 0
        have hfz12_1 := blk_frozen BK280.out 1
        have hfz12_2 := blk_frozen BK280.out 2
        go_wp2_with (first | ((with_reducible refine gate_callee (f := 46) rfl ?_); refine goesL_ (some 14) rfl rfl Try.func46 (by kernel_rfl) rfl #[.agg #[.int .i64 a0_0, .int .i64 a0_1, .slice A0_2 l0_2.length c0_2]] rfl arr_ ?_; (with_reducible refine (impl_PlanOk.calls k a0_0 a0_1 _ _ l0_2 true _ ?side1 ?side2 A5.out).mono ?_); (case side1 => exact kc_ (Kd.C_below HR0_2.out HB.out)); (case side2 => exact HC0_2.out); rintro e w13 ⟨rfl, hb⟩; refine ⟨_, rfl, ?_⟩; have n0_ := am_ (bb_ BK280.out hb); have n1_ := am_ (below_step (hb1_ HB.out GE280.out) hb); clear BK280; clear HB; have BK280 := n0_; have HB := n1_; clear n0_ n1_; (try clear hb); (try clear hb2); (try clear hk); (try clear hi)) | (go_at_call 75; (with_reducible refine (impl_isTime.calls a1 false _ A7.out).mono ?_); rintro e w' ⟨rfl, ⟨nd, rfl⟩⟩))
        go_meet
        case rel => exact ⟨_, (true), (by first | rfl | (simp; done) | (simp [*]; done)), H', ⟨by first | omega | exact Nat.le_refl _⟩, ⟨bk_ BK280.out⟩, ⟨hb1_ HB.out GE280.out⟩⟩
    · replace c6 := Bool.eq_false_iff.mpr c6
      subst c6
      have H1 : (impl_SlotAt.j0 k a1 true a0_0 a0_1 l0_2) = some (r1, r2, r3) := by rw [if_neg (show ¬ (false = true) by decide)] at H; exact H
      clear H
      have H := H1
      clear H1
      have H' := Aside0.mk H
      clear H
      have hcz14_0 := bc_ BK280.out 0 (.int .i64 a0_0) rfl
      have hcz14_1 := bc_ BK280.out 1 (.int .i64 a0_1) rfl
      have hcz14_2 := bc_ BK280.out 2 (.slice A0_2 l0_2.length c0_2) rfl
      have hfz14_0 := blk_frozen BK280.out 0
      have hfz14_1 := blk_frozen BK280.out 1
      have hfz14_2 := blk_frozen BK280.out 2
      go_wp2_with (first | ((with_reducible refine gate_callee (f := 46) rfl ?_); refine goesL_ (some 14) rfl rfl Try.func46 (by kernel_rfl) rfl #[.agg #[.int .i64 a0_0, .int .i64 a0_1, .slice A0_2 l0_2.length c0_2]] rfl arr_ ?_; (with_reducible refine (impl_PlanOk.calls k a0_0 a0_1 _ _ l0_2 false _ ?side1 ?side2 A5.out).mono ?_); (case side1 => exact kc_ (Kd.C_below HR0_2.out HB.out)); (case side2 => exact HC0_2.out); rintro e w15 ⟨rfl, hb⟩; refine ⟨_, rfl, ?_⟩; have n0_ := am_ (bb_ BK280.out hb); have n1_ := am_ (below_step (hb1_ HB.out GE280.out) hb); clear BK280; clear HB; have BK280 := n0_; have HB := n1_; clear n0_ n1_; (try clear hb); (try clear hb2); (try clear hk); (try clear hi)))
      go_meet
      case rel => exact ⟨_, (true), (by first | rfl | (simp; done) | (simp [*]; done)), H', ⟨by first | omega | exact Nat.le_refl _⟩, ⟨bk_ BK280.out⟩, ⟨hb1_ HB.out GE280.out⟩⟩
  case rest =>
    clear HC3
    try clear p2
    try clear c4
    try clear c6
    try clear c8
    try clear hcz11_0
    try clear hcz11_1
    try clear hcz11_2
    try clear hcz12_0
    try clear hcz12_1
    try clear hcz12_2
    try clear hcz14_0
    try clear hcz14_1
    try clear hcz14_2
    try clear hcz9_0
    try clear hcz9_1
    try clear hcz9_2
    try clear hfz11_0
    try clear hfz11_1
    try clear hfz11_2
    try clear hfz12_0
    try clear hfz12_1
    try clear hfz12_2
    try clear hfz14_0
    try clear hfz14_1
    try clear hfz14_2
    try clear hfz9_0
    try clear hfz9_1
    try clear hfz9_2
    obtain ⟨kq, x26_2, rfl, HA, HJ2, BK280, HB⟩ := hcut
    cases kq with
    | zero => exact absurd HA.out (by simp [impl_SlotAt.j0])
    | succ kj2 =>
      have H := HA.out
      clear HA
      simp only [impl_SlotAt.j0] at H
      by_cases c16 : x26_2 = true
      · subst c16
        have H1 : (some (0, 0, false)) = some (r1, r2, r3) := by rw [if_pos rfl] at H; exact H
        clear H
        have H := H1
        clear H1
        simp only [Option.some.injEq, Prod.mk.injEq] at H
        obtain ⟨rfl, rfl, rfl⟩ := H
        go_wp2
        go_ret3
        exact ⟨er_, hb1_ HB.out GE280.out⟩
      · replace c16 := Bool.eq_false_iff.mpr c16
        subst c16
        have H1 : ((impl_Plan_round.f kj2 a0_0 a0_1 l0_2).bind fun t283 => (if t283 = 0 then (none) else ((impl_Plan_round.f kj2 a0_0 a0_1 l0_2).bind fun t284 => (if t284 = 0 then (none) else (impl_SlotAt.l0 kj2 (wrap64 (Int.tdiv (wrap64 (a1 - a0_0)) t283)) (Int.tmod (wrap64 (a1 - a0_0)) t284) l0_2 (l0_2.length : Int) 0 a0_0 a0_1 l0_2))))) = some (r1, r2, r3) := by rw [if_neg (show ¬ (false = true) by decide)] at H; exact H
        clear H
        have H := H1
        clear H1
        replace H := Option.bind_eq_some_iff.mp H
        obtain ⟨t283, A170, H⟩ := H
        replace H : (if t283 = 0 then (none) else ((impl_Plan_round.f kj2 a0_0 a0_1 l0_2).bind fun t284 => (if t284 = 0 then (none) else (impl_SlotAt.l0 kj2 (wrap64 (Int.tdiv (wrap64 (a1 - a0_0)) t283)) (Int.tmod (wrap64 (a1 - a0_0)) t284) l0_2 (l0_2.length : Int) 0 a0_0 a0_1 l0_2)))) = some (r1, r2, r3) := H
        have A17 := Aside0.mk A170
        clear A170
        by_cases c18 : t283 = 0
        · rw [if_pos c18] at H
          exact absurd H (by simp)
        · rw [if_neg c18] at H
          have c18b0 : (t283 == 0) = false := beq_eq_false_iff_ne.mpr c18
          have c18b1 : (t283 != 0) = true := bne_iff_ne.mpr c18
          replace H := Option.bind_eq_some_iff.mp H
          obtain ⟨t284, A190, H⟩ := H
          replace H : (if t284 = 0 then (none) else (impl_SlotAt.l0 kj2 (wrap64 (Int.tdiv (wrap64 (a1 - a0_0)) t283)) (Int.tmod (wrap64 (a1 - a0_0)) t284) l0_2 (l0_2.length : Int) 0 a0_0 a0_1 l0_2)) = some (r1, r2, r3) := H
          have A19 := Aside0.mk A190
          clear A190
          by_cases c20 : t284 = 0
          · rw [if_pos c20] at H
            exact absurd H (by simp)
          · rw [if_neg c20] at H
            have c20b0 : (t284 == 0) = false := beq_eq_false_iff_ne.mpr c20
            have c20b1 : (t284 != 0) = true := bne_iff_ne.mpr c20
            have H' := Aside0.mk H
            clear H
            try go_wp2
            have n0_ := am_ (blk_drew BK280.out)
            have n1_ := am_ (below_drew1 HB.out)
            clear BK280
            clear HB
            have BK280 := n0_
            have HB := n1_
            clear n0_ n1_
            refine start_ (n := 16) (S := fun w' => w'.cell? ⟨gb280, 0, none⟩ = some (.int .i64 a0_0) ∧ w'.cell? ⟨gb280, 1, none⟩ = some (.int .i64 a0_1) ∧ w'.cell? ⟨gb280, 2, none⟩ = some (.slice A0_2 l0_2.length c0_2)) (ds := []) #[false, false, false, false, false, false, false, false, false, false, false, false, false, false, false, false] (by kernel_rfl) rfl rfl ⟨(blk_cell BK280.out 0).trans rfl, (blk_cell BK280.out 1).trans rfl, (blk_cell BK280.out 2).trans rfl⟩ (fun hHeld => ?_); refine with_tabW impl_SlotAt.tab3 impl_SlotAt.bits3 (fun HT_ HW_ => ?_)
            generalize wc.drew = w21 at BK280 HB hHeld ⊢
            refine pure_ (i := 0) (N := some 27) (v := ?_) (a' := ?_) #[true, false, false, false, false, false, false, false, false, false, false, false, false, false, false, false] rfl rfl (any_of HT_.out (by kernel_rfl)) (fun _ _ _ h => h) (Or.inl ⟨by rfl, ?_⟩) ?_ ?_
            rotate_left
            · intro w'
              go_simp
              with_reducible rfl
            rotate_left
            · simp only [Act.put, List.setIfInBounds_toArray, List.set_cons_zero, List.set_cons_succ, i64_w, i32_w]
              rfl
            refine pure_ (i := 1) (N := some 28) (v := ?_) (a' := ?_) #[true, true, false, false, false, false, false, false, false, false, false, false, false, false, false, false] rfl rfl (any_of HT_.out (by kernel_rfl)) (fun _ _ _ h => h) (Or.inl ⟨by rfl, ?_⟩) ?_ ?_
            rotate_left
            · intro w'
              go_simp
              with_reducible rfl
            rotate_left
            · simp only [Act.put, List.setIfInBounds_toArray, List.set_cons_zero, List.set_cons_succ, i64_w, i32_w]
              rfl
            refine pure_ (i := 7) (N := some 34) (v := ?_) (a' := ?_) #[true, true, false, false, false, false, false, true, false, false, false, false, false, false, false, false] rfl rfl (any_of HT_.out (by kernel_rfl)) (fun _ _ _ h => h) (Or.inl ⟨by rfl, ?_⟩) ?_ ?_
            rotate_left
            · intro w'
              go_simp
              with_reducible rfl
            rotate_left
            · simp only [Act.put, List.setIfInBounds_toArray, List.set_cons_zero, List.set_cons_succ, i64_w, i32_w]
              rfl
            refine pure_ (i := 8) (N := some 35) (v := ?_) (a' := ?_) #[true, true, false, false, false, false, false, true, true, false, false, false, false, false, false, false] rfl rfl (any_of HT_.out (by kernel_rfl)) (fun _ _ _ h => h) (Or.inl ⟨by rfl, ?_⟩) ?_ ?_
            rotate_left
            · intro w'
              go_simp
              with_reducible rfl
            rotate_left
            · simp only [Act.put, List.setIfInBounds_toArray, List.set_cons_zero, List.set_cons_succ, i64_w, i32_w]
              rfl
            refine take_ (i := 2) (N := some 29) (v := ?_) (a' := ?_) #[true, true, true, false, false, false, false, true, true, false, false, false, false, false, false, false] rfl rfl (take_ofW HT_.out HW_.out (by kernel_rfl)) (fun _ _ _ h => h) (Or.inl ⟨by rfl, ?_⟩) hHeld ?_ ?_
            rotate_left
            · rintro w' ⟨s0, s1, s2⟩
              go_simp
              with_reducible rfl
            rotate_left
            · simp only [Act.put, List.setIfInBounds_toArray, List.set_cons_zero, List.set_cons_succ, i64_w, i32_w]
              rfl
            refine pure_ (i := 3) (N := some 30) (v := ?_) (a' := ?_) #[true, true, true, true, false, false, false, true, true, false, false, false, false, false, false, false] rfl rfl (any_of HT_.out (by kernel_rfl)) (fun _ _ _ h => h) (Or.inl ⟨by rfl, ?_⟩) ?_ ?_
            rotate_left
            · intro w'
              go_simp
              with_reducible rfl
            rotate_left
            · simp only [Act.put, List.setIfInBounds_toArray, List.set_cons_zero, List.set_cons_succ, i64_w, i32_w]
              rfl
            refine take_ (i := 4) (N := some 31) (v := ?_) (a' := ?_) #[true, true, true, true, true, false, false, true, true, false, false, false, false, false, false, false] rfl rfl (take_ofW HT_.out HW_.out (by kernel_rfl)) (fun _ _ _ h => h) (Or.inl ⟨by rfl, ?_⟩) hHeld ?_ ?_
            rotate_left
            · rintro w' ⟨s0, s1, s2⟩
              go_simp
              with_reducible rfl
            rotate_left
            · simp only [Act.put, List.setIfInBounds_toArray, List.set_cons_zero, List.set_cons_succ, i64_w, i32_w]
              rfl
            refine take_ (i := 9) (N := some 36) (v := ?_) (a' := ?_) #[true, true, true, true, true, false, false, true, true, true, false, false, false, false, false, false] rfl rfl (take_ofW HT_.out HW_.out (by kernel_rfl)) (fun _ _ _ h => h) (Or.inl ⟨by rfl, ?_⟩) hHeld ?_ ?_
            rotate_left
            · rintro w' ⟨s0, s1, s2⟩
              go_simp
              with_reducible rfl
            rotate_left
            · simp only [Act.put, List.setIfInBounds_toArray, List.set_cons_zero, List.set_cons_succ, i64_w, i32_w]
              rfl
            refine pure_ (i := 10) (N := some 37) (v := ?_) (a' := ?_) #[true, true, true, true, true, false, false, true, true, true, true, false, false, false, false, false] rfl rfl (any_of HT_.out (by kernel_rfl)) (fun _ _ _ h => h) (Or.inl ⟨by rfl, ?_⟩) ?_ ?_
            rotate_left
            · intro w'
              go_simp
              with_reducible rfl
            rotate_left
            · simp only [Act.put, List.setIfInBounds_toArray, List.set_cons_zero, List.set_cons_succ, i64_w, i32_w]
              rfl
            refine take_ (i := 11) (N := some 38) (v := ?_) (a' := ?_) #[true, true, true, true, true, false, false, true, true, true, true, true, false, false, false, false] rfl rfl (take_ofW HT_.out HW_.out (by kernel_rfl)) (fun _ _ _ h => h) (Or.inl ⟨by rfl, ?_⟩) hHeld ?_ ?_
            rotate_left
            · rintro w' ⟨s0, s1, s2⟩
              go_simp
              with_reducible rfl
            rotate_left
            · simp only [Act.put, List.setIfInBounds_toArray, List.set_cons_zero, List.set_cons_succ, i64_w, i32_w]
              rfl
            refine one_ (i := 5) (N := some 32) #[true, true, true, true, true, true, false, true, true, true, true, true, false, false, false, false] rfl rfl (one_of HT_.out (by kernel_rfl)) (by decide) (fun K hK => ?_)
            refine goes_ Try.func64 (by kernel_rfl) rfl #[.agg #[.int .i64 a0_0, .int .i64 a0_1, .slice A0_2 l0_2.length c0_2]] (by rfl) rfl rfl arr_ ?_
            with_reducible refine (impl_Plan_round.calls kj2 a0_0 a0_1 _ _ l0_2 t283 _ ?side1 ?side2 A17.out).mono ?_
            (case side1 => exact kc_ (Kd.C_below HR0_2.out HB.out))
            (case side2 => exact HC0_2.out)
            rintro e w22 ⟨rfl, hb⟩
            refine ⟨_, rfl, ?_⟩
            have n0_ := am_ (bb_ BK280.out hb)
            have n1_ := am_ (below_step (hb1_ HB.out GE280.out) hb)
            clear BK280
            clear HB
            have BK280 := n0_
            have HB := n1_
            clear n0_ n1_
            (try clear hb)
            (try clear hb2)
            (try clear hk)
            (try clear hi)
            refine hK.out _ _ ⟨(blk_cell BK280.out 0).trans rfl, (blk_cell BK280.out 1).trans rfl, (blk_cell BK280.out 2).trans rfl⟩ (fun hHeld => ?_)
            clear hK K
            refine norm_ (a' := ?_) ?_ ?_
            rotate_left
            · show Act.put _ (some 32) _ = _
              simp only [Act.put, List.setIfInBounds_toArray, List.set_cons_zero, List.set_cons_succ, i64_w, i32_w]
              rfl
            refine pure_ (i := 6) (N := some 33) (v := ?_) (a' := ?_) #[true, true, true, true, true, true, true, true, true, true, true, true, false, false, false, false] rfl rfl (any_of HT_.out (by kernel_rfl)) (fun _ _ _ h => h) (Or.inl ⟨by rfl, ?_⟩) ?_ ?_
            rotate_left
            · intro w'
              go_simp
              with_reducible rfl
            rotate_left
            · simp only [Act.put, List.setIfInBounds_toArray, List.set_cons_zero, List.set_cons_succ, i64_w, i32_w]
              rfl
            refine one_ (i := 12) (N := some 39) #[true, true, true, true, true, true, true, true, true, true, true, true, true, false, false, false] rfl rfl (one_of HT_.out (by kernel_rfl)) (by decide) (fun K hK => ?_)
            refine goes_ Try.func64 (by kernel_rfl) rfl #[.agg #[.int .i64 a0_0, .int .i64 a0_1, .slice A0_2 l0_2.length c0_2]] (by rfl) rfl rfl arr_ ?_
            with_reducible refine (impl_Plan_round.calls kj2 a0_0 a0_1 _ _ l0_2 t284 _ ?side1 ?side2 A19.out).mono ?_
            (case side1 => exact kc_ (Kd.C_below HR0_2.out HB.out))
            (case side2 => exact HC0_2.out)
            rintro e w23 ⟨rfl, hb⟩
            refine ⟨_, rfl, ?_⟩
            have n0_ := am_ (bb_ BK280.out hb)
            have n1_ := am_ (below_step (hb1_ HB.out GE280.out) hb)
            clear BK280
            clear HB
            have BK280 := n0_
            have HB := n1_
            clear n0_ n1_
            (try clear hb)
            (try clear hb2)
            (try clear hk)
            (try clear hi)
            refine hK.out _ _ ⟨(blk_cell BK280.out 0).trans rfl, (blk_cell BK280.out 1).trans rfl, (blk_cell BK280.out 2).trans rfl⟩ (fun hHeld => ?_)
            clear hK K
            refine norm_ (a' := ?_) ?_ ?_
            rotate_left
            · show Act.put _ (some 39) _ = _
              simp only [Act.put, List.setIfInBounds_toArray, List.set_cons_zero, List.set_cons_succ, i64_w, i32_w]
              rfl
            refine pure_ (i := 13) (N := some 40) (v := ?_) (a' := ?_) #[true, true, true, true, true, true, true, true, true, true, true, true, true, true, false, false] rfl rfl (any_of HT_.out (by kernel_rfl)) (fun _ _ _ h => h) (Or.inl ⟨by rfl, ?_⟩) ?_ ?_
            rotate_left
            · intro w'
              go_simp
              with_reducible rfl
            rotate_left
            · simp only [Act.put, List.setIfInBounds_toArray, List.set_cons_zero, List.set_cons_succ, i64_w, i32_w]
              rfl
            refine pure_ (i := 14) (N := some 7) (v := ?_) (a' := ?_) #[true, true, true, true, true, true, true, true, true, true, true, true, true, true, true, false] rfl rfl (any_of HT_.out (by kernel_rfl)) (fun _ _ _ h => h) (Or.inl ⟨by rfl, ?_⟩) ?_ ?_
            rotate_left
            · intro w'
              go_simp
              with_reducible rfl
            rotate_left
            · simp only [Act.put, List.setIfInBounds_toArray, List.set_cons_zero, List.set_cons_succ, i64_w, i32_w]
              rfl
            refine pure_ (i := 15) (N := some 8) (v := ?_) (a' := ?_) #[true, true, true, true, true, true, true, true, true, true, true, true, true, true, true, true] rfl rfl (any_of HT_.out (by kernel_rfl)) (fun _ _ _ h => h) (Or.inl ⟨by rfl, ?_⟩) ?_ ?_
            rotate_left
            · intro w'
              go_simp
              with_reducible rfl
            rotate_left
            · simp only [Act.put, List.setIfInBounds_toArray, List.set_cons_zero, List.set_cons_succ, i64_w, i32_w]
              rfl
            refine done_ (done_of HT_.out (by kernel_rfl)) ?_
            have hcz24_0 := bc_ BK280.out 0 (.int .i64 a0_0) rfl
            have hcz24_1 := bc_ BK280.out 1 (.int .i64 a0_1) rfl
            have hcz24_2 := bc_ BK280.out 2 (.slice A0_2 l0_2.length c0_2) rfl
            have hfz24_0 := blk_frozen BK280.out 0
            have hfz24_1 := blk_frozen BK280.out 1
            have hfz24_2 := blk_frozen BK280.out 2
            try go_wp2
            go_loopg [44] kj2 (fun kq v44 w' => ∃ (x44_2 : Int), v44 = .int .i64 x44_2 ∧ Aside0 (impl_SlotAt.l0 kq (wrap64 (Int.tdiv (wrap64 (a1 - a0_0)) t283)) (Int.tmod (wrap64 (a1 - a0_0)) t284) l0_2 (l0_2.length : Int) x44_2 a0_0 a0_1 l0_2 = some (r1, r2, r3)) ∧ Aside0 (kq ≤ kj2) ∧ Aside0 (w'.heap[gb280]? = some (.cells #[.int .i64 a0_0, .int .i64 a0_1, (.slice A0_2 l0_2.length c0_2)] 38 (0, 0))) ∧ Aside0 (Below w.heap.size w w'))
            case atStart => exact ⟨(0), (by first | rfl | (simp; done) | (simp [*]; done)), H', ⟨Nat.le_refl _⟩, ⟨bk_ BK280.out⟩, ⟨hb1_ HB.out GE280.out⟩⟩
            case round =>
              clear H'
              try clear c1
              try clear c2
              try clear p2
              try clear c4
              try clear c6
              try clear p6
              try clear c8
              try clear c16
              try clear c18
              try clear c18b0
              try clear c18b1
              try clear c20
              try clear c20b0
              try clear c20b1
              try clear hcz11_0
              try clear hcz11_1
              try clear hcz11_2
              try clear hcz12_0
              try clear hcz12_1
              try clear hcz12_2
              try clear hcz14_0
              try clear hcz14_1
              try clear hcz14_2
              try clear hcz24_0
              try clear hcz24_1
              try clear hcz24_2
              try clear hcz9_0
              try clear hcz9_1
              try clear hcz9_2
              try clear hfz11_0
              try clear hfz11_1
              try clear hfz11_2
              try clear hfz12_0
              try clear hfz12_1
              try clear hfz12_2
              try clear hfz14_0
              try clear hfz14_1
              try clear hfz14_2
              try clear hfz24_0
              try clear hfz24_1
              try clear hfz24_2
              try clear hfz9_0
              try clear hfz9_1
              try clear hfz9_2
              try clear p2
              obtain ⟨x44_2, rfl, HA, HK2, BK280, HB⟩ := hrel
              cases gk with
              | zero => exact absurd HA.out (by simp [impl_SlotAt.l0])
              | succ k2 =>
                have H := HA.out
                clear HA
                simp only [impl_SlotAt.l0] at H
                by_cases c25 : x44_2 < (l0_2.length : Int)
                · rw [if_pos c25] at H
                  have c25b0 : decide (x44_2 < (l0_2.length : Int)) = true := decide_eq_true c25
                  clear c25
                  by_cases c26 : 0 ≤ x44_2
                  · rw [if_pos c26] at H
                    have c26b0 : decide (0 ≤ x44_2) = true := decide_eq_true c26
                    clear c26
                    by_cases c27 : x44_2 < (l0_2.length : Int)
                    · rw [if_pos c27] at H
                      have c27b0 : decide (x44_2 < (l0_2.length : Int)) = true := decide_eq_true c27
                      clear c27
                      replace H := Option.bind_eq_some_iff.mp H
                      obtain ⟨t287, A280, H⟩ := H
                      replace H : ((impl_Plan_from.f k2 a0_0 a0_1 l0_2 x44_2).bind fun t288 => ((impl_in.f (Int.tmod (wrap64 (a1 - a0_0)) t284) t287 (wrap64 ((wrap64 (t288 + ((rd_T55 l0_2 x44_2).f1))) - 1))).bind fun t289 => (if t289 = true then ((impl_Occurrence.f k2 a0_0 a0_1 l0_2 x44_2 (wrap64 (Int.tdiv (wrap64 (a1 - a0_0)) t283))).bind fun bt290 => (if bt290.2.2 = true then (some (x44_2, (wrap64 (Int.tdiv (wrap64 (a1 - a0_0)) t283)), true)) else (some (0, 0, false)))) else (impl_SlotAt.l0 k2 (wrap64 (Int.tdiv (wrap64 (a1 - a0_0)) t283)) (Int.tmod (wrap64 (a1 - a0_0)) t284) l0_2 (l0_2.length : Int) (wrap64 (x44_2 + 1)) a0_0 a0_1 l0_2)))) = some (r1, r2, r3) := H
                      have A28 := Aside0.mk A280
                      clear A280
                      replace H := Option.bind_eq_some_iff.mp H
                      obtain ⟨t288, A290, H⟩ := H
                      replace H : ((impl_in.f (Int.tmod (wrap64 (a1 - a0_0)) t284) t287 (wrap64 ((wrap64 (t288 + ((rd_T55 l0_2 x44_2).f1))) - 1))).bind fun t289 => (if t289 = true then ((impl_Occurrence.f k2 a0_0 a0_1 l0_2 x44_2 (wrap64 (Int.tdiv (wrap64 (a1 - a0_0)) t283))).bind fun bt290 => (if bt290.2.2 = true then (some (x44_2, (wrap64 (Int.tdiv (wrap64 (a1 - a0_0)) t283)), true)) else (some (0, 0, false)))) else (impl_SlotAt.l0 k2 (wrap64 (Int.tdiv (wrap64 (a1 - a0_0)) t283)) (Int.tmod (wrap64 (a1 - a0_0)) t284) l0_2 (l0_2.length : Int) (wrap64 (x44_2 + 1)) a0_0 a0_1 l0_2))) = some (r1, r2, r3) := H
                      have A29 := Aside0.mk A290
                      clear A290
                      replace H := Option.bind_eq_some_iff.mp H
                      obtain ⟨t289, A300, H⟩ := H
                      replace H : (if t289 = true then ((impl_Occurrence.f k2 a0_0 a0_1 l0_2 x44_2 (wrap64 (Int.tdiv (wrap64 (a1 - a0_0)) t283))).bind fun bt290 => (if bt290.2.2 = true then (some (x44_2, (wrap64 (Int.tdiv (wrap64 (a1 - a0_0)) t283)), true)) else (some (0, 0, false)))) else (impl_SlotAt.l0 k2 (wrap64 (Int.tdiv (wrap64 (a1 - a0_0)) t283)) (Int.tmod (wrap64 (a1 - a0_0)) t284) l0_2 (l0_2.length : Int) (wrap64 (x44_2 + 1)) a0_0 a0_1 l0_2)) = some (r1, r2, r3) := H
                      have A30 := Aside0.mk A300
                      clear A300
                      by_cases c31 : t289 = true
                      · subst c31
                        have H1 : ((impl_Occurrence.f k2 a0_0 a0_1 l0_2 x44_2 (wrap64 (Int.tdiv (wrap64 (a1 - a0_0)) t283))).bind fun bt290 => (if bt290.2.2 = true then (some (x44_2, (wrap64 (Int.tdiv (wrap64 (a1 - a0_0)) t283)), true)) else (some (0, 0, false)))) = some (r1, r2, r3) := by rw [if_pos rfl] at H; exact H
                        clear H
                        have H := H1
                        clear H1
                        replace H := Option.bind_eq_some_iff.mp H
                        obtain ⟨⟨t290, t291, t292⟩, A320, H⟩ := H
                        replace H : (if t292 = true then (some (x44_2, (wrap64 (Int.tdiv (wrap64 (a1 - a0_0)) t283)), true)) else (some (0, 0, false))) = some (r1, r2, r3) := H
                        have A32 := Aside0.mk A320
                        clear A320
                        by_cases c33 : t292 = true
                        · subst c33
                          have H1 : (some (x44_2, (wrap64 (Int.tdiv (wrap64 (a1 - a0_0)) t283)), true)) = some (r1, r2, r3) := by rw [if_pos rfl] at H; exact H
                          clear H
                          have H := H1
                          clear H1
                          simp only [Option.some.injEq, Prod.mk.injEq] at H
                          obtain ⟨rfl, rfl, rfl⟩ := H
                          have p285 : 0 ≤ (x44_2 : Int) := of_decide_eq_true (by first | (with_reducible assumption) | assumption)
                          have q285 : x44_2 < (l0_2.length : Int) := of_decide_eq_true (by first | (with_reducible assumption) | assumption)
                          obtain ⟨ad285, e285, hx285_0, hx285_1⟩ := at_T55 HR0_2.out x44_2 p285 q285
                          cases e285
                          replace hx285_0 := (HB.out.cell (World.block_lt_of_cell? w _ hx285_0)).trans hx285_0
                          replace hx285_1 := (HB.out.cell (World.block_lt_of_cell? w _ hx285_1)).trans hx285_1
                          replace p285 := eq_true p285
                          replace q285 := eq_true q285
                          try go_wp2_with (first | ((with_reducible refine gate_dst (N := 10) rfl ?_); refine box_event ?hg (N := 10) ?hd (cs := #[.int .i64 0, .int .i64 0]) (t := 55) ?hr ?_; (case hd => rfl); (case hg => rfl); (case hr => first|(go_simp;done)|(go_simp;rfl)); intro gb286 hg w34 hbox hb; have n0_ := am_ (bb_ BK280.out hb); have n1_ := am_ (below_step (hb1_ HB.out GE280.out) hb); have n2_ := am_ (hbox); have n3_ := am_ (hy_ hg (hb1_ HB.out GE280.out) : w.heap.size ≤ gb286); have n4_ := am_ (hy_ hg (hb1_ HB.out GE280.out) : w.heap.size ≤ gb286); have n5_ := am_ ((bl_ hg BK280.out : gb280 ≠ gb286)); have n6_ := am_ ((bg_ hg BK280.out : gb286 ≠ gb280)); clear BK280; clear HB; have BK280 := n0_; have HB := n1_; have BK286 := n2_; have GW286 := n3_; have GE286 := n4_; have NB280_286 := n5_; have NB286_280 := n6_; clear n0_ n1_ n2_ n3_ n4_ n5_ n6_; clear hb hbox hg; have hnb35 := NB286_280.out; have hnc35 := NB280_286.out; have hcz36_0 := bc_ BK286.out 0 (.int .i64 0) rfl; have hcz36_1 := bc_ BK286.out 1 (.int .i64 0) rfl; have hfz36_0 := blk_frozen BK286.out 0; have hfz36_1 := blk_frozen BK286.out 1))
                          have n0_ : Aside0 (((w34.setCell ⟨gb286, 0, none⟩ (.int .i64 ((rd_T55 l0_2 x44_2).f0))).setCell ⟨gb286, 1, none⟩ (.int .i64 ((rd_T55 l0_2 x44_2).f1))).heap[gb280]? = some (.cells #[.int .i64 a0_0, .int .i64 a0_1, .slice (some ad285) l0_2.length c0_2] 38 (0, 0))) := ⟨by (with_reducible repeat (first | refine blk_drewN ?_ _ | refine blk_drew ?_ | refine blk_alloc ?_ _)); refine blk_far ?_ NB280_286.out _; (with_reducible repeat (first | refine blk_drewN ?_ _ | refine blk_drew ?_ | refine blk_alloc ?_ _)); refine blk_far ?_ NB280_286.out _; (with_reducible repeat (first | refine blk_drewN ?_ _ | refine blk_drew ?_ | refine blk_alloc ?_ _)); exact BK280.out⟩
                          have n1_ : Aside0 (((w34.setCell ⟨gb286, 0, none⟩ (.int .i64 ((rd_T55 l0_2 x44_2).f0))).setCell ⟨gb286, 1, none⟩ (.int .i64 ((rd_T55 l0_2 x44_2).f1))).heap[gb286]? = some (.cells #[.int .i64 ((rd_T55 l0_2 x44_2).f0), .int .i64 ((rd_T55 l0_2 x44_2).f1)] 55 (0, 0))) := ⟨by (with_reducible repeat (first | refine blk_drewN ?_ _ | refine blk_drew ?_ | refine blk_alloc ?_ _)); refine blk_put (cs := #[.int .i64 ((rd_T55 l0_2 x44_2).f0), .int .i64 0]) ?_ 1 _ rfl; (with_reducible repeat (first | refine blk_drewN ?_ _ | refine blk_drew ?_ | refine blk_alloc ?_ _)); refine blk_put (cs := #[.int .i64 0, .int .i64 0]) ?_ 0 _ rfl; (with_reducible repeat (first | refine blk_drewN ?_ _ | refine blk_drew ?_ | refine blk_alloc ?_ _)); exact BK286.out⟩
                          have n2_ : Aside0 (Below w.heap.size w ((w34.setCell ⟨gb286, 0, none⟩ (.int .i64 ((rd_T55 l0_2 x44_2).f0))).setCell ⟨gb286, 1, none⟩ (.int .i64 ((rd_T55 l0_2 x44_2).f1)))) := ⟨hb2_ HB.out GE280.out GE286.out⟩
                          (try clear BK280)
                          (try clear BK286)
                          (try clear HB)
                          generalize ((w34.setCell ⟨gb286, 0, none⟩ (.int .i64 ((rd_T55 l0_2 x44_2).f0))).setCell ⟨gb286, 1, none⟩ (.int .i64 ((rd_T55 l0_2 x44_2).f1))) = w37 at n0_ n1_ n2_ ⊢
                          have BK280 := n0_
                          have BK286 := n1_
                          have HB := n2_
                          clear n0_ n1_ n2_
                          have n0_ := am_ (blk_drew BK280.out)
                          have n1_ := am_ (blk_drew BK286.out)
                          have n2_ := am_ (below_drew1 HB.out)
                          clear BK280
                          clear BK286
                          clear HB
                          have BK280 := n0_
                          have BK286 := n1_
                          have HB := n2_
                          clear n0_ n1_ n2_
                          refine start_ (n := 12) (S := fun w' => w'.cell? ⟨gb280, 0, none⟩ = some (.int .i64 a0_0) ∧ w'.cell? ⟨gb280, 1, none⟩ = some (.int .i64 a0_1) ∧ w'.cell? ⟨gb280, 2, none⟩ = some (.slice (some ad285) l0_2.length c0_2) ∧ w'.cell? ⟨gb286, 0, none⟩ = some (.int .i64 ((rd_T55 l0_2 x44_2).f0)) ∧ w'.cell? ⟨gb286, 1, none⟩ = some (.int .i64 ((rd_T55 l0_2 x44_2).f1))) (ds := []) #[false, false, false, false, false, false, false, false, false, false, false, false] (by kernel_rfl) rfl rfl ⟨(blk_cell BK280.out 0).trans rfl, (blk_cell BK280.out 1).trans rfl, (blk_cell BK280.out 2).trans rfl, (blk_cell BK286.out 0).trans rfl, (blk_cell BK286.out 1).trans rfl⟩ (fun hHeld => ?_); refine with_tabW impl_SlotAt.tab7 impl_SlotAt.bits7 (fun HT_ HW_ => ?_)
                          generalize w37.drew = w38 at BK280 BK286 HB hHeld ⊢
                          refine pure_ (i := 0) (N := some 49) (v := ?_) (a' := ?_) #[true, false, false, false, false, false, false, false, false, false, false, false] rfl rfl (any_of HT_.out (by kernel_rfl)) (fun _ _ _ h => h) (Or.inl ⟨by rfl, ?_⟩) ?_ ?_
                          rotate_left
                          · intro w'
                            go_simp
                            with_reducible rfl
                          rotate_left
                          · simp only [Act.put, List.setIfInBounds_toArray, List.set_cons_zero, List.set_cons_succ, i64_w, i32_w]
                            rfl
                          refine pure_ (i := 2) (N := some 51) (v := ?_) (a' := ?_) #[true, false, true, false, false, false, false, false, false, false, false, false] rfl rfl (any_of HT_.out (by kernel_rfl)) (fun _ _ _ h => h) (Or.inl ⟨by rfl, ?_⟩) ?_ ?_
                          rotate_left
                          · intro w'
                            go_simp
                            with_reducible rfl
                          rotate_left
                          · simp only [Act.put, List.setIfInBounds_toArray, List.set_cons_zero, List.set_cons_succ, i64_w, i32_w]
                            rfl
                          refine pure_ (i := 5) (N := some 54) (v := ?_) (a' := ?_) #[true, false, true, false, false, true, false, false, false, false, false, false] rfl rfl (any_of HT_.out (by kernel_rfl)) (fun _ _ _ h => h) (Or.inl ⟨by rfl, ?_⟩) ?_ ?_
                          rotate_left
                          · intro w'
                            go_simp
                            with_reducible rfl
                          rotate_left
                          · simp only [Act.put, List.setIfInBounds_toArray, List.set_cons_zero, List.set_cons_succ, i64_w, i32_w]
                            rfl
                          refine pure_ (i := 7) (N := some 56) (v := ?_) (a' := ?_) #[true, false, true, false, false, true, false, true, false, false, false, false] rfl rfl (any_of HT_.out (by kernel_rfl)) (fun _ _ _ h => h) (Or.inl ⟨by rfl, ?_⟩) ?_ ?_
                          rotate_left
                          · intro w'
                            go_simp
                            with_reducible rfl
                          rotate_left
                          · simp only [Act.put, List.setIfInBounds_toArray, List.set_cons_zero, List.set_cons_succ, i64_w, i32_w]
                            rfl
                          refine take_ (i := 1) (N := some 50) (v := ?_) (a' := ?_) #[true, true, true, false, false, true, false, true, false, false, false, false] rfl rfl (take_ofW HT_.out HW_.out (by kernel_rfl)) (fun _ _ _ h => h) (Or.inl ⟨by rfl, ?_⟩) hHeld ?_ ?_
                          rotate_left
                          · rintro w' ⟨s0, s1, s2, s3, s4⟩
                            go_simp
                            with_reducible rfl
                          rotate_left
                          · simp only [Act.put, List.setIfInBounds_toArray, List.set_cons_zero, List.set_cons_succ, i64_w, i32_w]
                            rfl
                          refine take_ (i := 4) (N := some 53) (v := ?_) (a' := ?_) #[true, true, true, false, true, true, false, true, false, false, false, false] rfl rfl (take_ofW HT_.out HW_.out (by kernel_rfl)) (fun _ _ _ h => h) (Or.inl ⟨by rfl, ?_⟩) hHeld ?_ ?_
                          rotate_left
                          · rintro w' ⟨s0, s1, s2, s3, s4⟩
                            go_simp
                            with_reducible rfl
                          rotate_left
                          · simp only [Act.put, List.setIfInBounds_toArray, List.set_cons_zero, List.set_cons_succ, i64_w, i32_w]
                            rfl
                          refine take_ (i := 8) (N := some 57) (v := ?_) (a' := ?_) #[true, true, true, false, true, true, false, true, true, false, false, false] rfl rfl (take_ofW HT_.out HW_.out (by kernel_rfl)) (fun _ _ _ h => h) (Or.inl ⟨by rfl, ?_⟩) hHeld ?_ ?_
                          rotate_left
                          · rintro w' ⟨s0, s1, s2, s3, s4⟩
                            go_simp
                            with_reducible rfl
                          rotate_left
                          · simp only [Act.put, List.setIfInBounds_toArray, List.set_cons_zero, List.set_cons_succ, i64_w, i32_w]
                            rfl
                          refine one_ (i := 3) (N := some 52) #[true, true, true, true, true, true, false, true, true, false, false, false] rfl rfl (one_of HT_.out (by kernel_rfl)) (by decide) (fun K hK => ?_)
                          refine goes_ Try.func65 (by kernel_rfl) rfl #[.agg #[.int .i64 a0_0, .int .i64 a0_1, .slice (some ad285) l0_2.length c0_2], .int .i64 x44_2] (by rfl) rfl rfl arr_ ?_
                          with_reducible refine (impl_Plan_from.calls k2 a0_0 a0_1 _ _ l0_2 x44_2 t287 _ ?side1 ?side2 A28.out).mono ?_
                          (case side1 => exact kc_ (Kd.C_below HR0_2.out HB.out))
                          (case side2 => exact HC0_2.out)
                          rintro e w39 ⟨rfl, hb⟩
                          refine ⟨_, rfl, ?_⟩
                          have n0_ := am_ (bb_ BK280.out hb)
                          have n1_ := am_ (bb_ BK286.out hb)
                          have n2_ := am_ (below_step (hb2_ HB.out GE280.out GE286.out) hb)
                          clear BK280
                          clear BK286
                          clear HB
                          have BK280 := n0_
                          have BK286 := n1_
                          have HB := n2_
                          clear n0_ n1_ n2_
                          (try clear hb)
                          (try clear hb2)
                          (try clear hk)
                          (try clear hi)
                          refine hK.out _ _ ⟨(blk_cell BK280.out 0).trans rfl, (blk_cell BK280.out 1).trans rfl, (blk_cell BK280.out 2).trans rfl, (blk_cell BK286.out 0).trans rfl, (blk_cell BK286.out 1).trans rfl⟩ (fun hHeld => ?_)
                          clear hK K
                          refine norm_ (a' := ?_) ?_ ?_
                          rotate_left
                          · show Act.put _ (some 52) _ = _
                            simp only [Act.put, List.setIfInBounds_toArray, List.set_cons_zero, List.set_cons_succ, i64_w, i32_w]
                            rfl
                          refine one_ (i := 6) (N := some 55) #[true, true, true, true, true, true, true, true, true, false, false, false] rfl rfl (one_of HT_.out (by kernel_rfl)) (by decide) (fun K hK => ?_)
                          refine goes_ Try.func65 (by kernel_rfl) rfl #[.agg #[.int .i64 a0_0, .int .i64 a0_1, .slice (some ad285) l0_2.length c0_2], .int .i64 x44_2] (by rfl) rfl rfl arr_ ?_
                          with_reducible refine (impl_Plan_from.calls k2 a0_0 a0_1 _ _ l0_2 x44_2 t288 _ ?side1 ?side2 A29.out).mono ?_
                          (case side1 => exact kc_ (Kd.C_below HR0_2.out HB.out))
                          (case side2 => exact HC0_2.out)
                          rintro e w40 ⟨rfl, hb⟩
                          refine ⟨_, rfl, ?_⟩
                          have n0_ := am_ (bb_ BK280.out hb)
                          have n1_ := am_ (bb_ BK286.out hb)
                          have n2_ := am_ (below_step (hb2_ HB.out GE280.out GE286.out) hb)
                          clear BK280
                          clear BK286
                          clear HB
                          have BK280 := n0_
                          have BK286 := n1_
                          have HB := n2_
                          clear n0_ n1_ n2_
                          (try clear hb)
                          (try clear hb2)
                          (try clear hk)
                          (try clear hi)
                          refine hK.out _ _ ⟨(blk_cell BK280.out 0).trans rfl, (blk_cell BK280.out 1).trans rfl, (blk_cell BK280.out 2).trans rfl, (blk_cell BK286.out 0).trans rfl, (blk_cell BK286.out 1).trans rfl⟩ (fun hHeld => ?_)
                          clear hK K
                          refine norm_ (a' := ?_) ?_ ?_
                          rotate_left
                          · show Act.put _ (some 55) _ = _
                            simp only [Act.put, List.setIfInBounds_toArray, List.set_cons_zero, List.set_cons_succ, i64_w, i32_w]
                            rfl
                          refine pure_ (i := 9) (N := some 58) (v := ?_) (a' := ?_) #[true, true, true, true, true, true, true, true, true, true, false, false] rfl rfl (any_of HT_.out (by kernel_rfl)) (fun _ _ _ h => h) (Or.inl ⟨by rfl, ?_⟩) ?_ ?_
                          rotate_left
                          · intro w'
                            go_simp
                            with_reducible rfl
                          rotate_left
                          · simp only [Act.put, List.setIfInBounds_toArray, List.set_cons_zero, List.set_cons_succ, i64_w, i32_w]
                            rfl
                          refine pure_ (i := 10) (N := some 59) (v := ?_) (a' := ?_) #[true, true, true, true, true, true, true, true, true, true, true, false] rfl rfl (any_of HT_.out (by kernel_rfl)) (fun _ _ _ h => h) (Or.inl ⟨by rfl, ?_⟩) ?_ ?_
                          rotate_left
                          · intro w'
                            go_simp
                            with_reducible rfl
                          rotate_left
                          · simp only [Act.put, List.setIfInBounds_toArray, List.set_cons_zero, List.set_cons_succ, i64_w, i32_w]
                            rfl
                          refine one_ (i := 11) (N := some 60) #[true, true, true, true, true, true, true, true, true, true, true, true] rfl rfl (one_of HT_.out (by kernel_rfl)) (by decide) (fun K hK => ?_)
                          refine goes_ Try.func45 (by kernel_rfl) rfl #[.int .i64 (Int.tmod (wrap64 (a1 - a0_0)) t284), .int .i64 t287, .int .i64 (wrap64 ((wrap64 (t288 + ((rd_T55 l0_2 x44_2).f1))) - 1))] (by rfl) rfl rfl arr_ ?_
                          with_reducible refine (impl_in.calls (Int.tmod (wrap64 (a1 - a0_0)) t284) t287 (wrap64 ((wrap64 (t288 + ((rd_T55 l0_2 x44_2).f1))) - 1)) true _ A30.out).mono ?_
                          rintro e w' ⟨rfl, ⟨nd, rfl⟩⟩
                          refine ⟨_, rfl, ?_⟩
                          refine hK.out _ _ ⟨(blk_cell BK280.out 0).trans rfl, (blk_cell BK280.out 1).trans rfl, (blk_cell BK280.out 2).trans rfl, (blk_cell BK286.out 0).trans rfl, (blk_cell BK286.out 1).trans rfl⟩ (fun hHeld => ?_)
                          clear hK K
                          refine norm_ (a' := ?_) ?_ ?_
                          rotate_left
                          · show Act.put _ (some 60) _ = _
                            simp only [Act.put, List.setIfInBounds_toArray, List.set_cons_zero, List.set_cons_succ, i64_w, i32_w]
                            rfl
                          refine done_ (done_of HT_.out (by kernel_rfl)) ?_
                          have hcz41_0 := bc_ BK280.out 0 (.int .i64 a0_0) rfl
                          have hcz41_1 := bc_ BK280.out 1 (.int .i64 a0_1) rfl
                          have hcz41_2 : w40.cell? ⟨gb280, 2, none⟩ = some (.slice (some ad285) l0_2.length c0_2) := (blk_cell BK280.out 2).trans rfl
                          have hfz41_0 := blk_frozen BK280.out 0
                          have hfz41_1 := blk_frozen BK280.out 1
                          have hfz41_2 := blk_frozen BK280.out 2
                          try go_wp2_with (first | ((with_reducible refine gate_callee (f := 20) rfl ?_); refine goesL_ (some 65) rfl rfl Try.func20 (by kernel_rfl) rfl #[.agg #[.int .i64 a0_0, .int .i64 a0_1, .slice (some ad285) l0_2.length c0_2], .int .i64 x44_2, .int .i64 (wrap64 (Int.tdiv (wrap64 (a1 - a0_0)) t283))] rfl arr_ ?_; (with_reducible refine (impl_Occurrence.calls k2 a0_0 a0_1 _ _ l0_2 x44_2 (wrap64 (Int.tdiv (wrap64 (a1 - a0_0)) t283)) t290 t291 true _ ?side1 ?side2 A32.out).mono ?_); (case side1 => repeat (first | exact (Kd.C_below HR0_2.out (hb2_ HB.out GE280.out GE286.out)) | (with_reducible refine Kd.C_alloc ?_ _) | (with_reducible refine Kd.C_drewN ?_ _) | (with_reducible refine Kd.C_drew ?_))); (case side2 => exact HC0_2.out); rintro e w42 ⟨rfl, hb⟩; refine ⟨_, rfl, ?_⟩; have n0_ := am_ (bb_ BK280.out hb); have n1_ := am_ (bb_ BK286.out hb); have n2_ := am_ (below_step (hb2_ HB.out GE280.out GE286.out) hb); clear BK280; clear BK286; clear HB; have BK280 := n0_; have BK286 := n1_; have HB := n2_; clear n0_ n1_ n2_; (try clear hb); (try clear hb2); (try clear hk); (try clear hi)) | ((with_reducible refine gate_dst (N := 11) rfl ?_); refine box_event ?hg (N := 11) ?hd (cs := #[.int .i64 0, .int .i64 0]) (t := 32) ?hr ?_; (case hd => rfl); (case hg => rfl); (case hr => first|(go_simp;done)|(go_simp;rfl)); intro gb293 hg w43 hbox hb; have n0_ := am_ (bb_ BK280.out hb); have n1_ := am_ (bb_ BK286.out hb); have n2_ := am_ (below_step (hb2_ HB.out GE280.out GE286.out) hb); have n3_ := am_ (hbox); have n4_ := am_ (hy_ hg (hb2_ HB.out GE280.out GE286.out) : w.heap.size ≤ gb293); have n5_ := am_ (hy_ hg (hb2_ HB.out GE280.out GE286.out) : w.heap.size ≤ gb293); have n6_ := am_ ((bl_ hg BK280.out : gb280 ≠ gb293)); have n7_ := am_ ((bg_ hg BK280.out : gb293 ≠ gb280)); have n8_ := am_ ((bl_ hg BK286.out : gb286 ≠ gb293)); have n9_ := am_ ((bg_ hg BK286.out : gb293 ≠ gb286)); clear BK280; clear BK286; clear HB; have BK280 := n0_; have BK286 := n1_; have HB := n2_; have BK293 := n3_; have GW293 := n4_; have GE293 := n5_; have NB280_293 := n6_; have NB293_280 := n7_; have NB286_293 := n8_; have NB293_286 := n9_; clear n0_ n1_ n2_ n3_ n4_ n5_ n6_ n7_ n8_ n9_; clear hb hbox hg; have hnb44 := NB293_280.out; have hnc44 := NB280_293.out; have hnb45 := NB293_286.out; have hnc45 := NB286_293.out; have hcz46_0 := bc_ BK293.out 0 (.int .i64 0) rfl; have hcz46_1 := bc_ BK293.out 1 (.int .i64 0) rfl; have hfz46_0 := blk_frozen BK293.out 0; have hfz46_1 := blk_frozen BK293.out 1))
                          go_ret3
                          exact ⟨er_, hb3_ HB.out GE280.out GE286.out GE293.out⟩
                        · replace c33 := Bool.eq_false_iff.mpr c33
                          subst c33
                          have H1 : (some (0, 0, false)) = some (r1, r2, r3) := by rw [if_neg (show ¬ (false = true) by decide)] at H; exact H
                          clear H
                          have H := H1
                          clear H1
                          simp only [Option.some.injEq, Prod.mk.injEq] at H
                          obtain ⟨rfl, rfl, rfl⟩ := H
                          have p285 : 0 ≤ (x44_2 : Int) := of_decide_eq_true (by first | (with_reducible assumption) | assumption)
                          have q285 : x44_2 < (l0_2.length : Int) := of_decide_eq_true (by first | (with_reducible assumption) | assumption)
                          obtain ⟨ad285, e285, hx285_0, hx285_1⟩ := at_T55 HR0_2.out x44_2 p285 q285
                          cases e285
                          replace hx285_0 := (HB.out.cell (World.block_lt_of_cell? w _ hx285_0)).trans hx285_0
                          replace hx285_1 := (HB.out.cell (World.block_lt_of_cell? w _ hx285_1)).trans hx285_1
                          replace p285 := eq_true p285
                          replace q285 := eq_true q285
                          try go_wp2_with (first | ((with_reducible refine gate_dst (N := 10) rfl ?_); refine box_event ?hg (N := 10) ?hd (cs := #[.int .i64 0, .int .i64 0]) (t := 55) ?hr ?_; (case hd => rfl); (case hg => rfl); (case hr => first|(go_simp;done)|(go_simp;rfl)); intro gb286 hg w47 hbox hb; have n0_ := am_ (bb_ BK280.out hb); have n1_ := am_ (below_step (hb1_ HB.out GE280.out) hb); have n2_ := am_ (hbox); have n3_ := am_ (hy_ hg (hb1_ HB.out GE280.out) : w.heap.size ≤ gb286); have n4_ := am_ (hy_ hg (hb1_ HB.out GE280.out) : w.heap.size ≤ gb286); have n5_ := am_ ((bl_ hg BK280.out : gb280 ≠ gb286)); have n6_ := am_ ((bg_ hg BK280.out : gb286 ≠ gb280)); clear BK280; clear HB; have BK280 := n0_; have HB := n1_; have BK286 := n2_; have GW286 := n3_; have GE286 := n4_; have NB280_286 := n5_; have NB286_280 := n6_; clear n0_ n1_ n2_ n3_ n4_ n5_ n6_; clear hb hbox hg; have hnb48 := NB286_280.out; have hnc48 := NB280_286.out; have hcz49_0 := bc_ BK286.out 0 (.int .i64 0) rfl; have hcz49_1 := bc_ BK286.out 1 (.int .i64 0) rfl; have hfz49_0 := blk_frozen BK286.out 0; have hfz49_1 := blk_frozen BK286.out 1))
                          have n0_ : Aside0 (((w47.setCell ⟨gb286, 0, none⟩ (.int .i64 ((rd_T55 l0_2 x44_2).f0))).setCell ⟨gb286, 1, none⟩ (.int .i64 ((rd_T55 l0_2 x44_2).f1))).heap[gb280]? = some (.cells #[.int .i64 a0_0, .int .i64 a0_1, .slice (some ad285) l0_2.length c0_2] 38 (0, 0))) := ⟨by (with_reducible repeat (first | refine blk_drewN ?_ _ | refine blk_drew ?_ | refine blk_alloc ?_ _)); refine blk_far ?_ NB280_286.out _; (with_reducible repeat (first | refine blk_drewN ?_ _ | refine blk_drew ?_ | refine blk_alloc ?_ _)); refine blk_far ?_ NB280_286.out _; (with_reducible repeat (first | refine blk_drewN ?_ _ | refine blk_drew ?_ | refine blk_alloc ?_ _)); exact BK280.out⟩
                          have n1_ : Aside0 (((w47.setCell ⟨gb286, 0, none⟩ (.int .i64 ((rd_T55 l0_2 x44_2).f0))).setCell ⟨gb286, 1, none⟩ (.int .i64 ((rd_T55 l0_2 x44_2).f1))).heap[gb286]? = some (.cells #[.int .i64 ((rd_T55 l0_2 x44_2).f0), .int .i64 ((rd_T55 l0_2 x44_2).f1)] 55 (0, 0))) := ⟨by (with_reducible repeat (first | refine blk_drewN ?_ _ | refine blk_drew ?_ | refine blk_alloc ?_ _)); refine blk_put (cs := #[.int .i64 ((rd_T55 l0_2 x44_2).f0), .int .i64 0]) ?_ 1 _ rfl; (with_reducible repeat (first | refine blk_drewN ?_ _ | refine blk_drew ?_ | refine blk_alloc ?_ _)); refine blk_put (cs := #[.int .i64 0, .int .i64 0]) ?_ 0 _ rfl; (with_reducible repeat (first | refine blk_drewN ?_ _ | refine blk_drew ?_ | refine blk_alloc ?_ _)); exact BK286.out⟩
                          have n2_ : Aside0 (Below w.heap.size w ((w47.setCell ⟨gb286, 0, none⟩ (.int .i64 ((rd_T55 l0_2 x44_2).f0))).setCell ⟨gb286, 1, none⟩ (.int .i64 ((rd_T55 l0_2 x44_2).f1)))) := ⟨hb2_ HB.out GE280.out GE286.out⟩
                          (try clear BK280)
                          (try clear BK286)
                          (try clear HB)
                          generalize ((w47.setCell ⟨gb286, 0, none⟩ (.int .i64 ((rd_T55 l0_2 x44_2).f0))).setCell ⟨gb286, 1, none⟩ (.int .i64 ((rd_T55 l0_2 x44_2).f1))) = w50 at n0_ n1_ n2_ ⊢
                          have BK280 := n0_
                          have BK286 := n1_
                          have HB := n2_
                          clear n0_ n1_ n2_
                          have n0_ := am_ (blk_drew BK280.out)
                          have n1_ := am_ (blk_drew BK286.out)
                          have n2_ := am_ (below_drew1 HB.out)
                          clear BK280
                          clear BK286
                          clear HB
                          have BK280 := n0_
                          have BK286 := n1_
                          have HB := n2_
                          clear n0_ n1_ n2_
                          refine start_ (n := 12) (S := fun w' => w'.cell? ⟨gb280, 0, none⟩ = some (.int .i64 a0_0) ∧ w'.cell? ⟨gb280, 1, none⟩ = some (.int .i64 a0_1) ∧ w'.cell? ⟨gb280, 2, none⟩ = some (.slice (some ad285) l0_2.length c0_2) ∧ w'.cell? ⟨gb286, 0, none⟩ = some (.int .i64 ((rd_T55 l0_2 x44_2).f0)) ∧ w'.cell? ⟨gb286, 1, none⟩ = some (.int .i64 ((rd_T55 l0_2 x44_2).f1))) (ds := []) #[false, false, false, false, false, false, false, false, false, false, false, false] (by kernel_rfl) rfl rfl ⟨(blk_cell BK280.out 0).trans rfl, (blk_cell BK280.out 1).trans rfl, (blk_cell BK280.out 2).trans rfl, (blk_cell BK286.out 0).trans rfl, (blk_cell BK286.out 1).trans rfl⟩ (fun hHeld => ?_); refine with_tabW impl_SlotAt.tab7 impl_SlotAt.bits7 (fun HT_ HW_ => ?_)
                          generalize w50.drew = w51 at BK280 BK286 HB hHeld ⊢
                          refine pure_ (i := 0) (N := some 49) (v := ?_) (a' := ?_) #[true, false, false, false, false, false, false, false, false, false, false, false] rfl rfl (any_of HT_.out (by kernel_rfl)) (fun _ _ _ h => h) (Or.inl ⟨by rfl, ?_⟩) ?_ ?_
                          rotate_left
                          · intro w'
                            go_simp
                            with_reducible rfl
                          rotate_left
                          · simp only [Act.put, List.setIfInBounds_toArray, List.set_cons_zero, List.set_cons_succ, i64_w, i32_w]
                            rfl
                          refine pure_ (i := 2) (N := some 51) (v := ?_) (a' := ?_) #[true, false, true, false, false, false, false, false, false, false, false, false] rfl rfl (any_of HT_.out (by kernel_rfl)) (fun _ _ _ h => h) (Or.inl ⟨by rfl, ?_⟩) ?_ ?_
                          rotate_left
                          · intro w'
                            go_simp
                            with_reducible rfl
                          rotate_left
                          · simp only [Act.put, List.setIfInBounds_toArray, List.set_cons_zero, List.set_cons_succ, i64_w, i32_w]
                            rfl
                          refine pure_ (i := 5) (N := some 54) (v := ?_) (a' := ?_) #[true, false, true, false, false, true, false, false, false, false, false, false] rfl rfl (any_of HT_.out (by kernel_rfl)) (fun _ _ _ h => h) (Or.inl ⟨by rfl, ?_⟩) ?_ ?_
                          rotate_left
                          · intro w'
                            go_simp
                            with_reducible rfl
                          rotate_left
                          · simp only [Act.put, List.setIfInBounds_toArray, List.set_cons_zero, List.set_cons_succ, i64_w, i32_w]
                            rfl
                          refine pure_ (i := 7) (N := some 56) (v := ?_) (a' := ?_) #[true, false, true, false, false, true, false, true, false, false, false, false] rfl rfl (any_of HT_.out (by kernel_rfl)) (fun _ _ _ h => h) (Or.inl ⟨by rfl, ?_⟩) ?_ ?_
                          rotate_left
                          · intro w'
                            go_simp
                            with_reducible rfl
                          rotate_left
                          · simp only [Act.put, List.setIfInBounds_toArray, List.set_cons_zero, List.set_cons_succ, i64_w, i32_w]
                            rfl
                          refine take_ (i := 1) (N := some 50) (v := ?_) (a' := ?_) #[true, true, true, false, false, true, false, true, false, false, false, false] rfl rfl (take_ofW HT_.out HW_.out (by kernel_rfl)) (fun _ _ _ h => h) (Or.inl ⟨by rfl, ?_⟩) hHeld ?_ ?_
                          rotate_left
                          · rintro w' ⟨s0, s1, s2, s3, s4⟩
                            go_simp
                            with_reducible rfl
                          rotate_left
                          · simp only [Act.put, List.setIfInBounds_toArray, List.set_cons_zero, List.set_cons_succ, i64_w, i32_w]
                            rfl
                          refine take_ (i := 4) (N := some 53) (v := ?_) (a' := ?_) #[true, true, true, false, true, true, false, true, false, false, false, false] rfl rfl (take_ofW HT_.out HW_.out (by kernel_rfl)) (fun _ _ _ h => h) (Or.inl ⟨by rfl, ?_⟩) hHeld ?_ ?_
                          rotate_left
                          · rintro w' ⟨s0, s1, s2, s3, s4⟩
                            go_simp
                            with_reducible rfl
                          rotate_left
                          · simp only [Act.put, List.setIfInBounds_toArray, List.set_cons_zero, List.set_cons_succ, i64_w, i32_w]
                            rfl
                          refine take_ (i := 8) (N := some 57) (v := ?_) (a' := ?_) #[true, true, true, false, true, true, false, true, true, false, false, false] rfl rfl (take_ofW HT_.out HW_.out (by kernel_rfl)) (fun _ _ _ h => h) (Or.inl ⟨by rfl, ?_⟩) hHeld ?_ ?_
                          rotate_left
                          · rintro w' ⟨s0, s1, s2, s3, s4⟩
                            go_simp
                            with_reducible rfl
                          rotate_left
                          · simp only [Act.put, List.setIfInBounds_toArray, List.set_cons_zero, List.set_cons_succ, i64_w, i32_w]
                            rfl
                          refine one_ (i := 3) (N := some 52) #[true, true, true, true, true, true, false, true, true, false, false, false] rfl rfl (one_of HT_.out (by kernel_rfl)) (by decide) (fun K hK => ?_)
                          refine goes_ Try.func65 (by kernel_rfl) rfl #[.agg #[.int .i64 a0_0, .int .i64 a0_1, .slice (some ad285) l0_2.length c0_2], .int .i64 x44_2] (by rfl) rfl rfl arr_ ?_
                          with_reducible refine (impl_Plan_from.calls k2 a0_0 a0_1 _ _ l0_2 x44_2 t287 _ ?side1 ?side2 A28.out).mono ?_
                          (case side1 => exact kc_ (Kd.C_below HR0_2.out HB.out))
                          (case side2 => exact HC0_2.out)
                          rintro e w52 ⟨rfl, hb⟩
                          refine ⟨_, rfl, ?_⟩
                          have n0_ := am_ (bb_ BK280.out hb)
                          have n1_ := am_ (bb_ BK286.out hb)
                          have n2_ := am_ (below_step (hb2_ HB.out GE280.out GE286.out) hb)
                          clear BK280
                          clear BK286
                          clear HB
                          have BK280 := n0_
                          have BK286 := n1_
                          have HB := n2_
                          clear n0_ n1_ n2_
                          (try clear hb)
                          (try clear hb2)
                          (try clear hk)
                          (try clear hi)
                          refine hK.out _ _ ⟨(blk_cell BK280.out 0).trans rfl, (blk_cell BK280.out 1).trans rfl, (blk_cell BK280.out 2).trans rfl, (blk_cell BK286.out 0).trans rfl, (blk_cell BK286.out 1).trans rfl⟩ (fun hHeld => ?_)
                          clear hK K
                          refine norm_ (a' := ?_) ?_ ?_
                          rotate_left
                          · show Act.put _ (some 52) _ = _
                            simp only [Act.put, List.setIfInBounds_toArray, List.set_cons_zero, List.set_cons_succ, i64_w, i32_w]
                            rfl
                          refine one_ (i := 6) (N := some 55) #[true, true, true, true, true, true, true, true, true, false, false, false] rfl rfl (one_of HT_.out (by kernel_rfl)) (by decide) (fun K hK => ?_)
                          refine goes_ Try.func65 (by kernel_rfl) rfl #[.agg #[.int .i64 a0_0, .int .i64 a0_1, .slice (some ad285) l0_2.length c0_2], .int .i64 x44_2] (by rfl) rfl rfl arr_ ?_
                          with_reducible refine (impl_Plan_from.calls k2 a0_0 a0_1 _ _ l0_2 x44_2 t288 _ ?side1 ?side2 A29.out).mono ?_
                          (case side1 => exact kc_ (Kd.C_below HR0_2.out HB.out))
                          (case side2 => exact HC0_2.out)
                          rintro e w53 ⟨rfl, hb⟩
                          refine ⟨_, rfl, ?_⟩
                          have n0_ := am_ (bb_ BK280.out hb)
                          have n1_ := am_ (bb_ BK286.out hb)
                          have n2_ := am_ (below_step (hb2_ HB.out GE280.out GE286.out) hb)
                          clear BK280
                          clear BK286
                          clear HB
                          have BK280 := n0_
                          have BK286 := n1_
                          have HB := n2_
                          clear n0_ n1_ n2_
                          (try clear hb)
                          (try clear hb2)
                          (try clear hk)
                          (try clear hi)
                          refine hK.out _ _ ⟨(blk_cell BK280.out 0).trans rfl, (blk_cell BK280.out 1).trans rfl, (blk_cell BK280.out 2).trans rfl, (blk_cell BK286.out 0).trans rfl, (blk_cell BK286.out 1).trans rfl⟩ (fun hHeld => ?_)
                          clear hK K
                          refine norm_ (a' := ?_) ?_ ?_
                          rotate_left
                          · show Act.put _ (some 55) _ = _
                            simp only [Act.put, List.setIfInBounds_toArray, List.set_cons_zero, List.set_cons_succ, i64_w, i32_w]
                            rfl
                          refine pure_ (i := 9) (N := some 58) (v := ?_) (a' := ?_) #[true, true, true, true, true, true, true, true, true, true, false, false] rfl rfl (any_of HT_.out (by kernel_rfl)) (fun _ _ _ h => h) (Or.inl ⟨by rfl, ?_⟩) ?_ ?_
                          rotate_left
                          · intro w'
                            go_simp
                            with_reducible rfl
                          rotate_left
                          · simp only [Act.put, List.setIfInBounds_toArray, List.set_cons_zero, List.set_cons_succ, i64_w, i32_w]
                            rfl
                          refine pure_ (i := 10) (N := some 59) (v := ?_) (a' := ?_) #[true, true, true, true, true, true, true, true, true, true, true, false] rfl rfl (any_of HT_.out (by kernel_rfl)) (fun _ _ _ h => h) (Or.inl ⟨by rfl, ?_⟩) ?_ ?_
                          rotate_left
                          · intro w'
                            go_simp
                            with_reducible rfl
                          rotate_left
                          · simp only [Act.put, List.setIfInBounds_toArray, List.set_cons_zero, List.set_cons_succ, i64_w, i32_w]
                            rfl
                          refine one_ (i := 11) (N := some 60) #[true, true, true, true, true, true, true, true, true, true, true, true] rfl rfl (one_of HT_.out (by kernel_rfl)) (by decide) (fun K hK => ?_)
                          refine goes_ Try.func45 (by kernel_rfl) rfl #[.int .i64 (Int.tmod (wrap64 (a1 - a0_0)) t284), .int .i64 t287, .int .i64 (wrap64 ((wrap64 (t288 + ((rd_T55 l0_2 x44_2).f1))) - 1))] (by rfl) rfl rfl arr_ ?_
                          with_reducible refine (impl_in.calls (Int.tmod (wrap64 (a1 - a0_0)) t284) t287 (wrap64 ((wrap64 (t288 + ((rd_T55 l0_2 x44_2).f1))) - 1)) true _ A30.out).mono ?_
                          rintro e w' ⟨rfl, ⟨nd, rfl⟩⟩
                          refine ⟨_, rfl, ?_⟩
                          refine hK.out _ _ ⟨(blk_cell BK280.out 0).trans rfl, (blk_cell BK280.out 1).trans rfl, (blk_cell BK280.out 2).trans rfl, (blk_cell BK286.out 0).trans rfl, (blk_cell BK286.out 1).trans rfl⟩ (fun hHeld => ?_)
                          clear hK K
                          refine norm_ (a' := ?_) ?_ ?_
                          rotate_left
                          · show Act.put _ (some 60) _ = _
                            simp only [Act.put, List.setIfInBounds_toArray, List.set_cons_zero, List.set_cons_succ, i64_w, i32_w]
                            rfl
                          refine done_ (done_of HT_.out (by kernel_rfl)) ?_
                          have hcz54_0 := bc_ BK280.out 0 (.int .i64 a0_0) rfl
                          have hcz54_1 := bc_ BK280.out 1 (.int .i64 a0_1) rfl
                          have hcz54_2 : w53.cell? ⟨gb280, 2, none⟩ = some (.slice (some ad285) l0_2.length c0_2) := (blk_cell BK280.out 2).trans rfl
                          have hfz54_0 := blk_frozen BK280.out 0
                          have hfz54_1 := blk_frozen BK280.out 1
                          have hfz54_2 := blk_frozen BK280.out 2
                          try go_wp2_with (first | ((with_reducible refine gate_callee (f := 20) rfl ?_); refine goesL_ (some 65) rfl rfl Try.func20 (by kernel_rfl) rfl #[.agg #[.int .i64 a0_0, .int .i64 a0_1, .slice (some ad285) l0_2.length c0_2], .int .i64 x44_2, .int .i64 (wrap64 (Int.tdiv (wrap64 (a1 - a0_0)) t283))] rfl arr_ ?_; (with_reducible refine (impl_Occurrence.calls k2 a0_0 a0_1 _ _ l0_2 x44_2 (wrap64 (Int.tdiv (wrap64 (a1 - a0_0)) t283)) t290 t291 false _ ?side1 ?side2 A32.out).mono ?_); (case side1 => repeat (first | exact (Kd.C_below HR0_2.out (hb2_ HB.out GE280.out GE286.out)) | (with_reducible refine Kd.C_alloc ?_ _) | (with_reducible refine Kd.C_drewN ?_ _) | (with_reducible refine Kd.C_drew ?_))); (case side2 => exact HC0_2.out); rintro e w55 ⟨rfl, hb⟩; refine ⟨_, rfl, ?_⟩; have n0_ := am_ (bb_ BK280.out hb); have n1_ := am_ (bb_ BK286.out hb); have n2_ := am_ (below_step (hb2_ HB.out GE280.out GE286.out) hb); clear BK280; clear BK286; clear HB; have BK280 := n0_; have BK286 := n1_; have HB := n2_; clear n0_ n1_ n2_; (try clear hb); (try clear hb2); (try clear hk); (try clear hi)) | ((with_reducible refine gate_dst (N := 11) rfl ?_); refine box_event ?hg (N := 11) ?hd (cs := #[.int .i64 0, .int .i64 0]) (t := 32) ?hr ?_; (case hd => rfl); (case hg => rfl); (case hr => first|(go_simp;done)|(go_simp;rfl)); intro gb293 hg w56 hbox hb; have n0_ := am_ (bb_ BK280.out hb); have n1_ := am_ (bb_ BK286.out hb); have n2_ := am_ (below_step (hb2_ HB.out GE280.out GE286.out) hb); have n3_ := am_ (hbox); have n4_ := am_ (hy_ hg (hb2_ HB.out GE280.out GE286.out) : w.heap.size ≤ gb293); have n5_ := am_ (hy_ hg (hb2_ HB.out GE280.out GE286.out) : w.heap.size ≤ gb293); have n6_ := am_ ((bl_ hg BK280.out : gb280 ≠ gb293)); have n7_ := am_ ((bg_ hg BK280.out : gb293 ≠ gb280)); have n8_ := am_ ((bl_ hg BK286.out : gb286 ≠ gb293)); have n9_ := am_ ((bg_ hg BK286.out : gb293 ≠ gb286)); clear BK280; clear BK286; clear HB; have BK280 := n0_; have BK286 := n1_; have HB := n2_; have BK293 := n3_; have GW293 := n4_; have GE293 := n5_; have NB280_293 := n6_; have NB293_280 := n7_; have NB286_293 := n8_; have NB293_286 := n9_; clear n0_ n1_ n2_ n3_ n4_ n5_ n6_ n7_ n8_ n9_; clear hb hbox hg; have hnb57 := NB293_280.out; have hnc57 := NB280_293.out; have hnb58 := NB293_286.out; have hnc58 := NB286_293.out; have hcz59_0 := bc_ BK293.out 0 (.int .i64 0) rfl; have hcz59_1 := bc_ BK293.out 1 (.int .i64 0) rfl; have hfz59_0 := blk_frozen BK293.out 0; have hfz59_1 := blk_frozen BK293.out 1))
                          go_ret3
                          exact ⟨er_, hb3_ HB.out GE280.out GE286.out GE293.out⟩
                      · replace c31 := Bool.eq_false_iff.mpr c31
                        subst c31
                        have H1 : (impl_SlotAt.l0 k2 (wrap64 (Int.tdiv (wrap64 (a1 - a0_0)) t283)) (Int.tmod (wrap64 (a1 - a0_0)) t284) l0_2 (l0_2.length : Int) (wrap64 (x44_2 + 1)) a0_0 a0_1 l0_2) = some (r1, r2, r3) := by rw [if_neg (show ¬ (false = true) by decide)] at H; exact H
                        clear H
                        have H := H1
                        clear H1
                        have H' := Aside0.mk H
                        clear H
                        have p285 : 0 ≤ (x44_2 : Int) := of_decide_eq_true (by first | (with_reducible assumption) | assumption)
                        have q285 : x44_2 < (l0_2.length : Int) := of_decide_eq_true (by first | (with_reducible assumption) | assumption)
                        obtain ⟨ad285, e285, hx285_0, hx285_1⟩ := at_T55 HR0_2.out x44_2 p285 q285
                        cases e285
                        replace hx285_0 := (HB.out.cell (World.block_lt_of_cell? w _ hx285_0)).trans hx285_0
                        replace hx285_1 := (HB.out.cell (World.block_lt_of_cell? w _ hx285_1)).trans hx285_1
                        replace p285 := eq_true p285
                        replace q285 := eq_true q285
                        try go_wp2_with (first | ((with_reducible refine gate_dst (N := 10) rfl ?_); refine box_event ?hg (N := 10) ?hd (cs := #[.int .i64 0, .int .i64 0]) (t := 55) ?hr ?_; (case hd => rfl); (case hg => rfl); (case hr => first|(go_simp;done)|(go_simp;rfl)); intro gb286 hg w60 hbox hb; have n0_ := am_ (bb_ BK280.out hb); have n1_ := am_ (below_step (hb1_ HB.out GE280.out) hb); have n2_ := am_ (hbox); have n3_ := am_ (hy_ hg (hb1_ HB.out GE280.out) : w.heap.size ≤ gb286); have n4_ := am_ (hy_ hg (hb1_ HB.out GE280.out) : w.heap.size ≤ gb286); have n5_ := am_ ((bl_ hg BK280.out : gb280 ≠ gb286)); have n6_ := am_ ((bg_ hg BK280.out : gb286 ≠ gb280)); clear BK280; clear HB; have BK280 := n0_; have HB := n1_; have BK286 := n2_; have GW286 := n3_; have GE286 := n4_; have NB280_286 := n5_; have NB286_280 := n6_; clear n0_ n1_ n2_ n3_ n4_ n5_ n6_; clear hb hbox hg; have hnb61 := NB286_280.out; have hnc61 := NB280_286.out; have hcz62_0 := bc_ BK286.out 0 (.int .i64 0) rfl; have hcz62_1 := bc_ BK286.out 1 (.int .i64 0) rfl; have hfz62_0 := blk_frozen BK286.out 0; have hfz62_1 := blk_frozen BK286.out 1))
                        have n0_ : Aside0 (((w60.setCell ⟨gb286, 0, none⟩ (.int .i64 ((rd_T55 l0_2 x44_2).f0))).setCell ⟨gb286, 1, none⟩ (.int .i64 ((rd_T55 l0_2 x44_2).f1))).heap[gb280]? = some (.cells #[.int .i64 a0_0, .int .i64 a0_1, .slice (some ad285) l0_2.length c0_2] 38 (0, 0))) := ⟨by (with_reducible repeat (first | refine blk_drewN ?_ _ | refine blk_drew ?_ | refine blk_alloc ?_ _)); refine blk_far ?_ NB280_286.out _; (with_reducible repeat (first | refine blk_drewN ?_ _ | refine blk_drew ?_ | refine blk_alloc ?_ _)); refine blk_far ?_ NB280_286.out _; (with_reducible repeat (first | refine blk_drewN ?_ _ | refine blk_drew ?_ | refine blk_alloc ?_ _)); exact BK280.out⟩
                        have n1_ : Aside0 (((w60.setCell ⟨gb286, 0, none⟩ (.int .i64 ((rd_T55 l0_2 x44_2).f0))).setCell ⟨gb286, 1, none⟩ (.int .i64 ((rd_T55 l0_2 x44_2).f1))).heap[gb286]? = some (.cells #[.int .i64 ((rd_T55 l0_2 x44_2).f0), .int .i64 ((rd_T55 l0_2 x44_2).f1)] 55 (0, 0))) := ⟨by (with_reducible repeat (first | refine blk_drewN ?_ _ | refine blk_drew ?_ | refine blk_alloc ?_ _)); refine blk_put (cs := #[.int .i64 ((rd_T55 l0_2 x44_2).f0), .int .i64 0]) ?_ 1 _ rfl; (with_reducible repeat (first | refine blk_drewN ?_ _ | refine blk_drew ?_ | refine blk_alloc ?_ _)); refine blk_put (cs := #[.int .i64 0, .int .i64 0]) ?_ 0 _ rfl; (with_reducible repeat (first | refine blk_drewN ?_ _ | refine blk_drew ?_ | refine blk_alloc ?_ _)); exact BK286.out⟩
                        have n2_ : Aside0 (Below w.heap.size w ((w60.setCell ⟨gb286, 0, none⟩ (.int .i64 ((rd_T55 l0_2 x44_2).f0))).setCell ⟨gb286, 1, none⟩ (.int .i64 ((rd_T55 l0_2 x44_2).f1)))) := ⟨hb2_ HB.out GE280.out GE286.out⟩
                        (try clear BK280)
                        (try clear BK286)
                        (try clear HB)
                        generalize ((w60.setCell ⟨gb286, 0, none⟩ (.int .i64 ((rd_T55 l0_2 x44_2).f0))).setCell ⟨gb286, 1, none⟩ (.int .i64 ((rd_T55 l0_2 x44_2).f1))) = w63 at n0_ n1_ n2_ ⊢
                        have BK280 := n0_
                        have BK286 := n1_
                        have HB := n2_
                        clear n0_ n1_ n2_
                        have n0_ := am_ (blk_drew BK280.out)
                        have n1_ := am_ (blk_drew BK286.out)
                        have n2_ := am_ (below_drew1 HB.out)
                        clear BK280
                        clear BK286
                        clear HB
                        have BK280 := n0_
                        have BK286 := n1_
                        have HB := n2_
                        clear n0_ n1_ n2_
                        refine start_ (n := 12) (S := fun w' => w'.cell? ⟨gb280, 0, none⟩ = some (.int .i64 a0_0) ∧ w'.cell? ⟨gb280, 1, none⟩ = some (.int .i64 a0_1) ∧ w'.cell? ⟨gb280, 2, none⟩ = some (.slice (some ad285) l0_2.length c0_2) ∧ w'.cell? ⟨gb286, 0, none⟩ = some (.int .i64 ((rd_T55 l0_2 x44_2).f0)) ∧ w'.cell? ⟨gb286, 1, none⟩ = some (.int .i64 ((rd_T55 l0_2 x44_2).f1))) (ds := []) #[false, false, false, false, false, false, false, false, false, false, false, false] (by kernel_rfl) rfl rfl ⟨(blk_cell BK280.out 0).trans rfl, (blk_cell BK280.out 1).trans rfl, (blk_cell BK280.out 2).trans rfl, (blk_cell BK286.out 0).trans rfl, (blk_cell BK286.out 1).trans rfl⟩ (fun hHeld => ?_); refine with_tabW impl_SlotAt.tab7 impl_SlotAt.bits7 (fun HT_ HW_ => ?_)
                        generalize w63.drew = w64 at BK280 BK286 HB hHeld ⊢
                        refine pure_ (i := 0) (N := some 49) (v := ?_) (a' := ?_) #[true, false, false, false, false, false, false, false, false, false, false, false] rfl rfl (any_of HT_.out (by kernel_rfl)) (fun _ _ _ h => h) (Or.inl ⟨by rfl, ?_⟩) ?_ ?_
                        rotate_left
                        · intro w'
                          go_simp
                          with_reducible rfl
                        rotate_left
                        · simp only [Act.put, List.setIfInBounds_toArray, List.set_cons_zero, List.set_cons_succ, i64_w, i32_w]
                          rfl
                        refine pure_ (i := 2) (N := some 51) (v := ?_) (a' := ?_) #[true, false, true, false, false, false, false, false, false, false, false, false] rfl rfl (any_of HT_.out (by kernel_rfl)) (fun _ _ _ h => h) (Or.inl ⟨by rfl, ?_⟩) ?_ ?_
                        rotate_left
                        · intro w'
                          go_simp
                          with_reducible rfl
                        rotate_left
                        · simp only [Act.put, List.setIfInBounds_toArray, List.set_cons_zero, List.set_cons_succ, i64_w, i32_w]
                          rfl
                        refine pure_ (i := 5) (N := some 54) (v := ?_) (a' := ?_) #[true, false, true, false, false, true, false, false, false, false, false, false] rfl rfl (any_of HT_.out (by kernel_rfl)) (fun _ _ _ h => h) (Or.inl ⟨by rfl, ?_⟩) ?_ ?_
                        rotate_left
                        · intro w'
                          go_simp
                          with_reducible rfl
                        rotate_left
                        · simp only [Act.put, List.setIfInBounds_toArray, List.set_cons_zero, List.set_cons_succ, i64_w, i32_w]
                          rfl
                        refine pure_ (i := 7) (N := some 56) (v := ?_) (a' := ?_) #[true, false, true, false, false, true, false, true, false, false, false, false] rfl rfl (any_of HT_.out (by kernel_rfl)) (fun _ _ _ h => h) (Or.inl ⟨by rfl, ?_⟩) ?_ ?_
                        rotate_left
                        · intro w'
                          go_simp
                          with_reducible rfl
                        rotate_left
                        · simp only [Act.put, List.setIfInBounds_toArray, List.set_cons_zero, List.set_cons_succ, i64_w, i32_w]
                          rfl
                        refine take_ (i := 1) (N := some 50) (v := ?_) (a' := ?_) #[true, true, true, false, false, true, false, true, false, false, false, false] rfl rfl (take_ofW HT_.out HW_.out (by kernel_rfl)) (fun _ _ _ h => h) (Or.inl ⟨by rfl, ?_⟩) hHeld ?_ ?_
                        rotate_left
                        · rintro w' ⟨s0, s1, s2, s3, s4⟩
                          go_simp
                          with_reducible rfl
                        rotate_left
                        · simp only [Act.put, List.setIfInBounds_toArray, List.set_cons_zero, List.set_cons_succ, i64_w, i32_w]
                          rfl
                        refine take_ (i := 4) (N := some 53) (v := ?_) (a' := ?_) #[true, true, true, false, true, true, false, true, false, false, false, false] rfl rfl (take_ofW HT_.out HW_.out (by kernel_rfl)) (fun _ _ _ h => h) (Or.inl ⟨by rfl, ?_⟩) hHeld ?_ ?_
                        rotate_left
                        · rintro w' ⟨s0, s1, s2, s3, s4⟩
                          go_simp
                          with_reducible rfl
                        rotate_left
                        · simp only [Act.put, List.setIfInBounds_toArray, List.set_cons_zero, List.set_cons_succ, i64_w, i32_w]
                          rfl
                        refine take_ (i := 8) (N := some 57) (v := ?_) (a' := ?_) #[true, true, true, false, true, true, false, true, true, false, false, false] rfl rfl (take_ofW HT_.out HW_.out (by kernel_rfl)) (fun _ _ _ h => h) (Or.inl ⟨by rfl, ?_⟩) hHeld ?_ ?_
                        rotate_left
                        · rintro w' ⟨s0, s1, s2, s3, s4⟩
                          go_simp
                          with_reducible rfl
                        rotate_left
                        · simp only [Act.put, List.setIfInBounds_toArray, List.set_cons_zero, List.set_cons_succ, i64_w, i32_w]
                          rfl
                        refine one_ (i := 3) (N := some 52) #[true, true, true, true, true, true, false, true, true, false, false, false] rfl rfl (one_of HT_.out (by kernel_rfl)) (by decide) (fun K hK => ?_)
                        refine goes_ Try.func65 (by kernel_rfl) rfl #[.agg #[.int .i64 a0_0, .int .i64 a0_1, .slice (some ad285) l0_2.length c0_2], .int .i64 x44_2] (by rfl) rfl rfl arr_ ?_
                        with_reducible refine (impl_Plan_from.calls k2 a0_0 a0_1 _ _ l0_2 x44_2 t287 _ ?side1 ?side2 A28.out).mono ?_
                        (case side1 => exact kc_ (Kd.C_below HR0_2.out HB.out))
                        (case side2 => exact HC0_2.out)
                        rintro e w65 ⟨rfl, hb⟩
                        refine ⟨_, rfl, ?_⟩
                        have n0_ := am_ (bb_ BK280.out hb)
                        have n1_ := am_ (bb_ BK286.out hb)
                        have n2_ := am_ (below_step (hb2_ HB.out GE280.out GE286.out) hb)
                        clear BK280
                        clear BK286
                        clear HB
                        have BK280 := n0_
                        have BK286 := n1_
                        have HB := n2_
                        clear n0_ n1_ n2_
                        (try clear hb)
                        (try clear hb2)
                        (try clear hk)
                        (try clear hi)
                        refine hK.out _ _ ⟨(blk_cell BK280.out 0).trans rfl, (blk_cell BK280.out 1).trans rfl, (blk_cell BK280.out 2).trans rfl, (blk_cell BK286.out 0).trans rfl, (blk_cell BK286.out 1).trans rfl⟩ (fun hHeld => ?_)
                        clear hK K
                        refine norm_ (a' := ?_) ?_ ?_
                        rotate_left
                        · show Act.put _ (some 52) _ = _
                          simp only [Act.put, List.setIfInBounds_toArray, List.set_cons_zero, List.set_cons_succ, i64_w, i32_w]
                          rfl
                        refine one_ (i := 6) (N := some 55) #[true, true, true, true, true, true, true, true, true, false, false, false] rfl rfl (one_of HT_.out (by kernel_rfl)) (by decide) (fun K hK => ?_)
                        refine goes_ Try.func65 (by kernel_rfl) rfl #[.agg #[.int .i64 a0_0, .int .i64 a0_1, .slice (some ad285) l0_2.length c0_2], .int .i64 x44_2] (by rfl) rfl rfl arr_ ?_
                        with_reducible refine (impl_Plan_from.calls k2 a0_0 a0_1 _ _ l0_2 x44_2 t288 _ ?side1 ?side2 A29.out).mono ?_
                        (case side1 => exact kc_ (Kd.C_below HR0_2.out HB.out))
                        (case side2 => exact HC0_2.out)
                        rintro e w66 ⟨rfl, hb⟩
                        refine ⟨_, rfl, ?_⟩
                        have n0_ := am_ (bb_ BK280.out hb)
                        have n1_ := am_ (bb_ BK286.out hb)
                        have n2_ := am_ (below_step (hb2_ HB.out GE280.out GE286.out) hb)
                        clear BK280
                        clear BK286
                        clear HB
                        have BK280 := n0_
                        have BK286 := n1_
                        have HB := n2_
                        clear n0_ n1_ n2_
                        (try clear hb)
                        (try clear hb2)
                        (try clear hk)
                        (try clear hi)
                        refine hK.out _ _ ⟨(blk_cell BK280.out 0).trans rfl, (blk_cell BK280.out 1).trans rfl, (blk_cell BK280.out 2).trans rfl, (blk_cell BK286.out 0).trans rfl, (blk_cell BK286.out 1).trans rfl⟩ (fun hHeld => ?_)
                        clear hK K
                        refine norm_ (a' := ?_) ?_ ?_
                        rotate_left
                        · show Act.put _ (some 55) _ = _
                          simp only [Act.put, List.setIfInBounds_toArray, List.set_cons_zero, List.set_cons_succ, i64_w, i32_w]
                          rfl
                        refine pure_ (i := 9) (N := some 58) (v := ?_) (a' := ?_) #[true, true, true, true, true, true, true, true, true, true, false, false] rfl rfl (any_of HT_.out (by kernel_rfl)) (fun _ _ _ h => h) (Or.inl ⟨by rfl, ?_⟩) ?_ ?_
                        rotate_left
                        · intro w'
                          go_simp
                          with_reducible rfl
                        rotate_left
                        · simp only [Act.put, List.setIfInBounds_toArray, List.set_cons_zero, List.set_cons_succ, i64_w, i32_w]
                          rfl
                        refine pure_ (i := 10) (N := some 59) (v := ?_) (a' := ?_) #[true, true, true, true, true, true, true, true, true, true, true, false] rfl rfl (any_of HT_.out (by kernel_rfl)) (fun _ _ _ h => h) (Or.inl ⟨by rfl, ?_⟩) ?_ ?_
                        rotate_left
                        · intro w'
                          go_simp
                          with_reducible rfl
                        rotate_left
                        · simp only [Act.put, List.setIfInBounds_toArray, List.set_cons_zero, List.set_cons_succ, i64_w, i32_w]
                          rfl
                        refine one_ (i := 11) (N := some 60) #[true, true, true, true, true, true, true, true, true, true, true, true] rfl rfl (one_of HT_.out (by kernel_rfl)) (by decide) (fun K hK => ?_)
                        refine goes_ Try.func45 (by kernel_rfl) rfl #[.int .i64 (Int.tmod (wrap64 (a1 - a0_0)) t284), .int .i64 t287, .int .i64 (wrap64 ((wrap64 (t288 + ((rd_T55 l0_2 x44_2).f1))) - 1))] (by rfl) rfl rfl arr_ ?_
                        with_reducible refine (impl_in.calls (Int.tmod (wrap64 (a1 - a0_0)) t284) t287 (wrap64 ((wrap64 (t288 + ((rd_T55 l0_2 x44_2).f1))) - 1)) false _ A30.out).mono ?_
                        rintro e w' ⟨rfl, ⟨nd, rfl⟩⟩
                        refine ⟨_, rfl, ?_⟩
                        refine hK.out _ _ ⟨(blk_cell BK280.out 0).trans rfl, (blk_cell BK280.out 1).trans rfl, (blk_cell BK280.out 2).trans rfl, (blk_cell BK286.out 0).trans rfl, (blk_cell BK286.out 1).trans rfl⟩ (fun hHeld => ?_)
                        clear hK K
                        refine norm_ (a' := ?_) ?_ ?_
                        rotate_left
                        · show Act.put _ (some 60) _ = _
                          simp only [Act.put, List.setIfInBounds_toArray, List.set_cons_zero, List.set_cons_succ, i64_w, i32_w]
                          rfl
                        refine done_ (done_of HT_.out (by kernel_rfl)) ?_
                        try go_wp2
                        go_roundg k2
                        case measure => have := HJ2.out; have := HK2.out; omega
                        case rel => exact ⟨(wrap64 (x44_2 + 1)), (by first | rfl | (simp; done) | (simp [*]; done)), H', ⟨by have := HJ2.out; have := HK2.out; omega⟩, ⟨bk_ BK280.out⟩, ⟨hb2_ HB.out GE280.out GE286.out⟩⟩
                    · rw [if_neg c27] at H
                      exact absurd H (by simp)
                  · rw [if_neg c26] at H
                    exact absurd H (by simp)
                · rw [if_neg c25] at H
                  have c25b0 : decide (x44_2 < (l0_2.length : Int)) = false := decide_eq_false c25
                  clear c25
                  simp only [Option.some.injEq, Prod.mk.injEq] at H
                  obtain ⟨rfl, rfl, rfl⟩ := H
                  go_wp2
                  go_ret3
                  exact ⟨er_, hb1_ HB.out GE280.out⟩
end Go.Proofs.Ytejohmompmjhnaa.P

namespace Go.Proofs.Ytejohmompmjhnaa.P
open Go.RowKit Go.Proofs.YtejohmompmjhnaaW.PrintWords Go.Proofs.YtejohmompmjhnaaW.PrintLast Go.Proofs.YtejohmompmjhnaaW.PrintMore
attribute [local go_sem] max2_int min2_int max_two min_two max_three min_three max_four min_four
set_option linter.unusedVariables false
set_option linter.unusedSimpArgs false
def impl_InSlot.j0 : Nat → Int → Int → Int → Bool → Int → Int → List (S55) → Option (Int × Int × Bool)
  | 0, _, _, _, _, _, _, _ => none
  | k + 1, x3, x11, x12, x39, x295000, x295001, x295002 => if x39 = true then (some (0, 0, false)) else ((impl_Occurrence.f k x295000 x295001 x295002 x11 x12).bind fun bt299 => (if x3 > bt299.2.1 then (some (0, 0, false)) else (some (x11, x12, true))))
def impl_InSlot.f (k : Nat) (a0_0 : Int) (a0_1 : Int) (l0_2 : List (S55)) (a1 : Int) (a2 : Int) (a3 : Int) : Option (Int × Int × Bool) := (impl_SlotAt.f k a0_0 a0_1 l0_2 a2).bind fun bt295 => (if bt295.2.2 = true then (if 0 ≤ bt295.1 then (if bt295.1 < (l0_2.length : Int) then (if ((rd_T55 l0_2 bt295.1).f0) = a1 then (impl_InSlot.j0 k a3 bt295.1 bt295.2.1 (decide (a2 > a3)) a0_0 a0_1 l0_2) else (impl_InSlot.j0 k a3 bt295.1 bt295.2.1 true a0_0 a0_1 l0_2)) else (none)) else (none)) else (impl_InSlot.j0 k a3 bt295.1 bt295.2.1 true a0_0 a0_1 l0_2))
theorem impl_InSlot.mono_l : ∀ k, (∀ y0 y1 y2 y3 y4 y5 y6, LeO (impl_InSlot.j0 k y0 y1 y2 y3 y4 y5 y6) (impl_InSlot.j0 (k + 1) y0 y1 y2 y3 y4 y5 y6))
  | 0 => fun _ _ _ _ _ _ _ r h => by simp [impl_InSlot.j0] at h
  | k + 1 => by
    have ih0 := impl_InSlot.mono_l k
    · intro y0 y1 y2 y3 y4 y5 y6
      unfold impl_InSlot.j0
      repeat' first
      | (with_reducible exact ih0 _ _ _ _ _ _ _)
      | (with_reducible exact impl_Occurrence.mono _ _ _ _ _ _)
      | (with_reducible exact impl_SlotAt.mono _ _ _ _ _)
      | (with_reducible exact LeO.refl _)
      | (with_reducible exact LeO.none _)
      | (with_reducible refine LeO.ite ?_ ?_)
      | (with_reducible refine LeO.bind ?_ (fun _ => ?_))
      | exact ih0 _ _ _ _ _ _ _
      | exact impl_Occurrence.mono _ _ _ _ _ _
      | exact impl_SlotAt.mono _ _ _ _ _
      | exact LeO.none _
      | refine LeO.ite ?_ ?_
      | refine LeO.bind ?_ (fun _ => ?_)
theorem impl_InSlot.mono : ∀ a0 a1 a2 a3 a4 a5 k, LeO (impl_InSlot.f k a0 a1 a2 a3 a4 a5) (impl_InSlot.f (k + 1) a0 a1 a2 a3 a4 a5) := by
  intro a0 a1 a2 a3 a4 a5 k
  have ih0 := impl_InSlot.mono_l k
  unfold impl_InSlot.f
  repeat' first
      | (with_reducible exact ih0 _ _ _ _ _ _ _)
      | (with_reducible exact impl_Occurrence.mono _ _ _ _ _ _)
      | (with_reducible exact impl_SlotAt.mono _ _ _ _ _)
      | (with_reducible exact LeO.refl _)
      | (with_reducible exact LeO.none _)
      | (with_reducible refine LeO.ite ?_ ?_)
      | (with_reducible refine LeO.bind ?_ (fun _ => ?_))
      | exact ih0 _ _ _ _ _ _ _
      | exact impl_Occurrence.mono _ _ _ _ _ _
      | exact impl_SlotAt.mono _ _ _ _ _
      | exact LeO.none _
      | refine LeO.ite ?_ ?_
      | refine LeO.bind ?_ (fun _ => ?_)
set_option maxHeartbeats 8000000 in
set_option maxRecDepth 100000 in
theorem impl_InSlot.calls (k : Nat) (a0_0 : Int) (a0_1 : Int) (A0_2 : Option Addr) (c0_2 : Nat) (l0_2 : List (S55)) (a1 : Int) (a2 : Int) (a3 : Int) (r1 : Int) (r2 : Int) (r3 : Bool) (w : World) (hr0_2 : Kd.C k55 w A0_2 l0_2.length l0_2) (hc0_2 : l0_2.length ≤ c0_2) (h : impl_InSlot.f k a0_0 a0_1 l0_2 a1 a2 a3 = some (r1, r2, r3)) :
    Calls Try.prog 49 #[.agg #[.int .i64 a0_0, .int .i64 a0_1, .slice A0_2 l0_2.length c0_2], .int .i64 a1, .int .i64 a2, .int .i64 a3] w fun e w' => e = .returned (.tuple #[.int .i64 r1, .int .i64 r2, .bool r3]) ∧ Below w.heap.size w w' := by
  have hu38 := Try.underlying38
  have hu32 := Try.underlying32
  have HR0_2 := Aside0.mk hr0_2
  have HC0_2 := Aside0.mk hc0_2
  clear hr0_2 hc0_2
  have HB := am_ (Below.refl w.heap.size w)
  have H : ((impl_SlotAt.f k a0_0 a0_1 l0_2 a2).bind fun bt295 => (if bt295.2.2 = true then (if 0 ≤ bt295.1 then (if bt295.1 < (l0_2.length : Int) then (if ((rd_T55 l0_2 bt295.1).f0) = a1 then (impl_InSlot.j0 k a3 bt295.1 bt295.2.1 (decide (a2 > a3)) a0_0 a0_1 l0_2) else (impl_InSlot.j0 k a3 bt295.1 bt295.2.1 true a0_0 a0_1 l0_2)) else (none)) else (none)) else (impl_InSlot.j0 k a3 bt295.1 bt295.2.1 true a0_0 a0_1 l0_2))) = some (r1, r2, r3) := h
  clear h
  replace H := Option.bind_eq_some_iff.mp H
  obtain ⟨⟨t295, t296, t297⟩, A50, H⟩ := H
  replace H : (if t297 = true then (if 0 ≤ t295 then (if t295 < (l0_2.length : Int) then (if ((rd_T55 l0_2 t295).f0) = a1 then (impl_InSlot.j0 k a3 t295 t296 (decide (a2 > a3)) a0_0 a0_1 l0_2) else (impl_InSlot.j0 k a3 t295 t296 true a0_0 a0_1 l0_2)) else (none)) else (none)) else (impl_InSlot.j0 k a3 t295 t296 true a0_0 a0_1 l0_2)) = some (r1, r2, r3) := H
  have A5 := Aside0.mk A50
  clear A50
  have HC6 := Aside0.mk H
  clear H
  go_enter Try.func49, Try.ntmps49
  go_upto_region 2 with (first | ((with_reducible refine gate_dst (N := 4) rfl ?_); refine box_event ?hg (N := 4) ?hd (cs := #[.int .i64 a0_0, .int .i64 a0_1, .slice A0_2 l0_2.length c0_2]) (t := 38) ?hr ?_; (case hd => rfl); (case hg => rfl); (case hr => first|(go_simp;done)|(go_simp;rfl)); intro gb294 hg w7 hbox hb; have n0_ := am_ (below_step (hb_ HB.out) hb); have n1_ := am_ (hbox); have n2_ := am_ (hy_ hg (hb_ HB.out) : w.heap.size ≤ gb294); have n3_ := am_ (hy_ hg (hb_ HB.out) : w.heap.size ≤ gb294); clear HB; have HB := n0_; have BK294 := n1_; have GW294 := n2_; have GE294 := n3_; clear n0_ n1_ n2_ n3_; clear hb hbox hg; have hcz8_0 := bc_ BK294.out 0 (.int .i64 a0_0) rfl; have hcz8_1 := bc_ BK294.out 1 (.int .i64 a0_1) rfl; have hcz8_2 := bc_ BK294.out 2 (.slice A0_2 l0_2.length c0_2) rfl; have hfz8_0 := blk_frozen BK294.out 0; have hfz8_1 := blk_frozen BK294.out 1; have hfz8_2 := blk_frozen BK294.out 2) | ((with_reducible refine gate_callee (f := 88) rfl ?_); refine goesL_ (some 19) rfl rfl Try.func88 (by kernel_rfl) rfl #[.agg #[.int .i64 a0_0, .int .i64 a0_1, .slice A0_2 l0_2.length c0_2], .int .i64 a2] rfl arr_ ?_; (with_reducible refine (impl_SlotAt.calls k a0_0 a0_1 _ _ l0_2 a2 t295 t296 t297 _ ?side1 ?side2 A5.out).mono ?_); (case side1 => exact kc_ (Kd.C_below HR0_2.out HB.out)); (case side2 => exact HC0_2.out); rintro e w9 ⟨rfl, hb⟩; refine ⟨_, rfl, ?_⟩; have n0_ := am_ (bb_ BK294.out hb); have n1_ := am_ (below_step (hb1_ HB.out GE294.out) hb); clear BK294; clear HB; have BK294 := n0_; have HB := n1_; clear n0_ n1_; (try clear hb); (try clear hb2); (try clear hk); (try clear hi)))
  (try simp only [Act.put, List.setIfInBounds_toArray, List.set_cons_zero, List.set_cons_succ])
  go_cut [39] (fun v39 wc => ∃ (kq : Nat) (x39_5 : Bool), v39 = .bool x39_5 ∧ Aside0 (impl_InSlot.j0 kq a3 t295 t296 x39_5 a0_0 a0_1 l0_2 = some (r1, r2, r3)) ∧ Aside0 (kq ≤ k) ∧ Aside0 (wc.heap[gb294]? = some (.cells #[.int .i64 a0_0, .int .i64 a0_1, (.slice A0_2 l0_2.length c0_2)] 38 (0, 0))) ∧ Aside0 (Below w.heap.size w wc))
  case first =>
    have H := HC6.out
    clear HC6
    by_cases c10 : t297 = true
    · subst c10
      have H1 : (if 0 ≤ t295 then (if t295 < (l0_2.length : Int) then (if ((rd_T55 l0_2 t295).f0) = a1 then (impl_InSlot.j0 k a3 t295 t296 (decide (a2 > a3)) a0_0 a0_1 l0_2) else (impl_InSlot.j0 k a3 t295 t296 true a0_0 a0_1 l0_2)) else (none)) else (none)) = some (r1, r2, r3) := by rw [if_pos rfl] at H; exact H
      clear H
      have H := H1
      clear H1
      by_cases c11 : 0 ≤ t295
      · rw [if_pos c11] at H
        have c11b0 : decide (0 ≤ t295) = true := decide_eq_true c11
        clear c11
        (first | rw [c11b0] | (simp only [i64_w, i32_w]; rw [c11b0]) | skip)
        by_cases c12 : t295 < (l0_2.length : Int)
        · rw [if_pos c12] at H
          have c12b0 : decide (t295 < (l0_2.length : Int)) = true := decide_eq_true c12
          clear c12
          by_cases c13 : ((rd_T55 l0_2 t295).f0) = a1
          · rw [if_pos c13] at H
            have c13b0 : (((rd_T55 l0_2 t295).f0) == a1) = true := beq_iff_eq.mpr c13
            have c13b1 : (((rd_T55 l0_2 t295).f0) != a1) = false := bne_eq_false_iff_eq.mpr c13
            clear c13
            have H' := Aside0.mk H
            clear H
            have hcz14_0 := bc_ BK294.out 0 (.int .i64 a0_0) rfl
            have hcz14_1 := bc_ BK294.out 1 (.int .i64 a0_1) rfl
            have hcz14_2 := bc_ BK294.out 2 (.slice A0_2 l0_2.length c0_2) rfl
            have hfz14_0 := blk_frozen BK294.out 0
            have hfz14_1 := blk_frozen BK294.out 1
            have hfz14_2 := blk_frozen BK294.out 2
            have p298 : 0 ≤ (t295 : Int) := of_decide_eq_true (by first | (with_reducible assumption) | assumption)
            have q298 : t295 < (l0_2.length : Int) := of_decide_eq_true (by first | (with_reducible assumption) | assumption)
            obtain ⟨ad298, e298, hx298_0, hx298_1⟩ := at_T55 HR0_2.out t295 p298 q298
            cases e298
            replace hx298_0 := (HB.out.cell (World.block_lt_of_cell? w _ hx298_0)).trans hx298_0
            replace hx298_1 := (HB.out.cell (World.block_lt_of_cell? w _ hx298_1)).trans hx298_1
            replace p298 := eq_true p298
            replace q298 := eq_true q298
            go_wp2
            go_meet
            case rel => exact ⟨_, (decide (a2 > a3)), (by first | rfl | (simp; done) | (simp [*]; done)), H', ⟨by first | omega | exact Nat.le_refl _⟩, ⟨bk_ BK294.out⟩, ⟨hb1_ HB.out GE294.out⟩⟩
          · rw [if_neg c13] at H
            have c13b0 : (((rd_T55 l0_2 t295).f0) == a1) = false := beq_eq_false_iff_ne.mpr c13
            have c13b1 : (((rd_T55 l0_2 t295).f0) != a1) = true := bne_iff_ne.mpr c13
            have H' := Aside0.mk H
            clear H
            have hcz15_0 := bc_ BK294.out 0 (.int .i64 a0_0) rfl
            have hcz15_1 := bc_ BK294.out 1 (.int .i64 a0_1) rfl
            have hcz15_2 := bc_ BK294.out 2 (.slice A0_2 l0_2.length c0_2) rfl
            have hfz15_0 := blk_frozen BK294.out 0
            have hfz15_1 := blk_frozen BK294.out 1
            have hfz15_2 := blk_frozen BK294.out 2
            have p298 : 0 ≤ (t295 : Int) := of_decide_eq_true (by first | (with_reducible assumption) | assumption)
            have q298 : t295 < (l0_2.length : Int) := of_decide_eq_true (by first | (with_reducible assumption) | assumption)
            obtain ⟨ad298, e298, hx298_0, hx298_1⟩ := at_T55 HR0_2.out t295 p298 q298
            cases e298
            replace hx298_0 := (HB.out.cell (World.block_lt_of_cell? w _ hx298_0)).trans hx298_0
            replace hx298_1 := (HB.out.cell (World.block_lt_of_cell? w _ hx298_1)).trans hx298_1
            replace p298 := eq_true p298
            replace q298 := eq_true q298
            go_wp2
            go_meet
            case rel => exact ⟨_, (true), (by first | rfl | (simp; done) | (simp [*]; done)), H', ⟨by first | omega | exact Nat.le_refl _⟩, ⟨bk_ BK294.out⟩, ⟨hb1_ HB.out GE294.out⟩⟩
        · rw [if_neg c12] at H
          exact absurd H (by simp)
      · rw [if_neg c11] at H
        exact absurd H (by simp)
    · replace c10 := Bool.eq_false_iff.mpr c10
      subst c10
      have H1 : (impl_InSlot.j0 k a3 t295 t296 true a0_0 a0_1 l0_2) = some (r1, r2, r3) := by rw [if_neg (show ¬ (false = true) by decide)] at H; exact H
      clear H
      have H := H1
      clear H1
      have H' := Aside0.mk H
      clear H
      go_wp2
      go_meet
      case rel => exact ⟨_, (true), (by first | rfl | (simp; done) | (simp [*]; done)), H', ⟨by first | omega | exact Nat.le_refl _⟩, ⟨bk_ BK294.out⟩, ⟨hb1_ HB.out GE294.out⟩⟩
  case rest =>
    clear HC6
    try clear c1
    try clear p2
    try clear q2
    try clear hx2
    try clear c4
    try clear c8
    try clear c10
    try clear c11
    try clear c11b0
    try clear c12
    try clear c12b0
    try clear c13
    try clear c13b0
    try clear c13b1
    try clear hcz14_0
    try clear hcz14_1
    try clear hcz14_2
    try clear hcz15_0
    try clear hcz15_1
    try clear hcz15_2
    try clear hcz8_0
    try clear hcz8_1
    try clear hcz8_2
    try clear hfz14_0
    try clear hfz14_1
    try clear hfz14_2
    try clear hfz15_0
    try clear hfz15_1
    try clear hfz15_2
    try clear hfz8_0
    try clear hfz8_1
    try clear hfz8_2
    try clear hx298_0
    try clear hx298_1
    try clear p298
    try clear q298
    obtain ⟨kq, x39_5, rfl, HA, HJ5, BK294, HB⟩ := hcut
    cases kq with
    | zero => exact absurd HA.out (by simp [impl_InSlot.j0])
    | succ kj5 =>
      have H := HA.out
      clear HA
      simp only [impl_InSlot.j0] at H
      by_cases c16 : x39_5 = true
      · subst c16
        have H1 : (some (0, 0, false)) = some (r1, r2, r3) := by rw [if_pos rfl] at H; exact H
        clear H
        have H := H1
        clear H1
        simp only [Option.some.injEq, Prod.mk.injEq] at H
        obtain ⟨rfl, rfl, rfl⟩ := H
        go_wp2
        go_ret3
        exact ⟨er_, hb1_ HB.out GE294.out⟩
      · replace c16 := Bool.eq_false_iff.mpr c16
        subst c16
        have H1 : ((impl_Occurrence.f kj5 a0_0 a0_1 l0_2 t295 t296).bind fun bt299 => (if a3 > bt299.2.1 then (some (0, 0, false)) else (some (t295, t296, true)))) = some (r1, r2, r3) := by rw [if_neg (show ¬ (false = true) by decide)] at H; exact H
        clear H
        have H := H1
        clear H1
        replace H := Option.bind_eq_some_iff.mp H
        obtain ⟨⟨t299, t300, t301⟩, A170, H⟩ := H
        replace H : (if a3 > t300 then (some (0, 0, false)) else (some (t295, t296, true))) = some (r1, r2, r3) := H
        have A17 := Aside0.mk A170
        clear A170
        by_cases c18 : a3 > t300
        · rw [if_pos c18] at H
          have c18b0 : decide (t300 < a3) = true := decide_eq_true c18
          clear c18
          simp only [Option.some.injEq, Prod.mk.injEq] at H
          obtain ⟨rfl, rfl, rfl⟩ := H
          have hcz19_0 := bc_ BK294.out 0 (.int .i64 a0_0) rfl
          have hcz19_1 := bc_ BK294.out 1 (.int .i64 a0_1) rfl
          have hcz19_2 := bc_ BK294.out 2 (.slice A0_2 l0_2.length c0_2) rfl
          have hfz19_0 := blk_frozen BK294.out 0
          have hfz19_1 := blk_frozen BK294.out 1
          have hfz19_2 := blk_frozen BK294.out 2
          go_wp2_with (first | ((with_reducible refine gate_callee (f := 20) rfl ?_); refine goesL_ (some 44) rfl rfl Try.func20 (by kernel_rfl) rfl #[.agg #[.int .i64 a0_0, .int .i64 a0_1, .slice A0_2 l0_2.length c0_2], .int .i64 t295, .int .i64 t296] rfl arr_ ?_; (with_reducible refine (impl_Occurrence.calls kj5 a0_0 a0_1 _ _ l0_2 t295 t296 t299 t300 t301 _ ?side1 ?side2 A17.out).mono ?_); (case side1 => exact kc_ (Kd.C_below HR0_2.out HB.out)); (case side2 => exact HC0_2.out); rintro e w20 ⟨rfl, hb⟩; refine ⟨_, rfl, ?_⟩; have n0_ := am_ (bb_ BK294.out hb); have n1_ := am_ (below_step (hb1_ HB.out GE294.out) hb); clear BK294; clear HB; have BK294 := n0_; have HB := n1_; clear n0_ n1_; (try clear hb); (try clear hb2); (try clear hk); (try clear hi)) | ((with_reducible refine gate_dst (N := 14) rfl ?_); refine box_event ?hg (N := 14) ?hd (cs := #[.int .i64 0, .int .i64 0]) (t := 32) ?hr ?_; (case hd => rfl); (case hg => rfl); (case hr => first|(go_simp;done)|(go_simp;rfl)); intro gb302 hg w21 hbox hb; have n0_ := am_ (bb_ BK294.out hb); have n1_ := am_ (below_step (hb1_ HB.out GE294.out) hb); have n2_ := am_ (hbox); have n3_ := am_ (hy_ hg (hb1_ HB.out GE294.out) : w.heap.size ≤ gb302); have n4_ := am_ (hy_ hg (hb1_ HB.out GE294.out) : w.heap.size ≤ gb302); have n5_ := am_ ((bl_ hg BK294.out : gb294 ≠ gb302)); have n6_ := am_ ((bg_ hg BK294.out : gb302 ≠ gb294)); clear BK294; clear HB; have BK294 := n0_; have HB := n1_; have BK302 := n2_; have GW302 := n3_; have GE302 := n4_; have NB294_302 := n5_; have NB302_294 := n6_; clear n0_ n1_ n2_ n3_ n4_ n5_ n6_; clear hb hbox hg; have hnb22 := NB302_294.out; have hnc22 := NB294_302.out; have hcz23_0 := bc_ BK302.out 0 (.int .i64 0) rfl; have hcz23_1 := bc_ BK302.out 1 (.int .i64 0) rfl; have hfz23_0 := blk_frozen BK302.out 0; have hfz23_1 := blk_frozen BK302.out 1))
          go_ret3
          exact ⟨er_, hb2_ HB.out GE294.out GE302.out⟩
        · rw [if_neg c18] at H
          have c18b0 : decide (t300 < a3) = false := decide_eq_false c18
          clear c18
          simp only [Option.some.injEq, Prod.mk.injEq] at H
          obtain ⟨rfl, rfl, rfl⟩ := H
          have hcz24_0 := bc_ BK294.out 0 (.int .i64 a0_0) rfl
          have hcz24_1 := bc_ BK294.out 1 (.int .i64 a0_1) rfl
          have hcz24_2 := bc_ BK294.out 2 (.slice A0_2 l0_2.length c0_2) rfl
          have hfz24_0 := blk_frozen BK294.out 0
          have hfz24_1 := blk_frozen BK294.out 1
          have hfz24_2 := blk_frozen BK294.out 2
          go_wp2_with (first | ((with_reducible refine gate_callee (f := 20) rfl ?_); refine goesL_ (some 44) rfl rfl Try.func20 (by kernel_rfl) rfl #[.agg #[.int .i64 a0_0, .int .i64 a0_1, .slice A0_2 l0_2.length c0_2], .int .i64 t295, .int .i64 t296] rfl arr_ ?_; (with_reducible refine (impl_Occurrence.calls kj5 a0_0 a0_1 _ _ l0_2 t295 t296 t299 t300 t301 _ ?side1 ?side2 A17.out).mono ?_); (case side1 => exact kc_ (Kd.C_below HR0_2.out HB.out)); (case side2 => exact HC0_2.out); rintro e w25 ⟨rfl, hb⟩; refine ⟨_, rfl, ?_⟩; have n0_ := am_ (bb_ BK294.out hb); have n1_ := am_ (below_step (hb1_ HB.out GE294.out) hb); clear BK294; clear HB; have BK294 := n0_; have HB := n1_; clear n0_ n1_; (try clear hb); (try clear hb2); (try clear hk); (try clear hi)) | ((with_reducible refine gate_dst (N := 14) rfl ?_); refine box_event ?hg (N := 14) ?hd (cs := #[.int .i64 0, .int .i64 0]) (t := 32) ?hr ?_; (case hd => rfl); (case hg => rfl); (case hr => first|(go_simp;done)|(go_simp;rfl)); intro gb302 hg w26 hbox hb; have n0_ := am_ (bb_ BK294.out hb); have n1_ := am_ (below_step (hb1_ HB.out GE294.out) hb); have n2_ := am_ (hbox); have n3_ := am_ (hy_ hg (hb1_ HB.out GE294.out) : w.heap.size ≤ gb302); have n4_ := am_ (hy_ hg (hb1_ HB.out GE294.out) : w.heap.size ≤ gb302); have n5_ := am_ ((bl_ hg BK294.out : gb294 ≠ gb302)); have n6_ := am_ ((bg_ hg BK294.out : gb302 ≠ gb294)); clear BK294; clear HB; have BK294 := n0_; have HB := n1_; have BK302 := n2_; have GW302 := n3_; have GE302 := n4_; have NB294_302 := n5_; have NB302_294 := n6_; clear n0_ n1_ n2_ n3_ n4_ n5_ n6_; clear hb hbox hg; have hnb27 := NB302_294.out; have hnc27 := NB294_302.out; have hcz28_0 := bc_ BK302.out 0 (.int .i64 0) rfl; have hcz28_1 := bc_ BK302.out 1 (.int .i64 0) rfl; have hfz28_0 := blk_frozen BK302.out 0; have hfz28_1 := blk_frozen BK302.out 1))
          go_ret3
          exact ⟨er_, hb2_ HB.out GE294.out GE302.out⟩
end Go.Proofs.Ytejohmompmjhnaa.P
namespace Go.Proofs.Ytejohmompmjhnaa.P
open Go.RowKit Go.Proofs.YtejohmompmjhnaaW.PrintWords Go.Proofs.YtejohmompmjhnaaW.PrintLast Go.Proofs.YtejohmompmjhnaaW.PrintMore
attribute [local go_sem] max2_int min2_int max_two min_two max_three min_three max_four min_four
set_option linter.unusedVariables false
set_option linter.unusedSimpArgs false
mutual
def impl_GateAsk.j0 : Nat → Bool → Int → Int → Bool → Int → Int → Int → Int → Int → Int → List (S55) → Option (Int × Int × Int)
  | 0, _, _, _, _, _, _, _, _, _, _, _ => none
  | k + 1, x1, x3, x5, x45, x304000, x304001, x305000, x305001, x306000, x306001, x306002 => if x45 = true then (some (0, 0, 1)) else ((impl_GateSpan.f x304000 x304001 x305000 x305001 x3).bind fun bt315 => (if x1 = true then (impl_GateAsk.j1 k x5 (!bt315.2.2) x306000 x306001 x306002 bt315.1 bt315.2.1) else (impl_GateAsk.j1 k x5 true x306000 x306001 x306002 bt315.1 bt315.2.1)))
def impl_GateAsk.j1 : Nat → Int → Bool → Int → Int → List (S55) → Int → Int → Option (Int × Int × Int)
  | 0, _, _, _, _, _, _, _ => none
  | k + 1, x5, x58, x306000, x306001, x306002, x319000, x319001 => if x58 = true then (some (0, 0, 2)) else ((impl_InSlot.f k x306000 x306001 x306002 x5 x319000 x319001).bind fun bt319 => (if bt319.2.2 = true then (some (bt319.1, bt319.2.1, 0)) else (some (0, 0, 2))))
end
def impl_GateAsk.f (k : Nat) (a0_0 : Int) (a0_1 : Int) (a1 : Bool) (a2_0 : Int) (a2_1 : Int) (a3 : Int) (a4_0 : Int) (a4_1 : Int) (l4_2 : List (S55)) (a5 : Int) : Option (Int × Int × Int) := if a1 = true then ((impl_IvalOk.f a0_0 a0_1).bind fun t306 => (if t306 = true then ((impl_DriftOk.f a2_0 a2_1).bind fun t307 => (if t307 = true then ((impl_in.f a3 1 1000000000000).bind fun t308 => (if t308 = true then ((impl_PlanOk.f k a4_0 a4_1 l4_2).bind fun t309 => (if t309 = true then ((impl_isNode.f a5).bind fun t310 => (impl_GateAsk.j0 k a1 a3 a5 (!t310) a0_0 a0_1 a2_0 a2_1 a4_0 a4_1 l4_2)) else (impl_GateAsk.j0 k a1 a3 a5 true a0_0 a0_1 a2_0 a2_1 a4_0 a4_1 l4_2))) else (impl_GateAsk.j0 k a1 a3 a5 true a0_0 a0_1 a2_0 a2_1 a4_0 a4_1 l4_2))) else (impl_GateAsk.j0 k a1 a3 a5 true a0_0 a0_1 a2_0 a2_1 a4_0 a4_1 l4_2))) else (impl_GateAsk.j0 k a1 a3 a5 true a0_0 a0_1 a2_0 a2_1 a4_0 a4_1 l4_2))) else ((impl_DriftOk.f a2_0 a2_1).bind fun t311 => (if t311 = true then ((impl_in.f a3 1 1000000000000).bind fun t312 => (if t312 = true then ((impl_PlanOk.f k a4_0 a4_1 l4_2).bind fun t313 => (if t313 = true then ((impl_isNode.f a5).bind fun t314 => (impl_GateAsk.j0 k a1 a3 a5 (!t314) a0_0 a0_1 a2_0 a2_1 a4_0 a4_1 l4_2)) else (impl_GateAsk.j0 k a1 a3 a5 true a0_0 a0_1 a2_0 a2_1 a4_0 a4_1 l4_2))) else (impl_GateAsk.j0 k a1 a3 a5 true a0_0 a0_1 a2_0 a2_1 a4_0 a4_1 l4_2))) else (impl_GateAsk.j0 k a1 a3 a5 true a0_0 a0_1 a2_0 a2_1 a4_0 a4_1 l4_2)))
theorem impl_GateAsk.mono_l : ∀ k, (∀ y0 y1 y2 y3 y4 y5 y6 y7 y8 y9 y10, LeO (impl_GateAsk.j0 k y0 y1 y2 y3 y4 y5 y6 y7 y8 y9 y10) (impl_GateAsk.j0 (k + 1) y0 y1 y2 y3 y4 y5 y6 y7 y8 y9 y10)) ∧ (∀ y0 y1 y2 y3 y4 y5 y6, LeO (impl_GateAsk.j1 k y0 y1 y2 y3 y4 y5 y6) (impl_GateAsk.j1 (k + 1) y0 y1 y2 y3 y4 y5 y6))
  | 0 => ⟨fun _ _ _ _ _ _ _ _ _ _ _ r h => by simp [impl_GateAsk.j0] at h, fun _ _ _ _ _ _ _ r h => by simp [impl_GateAsk.j1] at h⟩
  | k + 1 => by
    obtain ⟨ih0, ih1⟩ := impl_GateAsk.mono_l k
    refine ⟨?_, ?_⟩
    · intro y0 y1 y2 y3 y4 y5 y6 y7 y8 y9 y10
      unfold impl_GateAsk.j0
      repeat' first
      | (with_reducible exact ih0 _ _ _ _ _ _ _ _ _ _ _)
      | (with_reducible exact ih1 _ _ _ _ _ _ _)
      | (with_reducible exact impl_InSlot.mono _ _ _ _ _ _ _)
      | (with_reducible exact impl_PlanOk.mono _ _ _ _)
      | (with_reducible exact LeO.refl _)
      | (with_reducible exact LeO.none _)
      | (with_reducible refine LeO.ite ?_ ?_)
      | (with_reducible refine LeO.bind ?_ (fun _ => ?_))
      | exact ih0 _ _ _ _ _ _ _ _ _ _ _
      | exact ih1 _ _ _ _ _ _ _
      | exact impl_InSlot.mono _ _ _ _ _ _ _
      | exact impl_PlanOk.mono _ _ _ _
      | exact LeO.none _
      | refine LeO.ite ?_ ?_
      | refine LeO.bind ?_ (fun _ => ?_)
    · intro y0 y1 y2 y3 y4 y5 y6
      unfold impl_GateAsk.j1
      repeat' first
      | (with_reducible exact ih0 _ _ _ _ _ _ _ _ _ _ _)
      | (with_reducible exact ih1 _ _ _ _ _ _ _)
      | (with_reducible exact impl_InSlot.mono _ _ _ _ _ _ _)
      | (with_reducible exact impl_PlanOk.mono _ _ _ _)
      | (with_reducible exact LeO.refl _)
      | (with_reducible exact LeO.none _)
      | (with_reducible refine LeO.ite ?_ ?_)
      | (with_reducible refine LeO.bind ?_ (fun _ => ?_))
      | exact ih0 _ _ _ _ _ _ _ _ _ _ _
      | exact ih1 _ _ _ _ _ _ _
      | exact impl_InSlot.mono _ _ _ _ _ _ _
      | exact impl_PlanOk.mono _ _ _ _
      | exact LeO.none _
      | refine LeO.ite ?_ ?_
      | refine LeO.bind ?_ (fun _ => ?_)
theorem impl_GateAsk.mono : ∀ a0 a1 a2 a3 a4 a5 a6 a7 a8 a9 k, LeO (impl_GateAsk.f k a0 a1 a2 a3 a4 a5 a6 a7 a8 a9) (impl_GateAsk.f (k + 1) a0 a1 a2 a3 a4 a5 a6 a7 a8 a9) := by
  intro a0 a1 a2 a3 a4 a5 a6 a7 a8 a9 k
  obtain ⟨ih0, ih1⟩ := impl_GateAsk.mono_l k
  unfold impl_GateAsk.f
  repeat' first
      | (with_reducible exact ih0 _ _ _ _ _ _ _ _ _ _ _)
      | (with_reducible exact ih1 _ _ _ _ _ _ _)
      | (with_reducible exact impl_InSlot.mono _ _ _ _ _ _ _)
      | (with_reducible exact impl_PlanOk.mono _ _ _ _)
      | (with_reducible exact LeO.refl _)
      | (with_reducible exact LeO.none _)
      | (with_reducible refine LeO.ite ?_ ?_)
      | (with_reducible refine LeO.bind ?_ (fun _ => ?_))
      | exact ih0 _ _ _ _ _ _ _ _ _ _ _
      | exact ih1 _ _ _ _ _ _ _
      | exact impl_InSlot.mono _ _ _ _ _ _ _
      | exact impl_PlanOk.mono _ _ _ _
      | exact LeO.none _
      | refine LeO.ite ?_ ?_
      | refine LeO.bind ?_ (fun _ => ?_)
set_option maxHeartbeats 8000000 in
set_option maxRecDepth 100000 in
theorem impl_GateAsk.calls (k : Nat) (a0_0 : Int) (a0_1 : Int) (a1 : Bool) (a2_0 : Int) (a2_1 : Int) (a3 : Int) (a4_0 : Int) (a4_1 : Int) (A4_2 : Option Addr) (c4_2 : Nat) (l4_2 : List (S55)) (a5 : Int) (r1 : Int) (r2 : Int) (r3 : Int) (w : World) (hr4_2 : Kd.C k55 w A4_2 l4_2.length l4_2) (hc4_2 : l4_2.length ≤ c4_2) (h : impl_GateAsk.f k a0_0 a0_1 a1 a2_0 a2_1 a3 a4_0 a4_1 l4_2 a5 = some (r1, r2, r3)) :
    Calls Try.prog 14 #[.agg #[.int .i64 a0_0, .int .i64 a0_1], .bool a1, .agg #[.int .i64 a2_0, .int .i64 a2_1], .int .i64 a3, .agg #[.int .i64 a4_0, .int .i64 a4_1, .slice A4_2 l4_2.length c4_2], .int .i64 a5] w fun e w' => e = .returned (.tuple #[.int .i64 r1, .int .i64 r2, .int .i64 r3]) ∧ Below w.heap.size w w' := by
  have hu32 := Try.underlying32
  have hu34 := Try.underlying34
  have hu38 := Try.underlying38
  have HR4_2 := Aside0.mk hr4_2
  have HC4_2 := Aside0.mk hc4_2
  clear hr4_2 hc4_2
  have HB := am_ (Below.refl w.heap.size w)
  have H : (if a1 = true then ((impl_IvalOk.f a0_0 a0_1).bind fun t306 => (if t306 = true then ((impl_DriftOk.f a2_0 a2_1).bind fun t307 => (if t307 = true then ((impl_in.f a3 1 1000000000000).bind fun t308 => (if t308 = true then ((impl_PlanOk.f k a4_0 a4_1 l4_2).bind fun t309 => (if t309 = true then ((impl_isNode.f a5).bind fun t310 => (impl_GateAsk.j0 k a1 a3 a5 (!t310) a0_0 a0_1 a2_0 a2_1 a4_0 a4_1 l4_2)) else (impl_GateAsk.j0 k a1 a3 a5 true a0_0 a0_1 a2_0 a2_1 a4_0 a4_1 l4_2))) else (impl_GateAsk.j0 k a1 a3 a5 true a0_0 a0_1 a2_0 a2_1 a4_0 a4_1 l4_2))) else (impl_GateAsk.j0 k a1 a3 a5 true a0_0 a0_1 a2_0 a2_1 a4_0 a4_1 l4_2))) else (impl_GateAsk.j0 k a1 a3 a5 true a0_0 a0_1 a2_0 a2_1 a4_0 a4_1 l4_2))) else ((impl_DriftOk.f a2_0 a2_1).bind fun t311 => (if t311 = true then ((impl_in.f a3 1 1000000000000).bind fun t312 => (if t312 = true then ((impl_PlanOk.f k a4_0 a4_1 l4_2).bind fun t313 => (if t313 = true then ((impl_isNode.f a5).bind fun t314 => (impl_GateAsk.j0 k a1 a3 a5 (!t314) a0_0 a0_1 a2_0 a2_1 a4_0 a4_1 l4_2)) else (impl_GateAsk.j0 k a1 a3 a5 true a0_0 a0_1 a2_0 a2_1 a4_0 a4_1 l4_2))) else (impl_GateAsk.j0 k a1 a3 a5 true a0_0 a0_1 a2_0 a2_1 a4_0 a4_1 l4_2))) else (impl_GateAsk.j0 k a1 a3 a5 true a0_0 a0_1 a2_0 a2_1 a4_0 a4_1 l4_2)))) = some (r1, r2, r3) := h
  clear h
  have HC7 := Aside0.mk H
  clear H
  go_enter Try.func14, Try.ntmps14
  go_upto_region 1 with (first | ((with_reducible refine gate_dst (N := 6) rfl ?_); refine box_event ?hg (N := 6) ?hd (cs := #[.int .i64 a0_0, .int .i64 a0_1]) (t := 32) ?hr ?_; (case hd => rfl); (case hg => rfl); (case hr => first|(go_simp;done)|(go_simp;rfl)); intro gb303 hg w8 hbox hb; have n0_ := am_ (below_step (hb_ HB.out) hb); have n1_ := am_ (hbox); have n2_ := am_ (hy_ hg (hb_ HB.out) : w.heap.size ≤ gb303); have n3_ := am_ (hy_ hg (hb_ HB.out) : w.heap.size ≤ gb303); clear HB; have HB := n0_; have BK303 := n1_; have GW303 := n2_; have GE303 := n3_; clear n0_ n1_ n2_ n3_; clear hb hbox hg) | ((with_reducible refine gate_dst (N := 8) rfl ?_); refine box_event ?hg (N := 8) ?hd (cs := #[.int .i64 a2_0, .int .i64 a2_1]) (t := 34) ?hr ?_; (case hd => rfl); (case hg => rfl); (case hr => first|(go_simp;done)|(go_simp;rfl)); intro gb304 hg w9 hbox hb; have n0_ := am_ (bb_ BK303.out hb); have n1_ := am_ (below_step (hb1_ HB.out GE303.out) hb); have n2_ := am_ (hbox); have n3_ := am_ (hy_ hg (hb1_ HB.out GE303.out) : w.heap.size ≤ gb304); have n4_ := am_ (hy_ hg (hb1_ HB.out GE303.out) : w.heap.size ≤ gb304); have n5_ := am_ ((bl_ hg BK303.out : gb303 ≠ gb304)); have n6_ := am_ ((bg_ hg BK303.out : gb304 ≠ gb303)); clear BK303; clear HB; have BK303 := n0_; have HB := n1_; have BK304 := n2_; have GW304 := n3_; have GE304 := n4_; have NB303_304 := n5_; have NB304_303 := n6_; clear n0_ n1_ n2_ n3_ n4_ n5_ n6_; clear hb hbox hg) | ((with_reducible refine gate_dst (N := 10) rfl ?_); refine box_event ?hg (N := 10) ?hd (cs := #[.int .i64 a4_0, .int .i64 a4_1, .slice A4_2 l4_2.length c4_2]) (t := 38) ?hr ?_; (case hd => rfl); (case hg => rfl); (case hr => first|(go_simp;done)|(go_simp;rfl)); intro gb305 hg w10 hbox hb; have n0_ := am_ (bb_ BK303.out hb); have n1_ := am_ (bb_ BK304.out hb); have n2_ := am_ (below_step (hb2_ HB.out GE303.out GE304.out) hb); have n3_ := am_ (hbox); have n4_ := am_ (hy_ hg (hb2_ HB.out GE303.out GE304.out) : w.heap.size ≤ gb305); have n5_ := am_ (hy_ hg (hb2_ HB.out GE303.out GE304.out) : w.heap.size ≤ gb305); have n6_ := am_ ((bl_ hg BK303.out : gb303 ≠ gb305)); have n7_ := am_ ((bg_ hg BK303.out : gb305 ≠ gb303)); have n8_ := am_ ((bl_ hg BK304.out : gb304 ≠ gb305)); have n9_ := am_ ((bg_ hg BK304.out : gb305 ≠ gb304)); clear BK303; clear BK304; clear HB; have BK303 := n0_; have BK304 := n1_; have HB := n2_; have BK305 := n3_; have GW305 := n4_; have GE305 := n5_; have NB303_305 := n6_; have NB305_303 := n7_; have NB304_305 := n8_; have NB305_304 := n9_; clear n0_ n1_ n2_ n3_ n4_ n5_ n6_ n7_ n8_ n9_; clear hb hbox hg))
  (try simp only [Act.put, List.setIfInBounds_toArray, List.set_cons_zero, List.set_cons_succ])
  go_cut [45] (fun v45 wc => ∃ (kq : Nat) (x45_6 : Bool), v45 = .bool x45_6 ∧ Aside0 (impl_GateAsk.j0 kq a1 a3 a5 x45_6 a0_0 a0_1 a2_0 a2_1 a4_0 a4_1 l4_2 = some (r1, r2, r3)) ∧ Aside0 (kq ≤ k) ∧ Aside0 (wc.heap[gb303]? = some (.cells #[.int .i64 a0_0, .int .i64 a0_1] 32 (0, 0))) ∧ Aside0 (wc.heap[gb304]? = some (.cells #[.int .i64 a2_0, .int .i64 a2_1] 34 (0, 0))) ∧ Aside0 (wc.heap[gb305]? = some (.cells #[.int .i64 a4_0, .int .i64 a4_1, (.slice A4_2 l4_2.length c4_2)] 38 (0, 0))) ∧ Aside0 (Below w.heap.size w wc))
  case first =>
    have H := HC7.out
    clear HC7
    by_cases c11 : a1 = true
    · subst c11
      have H1 : ((impl_IvalOk.f a0_0 a0_1).bind fun t306 => (if t306 = true then ((impl_DriftOk.f a2_0 a2_1).bind fun t307 => (if t307 = true then ((impl_in.f a3 1 1000000000000).bind fun t308 => (if t308 = true then ((impl_PlanOk.f k a4_0 a4_1 l4_2).bind fun t309 => (if t309 = true then ((impl_isNode.f a5).bind fun t310 => (impl_GateAsk.j0 k true a3 a5 (!t310) a0_0 a0_1 a2_0 a2_1 a4_0 a4_1 l4_2)) else (impl_GateAsk.j0 k true a3 a5 true a0_0 a0_1 a2_0 a2_1 a4_0 a4_1 l4_2))) else (impl_GateAsk.j0 k true a3 a5 true a0_0 a0_1 a2_0 a2_1 a4_0 a4_1 l4_2))) else (impl_GateAsk.j0 k true a3 a5 true a0_0 a0_1 a2_0 a2_1 a4_0 a4_1 l4_2))) else (impl_GateAsk.j0 k true a3 a5 true a0_0 a0_1 a2_0 a2_1 a4_0 a4_1 l4_2))) = some (r1, r2, r3) := by rw [if_pos rfl] at H; exact H
      clear H
      have H := H1
      clear H1
      replace H := Option.bind_eq_some_iff.mp H
      obtain ⟨t306, A120, H⟩ := H
      replace H : (if t306 = true then ((impl_DriftOk.f a2_0 a2_1).bind fun t307 => (if t307 = true then ((impl_in.f a3 1 1000000000000).bind fun t308 => (if t308 = true then ((impl_PlanOk.f k a4_0 a4_1 l4_2).bind fun t309 => (if t309 = true then ((impl_isNode.f a5).bind fun t310 => (impl_GateAsk.j0 k true a3 a5 (!t310) a0_0 a0_1 a2_0 a2_1 a4_0 a4_1 l4_2)) else (impl_GateAsk.j0 k true a3 a5 true a0_0 a0_1 a2_0 a2_1 a4_0 a4_1 l4_2))) else (impl_GateAsk.j0 k true a3 a5 true a0_0 a0_1 a2_0 a2_1 a4_0 a4_1 l4_2))) else (impl_GateAsk.j0 k true a3 a5 true a0_0 a0_1 a2_0 a2_1 a4_0 a4_1 l4_2))) else (impl_GateAsk.j0 k true a3 a5 true a0_0 a0_1 a2_0 a2_1 a4_0 a4_1 l4_2)) = some (r1, r2, r3) := H
      have A12 := Aside0.mk A120
      clear A120
      by_cases c13 : t306 = true
      · subst c13
        have H1 : ((impl_DriftOk.f a2_0 a2_1).bind fun t307 => (if t307 = true then ((impl_in.f a3 1 1000000000000).bind fun t308 => (if t308 = true then ((impl_PlanOk.f k a4_0 a4_1 l4_2).bind fun t309 => (if t309 = true then ((impl_isNode.f a5).bind fun t310 => (impl_GateAsk.j0 k true a3 a5 (!t310) a0_0 a0_1 a2_0 a2_1 a4_0 a4_1 l4_2)) else (impl_GateAsk.j0 k true a3 a5 true a0_0 a0_1 a2_0 a2_1 a4_0 a4_1 l4_2))) else (impl_GateAsk.j0 k true a3 a5 true a0_0 a0_1 a2_0 a2_1 a4_0 a4_1 l4_2))) else (impl_GateAsk.j0 k true a3 a5 true a0_0 a0_1 a2_0 a2_1 a4_0 a4_1 l4_2))) = some (r1, r2, r3) := by rw [if_pos rfl] at H; exact H
        clear H
        have H := H1
        clear H1
        replace H := Option.bind_eq_some_iff.mp H
        obtain ⟨t307, A140, H⟩ := H
        replace H : (if t307 = true then ((impl_in.f a3 1 1000000000000).bind fun t308 => (if t308 = true then ((impl_PlanOk.f k a4_0 a4_1 l4_2).bind fun t309 => (if t309 = true then ((impl_isNode.f a5).bind fun t310 => (impl_GateAsk.j0 k true a3 a5 (!t310) a0_0 a0_1 a2_0 a2_1 a4_0 a4_1 l4_2)) else (impl_GateAsk.j0 k true a3 a5 true a0_0 a0_1 a2_0 a2_1 a4_0 a4_1 l4_2))) else (impl_GateAsk.j0 k true a3 a5 true a0_0 a0_1 a2_0 a2_1 a4_0 a4_1 l4_2))) else (impl_GateAsk.j0 k true a3 a5 true a0_0 a0_1 a2_0 a2_1 a4_0 a4_1 l4_2)) = some (r1, r2, r3) := H
        have A14 := Aside0.mk A140
        clear A140
        by_cases c15 : t307 = true
        · subst c15
          have H1 : ((impl_in.f a3 1 1000000000000).bind fun t308 => (if t308 = true then ((impl_PlanOk.f k a4_0 a4_1 l4_2).bind fun t309 => (if t309 = true then ((impl_isNode.f a5).bind fun t310 => (impl_GateAsk.j0 k true a3 a5 (!t310) a0_0 a0_1 a2_0 a2_1 a4_0 a4_1 l4_2)) else (impl_GateAsk.j0 k true a3 a5 true a0_0 a0_1 a2_0 a2_1 a4_0 a4_1 l4_2))) else (impl_GateAsk.j0 k true a3 a5 true a0_0 a0_1 a2_0 a2_1 a4_0 a4_1 l4_2))) = some (r1, r2, r3) := by rw [if_pos rfl] at H; exact H
          clear H
          have H := H1
          clear H1
          replace H := Option.bind_eq_some_iff.mp H
          obtain ⟨t308, A160, H⟩ := H
          replace H : (if t308 = true then ((impl_PlanOk.f k a4_0 a4_1 l4_2).bind fun t309 => (if t309 = true then ((impl_isNode.f a5).bind fun t310 => (impl_GateAsk.j0 k true a3 a5 (!t310) a0_0 a0_1 a2_0 a2_1 a4_0 a4_1 l4_2)) else (impl_GateAsk.j0 k true a3 a5 true a0_0 a0_1 a2_0 a2_1 a4_0 a4_1 l4_2))) else (impl_GateAsk.j0 k true a3 a5 true a0_0 a0_1 a2_0 a2_1 a4_0 a4_1 l4_2)) = some (r1, r2, r3) := H
          have A16 := Aside0.mk A160
          clear A160
          by_cases c17 : t308 = true
          · subst c17
            have H1 : ((impl_PlanOk.f k a4_0 a4_1 l4_2).bind fun t309 => (if t309 = true then ((impl_isNode.f a5).bind fun t310 => (impl_GateAsk.j0 k true a3 a5 (!t310) a0_0 a0_1 a2_0 a2_1 a4_0 a4_1 l4_2)) else (impl_GateAsk.j0 k true a3 a5 true a0_0 a0_1 a2_0 a2_1 a4_0 a4_1 l4_2))) = some (r1, r2, r3) := by rw [if_pos rfl] at H; exact H
            clear H
            have H := H1
            clear H1
            replace H := Option.bind_eq_some_iff.mp H
            obtain ⟨t309, A180, H⟩ := H
            replace H : (if t309 = true then ((impl_isNode.f a5).bind fun t310 => (impl_GateAsk.j0 k true a3 a5 (!t310) a0_0 a0_1 a2_0 a2_1 a4_0 a4_1 l4_2)) else (impl_GateAsk.j0 k true a3 a5 true a0_0 a0_1 a2_0 a2_1 a4_0 a4_1 l4_2)) = some (r1, r2, r3) := H
            have A18 := Aside0.mk A180
            clear A180
            by_cases c19 : t309 = true
            · subst c19
              have H1 : ((impl_isNode.f a5).bind fun t310 => (impl_GateAsk.j0 k true a3 a5 (!t310) a0_0 a0_1 a2_0 a2_1 a4_0 a4_1 l4_2)) = some (r1, r2, r3) := by rw [if_pos rfl] at H; exact H
              clear H
              have H := H1
              clear H1
              replace H := Option.bind_eq_some_iff.mp H
              obtain ⟨t310, A200, H⟩ := H
              replace H : (impl_GateAsk.j0 k true a3 a5 (!t310) a0_0 a0_1 a2_0 a2_1 a4_0 a4_1 l4_2) = some (r1, r2, r3) := H
              have A20 := Aside0.mk A200
              clear A200
              have H' := Aside0.mk H
              clear H
              have hnb21 := NB303_304.out
              have hnc21 := NB304_303.out
              have hnb22 := NB303_305.out
              have hnc22 := NB305_303.out
              have hcz23_0 := bc_ BK303.out 0 (.int .i64 a0_0) rfl
              have hcz23_1 := bc_ BK303.out 1 (.int .i64 a0_1) rfl
              have hfz23_0 := blk_frozen BK303.out 0
              have hfz23_1 := blk_frozen BK303.out 1
              go_wp2_with (first | (go_at_call 43; (with_reducible refine (impl_IvalOk.calls a0_0 a0_1 true _ A12.out).mono ?_); rintro e w24 ⟨rfl, hb⟩; have n0_ := am_ (bb_ BK303.out hb); have n1_ := am_ (bb_ BK304.out hb); have n2_ := am_ (bb_ BK305.out hb); have n3_ := am_ (below_step (hb3_ HB.out GE303.out GE304.out GE305.out) hb); clear BK303; clear BK304; clear BK305; clear HB; have BK303 := n0_; have BK304 := n1_; have BK305 := n2_; have HB := n3_; clear n0_ n1_ n2_ n3_; (try clear hb); (try clear hb2); (try clear hk); (try clear hi); have hnb25 := NB304_305.out; have hnc25 := NB305_304.out; have hcz26_0 := bc_ BK304.out 0 (.int .i64 a2_0) rfl; have hcz26_1 := bc_ BK304.out 1 (.int .i64 a2_1) rfl; have hfz26_0 := blk_frozen BK304.out 0; have hfz26_1 := blk_frozen BK304.out 1) | (go_at_call 44; (with_reducible refine (impl_DriftOk.calls a2_0 a2_1 true _ A14.out).mono ?_); rintro e w27 ⟨rfl, hb⟩; have n0_ := am_ (bb_ BK303.out hb); have n1_ := am_ (bb_ BK304.out hb); have n2_ := am_ (bb_ BK305.out hb); have n3_ := am_ (below_step (hb3_ HB.out GE303.out GE304.out GE305.out) hb); clear BK303; clear BK304; clear BK305; clear HB; have BK303 := n0_; have BK304 := n1_; have BK305 := n2_; have HB := n3_; clear n0_ n1_ n2_ n3_; (try clear hb); (try clear hb2); (try clear hk); (try clear hi)) | (go_at_call 45; (with_reducible refine (impl_in.calls a3 1 1000000000000 true _ A16.out).mono ?_); rintro e w' ⟨rfl, ⟨nd, rfl⟩⟩; have hcz28_0 := bc_ BK305.out 0 (.int .i64 a4_0) rfl; have hcz28_1 := bc_ BK305.out 1 (.int .i64 a4_1) rfl; have hcz28_2 := bc_ BK305.out 2 (.slice A4_2 l4_2.length c4_2) rfl; have hfz28_0 := blk_frozen BK305.out 0; have hfz28_1 := blk_frozen BK305.out 1; have hfz28_2 := blk_frozen BK305.out 2) | (go_at_call 46; (with_reducible refine (impl_PlanOk.calls k a4_0 a4_1 _ _ l4_2 true _ ?side1 ?side2 A18.out).mono ?_); (case side1 => repeat (first | exact (Kd.C_below HR4_2.out (hb3_ HB.out GE303.out GE304.out GE305.out)) | (with_reducible refine Kd.C_alloc ?_ _) | (with_reducible refine Kd.C_drewN ?_ _) | (with_reducible refine Kd.C_drew ?_))); (case side2 => exact HC4_2.out); rintro e w29 ⟨rfl, hb⟩; have n0_ := am_ (bb_ BK303.out hb); have n1_ := am_ (bb_ BK304.out hb); have n2_ := am_ (bb_ BK305.out hb); have n3_ := am_ (below_step (hb3_ HB.out GE303.out GE304.out GE305.out) hb); clear BK303; clear BK304; clear BK305; clear HB; have BK303 := n0_; have BK304 := n1_; have BK305 := n2_; have HB := n3_; clear n0_ n1_ n2_ n3_; (try clear hb); (try clear hb2); (try clear hk); (try clear hi)) | (go_at_call 47; (with_reducible refine (impl_isNode.calls a5 t310 _ A20.out).mono ?_); rintro e w' ⟨rfl, ⟨nd, rfl⟩⟩))
              go_meet
              case rel => exact ⟨_, (!t310), (by first | rfl | (simp; done) | (simp [*]; done)), H', ⟨by first | omega | exact Nat.le_refl _⟩, ⟨bk_ BK303.out⟩, ⟨bk_ BK304.out⟩, ⟨bk_ BK305.out⟩, ⟨hb3_ HB.out GE303.out GE304.out GE305.out⟩⟩
            · replace c19 := Bool.eq_false_iff.mpr c19
              subst c19
              have H1 : (impl_GateAsk.j0 k true a3 a5 true a0_0 a0_1 a2_0 a2_1 a4_0 a4_1 l4_2) = some (r1, r2, r3) := by rw [if_neg (show ¬ (false = true) by decide)] at H; exact H
              clear H
              have H := H1
              clear H1
              have H' := Aside0.mk H
              clear H
              have hnb30 := NB303_304.out
              have hnc30 := NB304_303.out
              have hnb31 := NB303_305.out
              have hnc31 := NB305_303.out
              have hcz32_0 := bc_ BK303.out 0 (.int .i64 a0_0) rfl
              have hcz32_1 := bc_ BK303.out 1 (.int .i64 a0_1) rfl
              have hfz32_0 := blk_frozen BK303.out 0
              have hfz32_1 := blk_frozen BK303.out 1
              go_wp2_with (first | (go_at_call 43; (with_reducible refine (impl_IvalOk.calls a0_0 a0_1 true _ A12.out).mono ?_); rintro e w33 ⟨rfl, hb⟩; have n0_ := am_ (bb_ BK303.out hb); have n1_ := am_ (bb_ BK304.out hb); have n2_ := am_ (bb_ BK305.out hb); have n3_ := am_ (below_step (hb3_ HB.out GE303.out GE304.out GE305.out) hb); clear BK303; clear BK304; clear BK305; clear HB; have BK303 := n0_; have BK304 := n1_; have BK305 := n2_; have HB := n3_; clear n0_ n1_ n2_ n3_; (try clear hb); (try clear hb2); (try clear hk); (try clear hi); have hnb34 := NB304_305.out; have hnc34 := NB305_304.out; have hcz35_0 := bc_ BK304.out 0 (.int .i64 a2_0) rfl; have hcz35_1 := bc_ BK304.out 1 (.int .i64 a2_1) rfl; have hfz35_0 := blk_frozen BK304.out 0; have hfz35_1 := blk_frozen BK304.out 1) | (go_at_call 44; (with_reducible refine (impl_DriftOk.calls a2_0 a2_1 true _ A14.out).mono ?_); rintro e w36 ⟨rfl, hb⟩; have n0_ := am_ (bb_ BK303.out hb); have n1_ := am_ (bb_ BK304.out hb); have n2_ := am_ (bb_ BK305.out hb); have n3_ := am_ (below_step (hb3_ HB.out GE303.out GE304.out GE305.out) hb); clear BK303; clear BK304; clear BK305; clear HB; have BK303 := n0_; have BK304 := n1_; have BK305 := n2_; have HB := n3_; clear n0_ n1_ n2_ n3_; (try clear hb); (try clear hb2); (try clear hk); (try clear hi)) | (go_at_call 45; (with_reducible refine (impl_in.calls a3 1 1000000000000 true _ A16.out).mono ?_); rintro e w' ⟨rfl, ⟨nd, rfl⟩⟩; have hcz37_0 := bc_ BK305.out 0 (.int .i64 a4_0) rfl; have hcz37_1 := bc_ BK305.out 1 (.int .i64 a4_1) rfl; have hcz37_2 := bc_ BK305.out 2 (.slice A4_2 l4_2.length c4_2) rfl; have hfz37_0 := blk_frozen BK305.out 0; have hfz37_1 := blk_frozen BK305.out 1; have hfz37_2 := blk_frozen BK305.out 2) | (go_at_call 46; (with_reducible refine (impl_PlanOk.calls k a4_0 a4_1 _ _ l4_2 false _ ?side1 ?side2 A18.out).mono ?_); (case side1 => repeat (first | exact (Kd.C_below HR4_2.out (hb3_ HB.out GE303.out GE304.out GE305.out)) | (with_reducible refine Kd.C_alloc ?_ _) | (with_reducible refine Kd.C_drewN ?_ _) | (with_reducible refine Kd.C_drew ?_))); (case side2 => exact HC4_2.out); rintro e w38 ⟨rfl, hb⟩; have n0_ := am_ (bb_ BK303.out hb); have n1_ := am_ (bb_ BK304.out hb); have n2_ := am_ (bb_ BK305.out hb); have n3_ := am_ (below_step (hb3_ HB.out GE303.out GE304.out GE305.out) hb); clear BK303; clear BK304; clear BK305; clear HB; have BK303 := n0_; have BK304 := n1_; have BK305 := n2_; have HB := n3_; clear n0_ n1_ n2_ n3_; (try clear hb); (try clear hb2); (try clear hk); (try clear hi)))
              go_meet
              case rel => exact ⟨_, (true), (by first | rfl | (simp; done) | (simp [*]; done)), H', ⟨by first | omega | exact Nat.le_refl _⟩, ⟨bk_ BK303.out⟩, ⟨bk_ BK304.out⟩, ⟨bk_ BK305.out⟩, ⟨hb3_ HB.out GE303.out GE304.out GE305.out⟩⟩
          · replace c17 := Bool.eq_false_iff.mpr c17
            subst c17
            have H1 : (impl_GateAsk.j0 k true a3 a5 true a0_0 a0_1 a2_0 a2_1 a4_0 a4_1 l4_2) = some (r1, r2, r3) := by rw [if_neg (show ¬ (false = true) by decide)] at H; exact H
            clear H
            have H := H1
            clear H1
            have H' := Aside0.mk H
            clear H
            have hnb39 := NB303_304.out
            have hnc39 := NB304_303.out
            have hnb40 := NB303_305.out
            have hnc40 := NB305_303.out
            have hcz41_0 := bc_ BK303.out 0 (.int .i64 a0_0) rfl
            have hcz41_1 := bc_ BK303.out 1 (.int .i64 a0_1) rfl
            have hfz41_0 := blk_frozen BK303.out 0
            have hfz41_1 := blk_frozen BK303.out 1
            go_wp2_with (first | (go_at_call 43; (with_reducible refine (impl_IvalOk.calls a0_0 a0_1 true _ A12.out).mono ?_); rintro e w42 ⟨rfl, hb⟩; have n0_ := am_ (bb_ BK303.out hb); have n1_ := am_ (bb_ BK304.out hb); have n2_ := am_ (bb_ BK305.out hb); have n3_ := am_ (below_step (hb3_ HB.out GE303.out GE304.out GE305.out) hb); clear BK303; clear BK304; clear BK305; clear HB; have BK303 := n0_; have BK304 := n1_; have BK305 := n2_; have HB := n3_; clear n0_ n1_ n2_ n3_; (try clear hb); (try clear hb2); (try clear hk); (try clear hi); have hnb43 := NB304_305.out; have hnc43 := NB305_304.out; have hcz44_0 := bc_ BK304.out 0 (.int .i64 a2_0) rfl; have hcz44_1 := bc_ BK304.out 1 (.int .i64 a2_1) rfl; have hfz44_0 := blk_frozen BK304.out 0; have hfz44_1 := blk_frozen BK304.out 1) | (go_at_call 44; (with_reducible refine (impl_DriftOk.calls a2_0 a2_1 true _ A14.out).mono ?_); rintro e w45 ⟨rfl, hb⟩; have n0_ := am_ (bb_ BK303.out hb); have n1_ := am_ (bb_ BK304.out hb); have n2_ := am_ (bb_ BK305.out hb); have n3_ := am_ (below_step (hb3_ HB.out GE303.out GE304.out GE305.out) hb); clear BK303; clear BK304; clear BK305; clear HB; have BK303 := n0_; have BK304 := n1_; have BK305 := n2_; have HB := n3_; clear n0_ n1_ n2_ n3_; (try clear hb); (try clear hb2); (try clear hk); (try clear hi)) | (go_at_call 45; (with_reducible refine (impl_in.calls a3 1 1000000000000 false _ A16.out).mono ?_); rintro e w' ⟨rfl, ⟨nd, rfl⟩⟩))
            go_meet
            case rel => exact ⟨_, (true), (by first | rfl | (simp; done) | (simp [*]; done)), H', ⟨by first | omega | exact Nat.le_refl _⟩, ⟨bk_ BK303.out⟩, ⟨bk_ BK304.out⟩, ⟨bk_ BK305.out⟩, ⟨hb3_ HB.out GE303.out GE304.out GE305.out⟩⟩
        · replace c15 := Bool.eq_false_iff.mpr c15
          subst c15
          have H1 : (impl_GateAsk.j0 k true a3 a5 true a0_0 a0_1 a2_0 a2_1 a4_0 a4_1 l4_2) = some (r1, r2, r3) := by rw [if_neg (show ¬ (false = true) by decide)] at H; exact H
          clear H
          have H := H1
          clear H1
          have H' := Aside0.mk H
          clear H
          have hnb46 := NB303_304.out
          have hnc46 := NB304_303.out
          have hnb47 := NB303_305.out
          have hnc47 := NB305_303.out
          have hcz48_0 := bc_ BK303.out 0 (.int .i64 a0_0) rfl
          have hcz48_1 := bc_ BK303.out 1 (.int .i64 a0_1) rfl
          have hfz48_0 := blk_frozen BK303.out 0
          have hfz48_1 := blk_frozen BK303.out 1
          go_wp2_with (first | (go_at_call 43; (with_reducible refine (impl_IvalOk.calls a0_0 a0_1 true _ A12.out).mono ?_); rintro e w49 ⟨rfl, hb⟩; have n0_ := am_ (bb_ BK303.out hb); have n1_ := am_ (bb_ BK304.out hb); have n2_ := am_ (bb_ BK305.out hb); have n3_ := am_ (below_step (hb3_ HB.out GE303.out GE304.out GE305.out) hb); clear BK303; clear BK304; clear BK305; clear HB; have BK303 := n0_; have BK304 := n1_; have BK305 := n2_; have HB := n3_; clear n0_ n1_ n2_ n3_; (try clear hb); (try clear hb2); (try clear hk); (try clear hi); have hnb50 := NB304_305.out; have hnc50 := NB305_304.out; have hcz51_0 := bc_ BK304.out 0 (.int .i64 a2_0) rfl; have hcz51_1 := bc_ BK304.out 1 (.int .i64 a2_1) rfl; have hfz51_0 := blk_frozen BK304.out 0; have hfz51_1 := blk_frozen BK304.out 1) | (go_at_call 44; (with_reducible refine (impl_DriftOk.calls a2_0 a2_1 false _ A14.out).mono ?_); rintro e w52 ⟨rfl, hb⟩; have n0_ := am_ (bb_ BK303.out hb); have n1_ := am_ (bb_ BK304.out hb); have n2_ := am_ (bb_ BK305.out hb); have n3_ := am_ (below_step (hb3_ HB.out GE303.out GE304.out GE305.out) hb); clear BK303; clear BK304; clear BK305; clear HB; have BK303 := n0_; have BK304 := n1_; have BK305 := n2_; have HB := n3_; clear n0_ n1_ n2_ n3_; (try clear hb); (try clear hb2); (try clear hk); (try clear hi)))
          go_meet
          case rel => exact ⟨_, (true), (by first | rfl | (simp; done) | (simp [*]; done)), H', ⟨by first | omega | exact Nat.le_refl _⟩, ⟨bk_ BK303.out⟩, ⟨bk_ BK304.out⟩, ⟨bk_ BK305.out⟩, ⟨hb3_ HB.out GE303.out GE304.out GE305.out⟩⟩
      · replace c13 := Bool.eq_false_iff.mpr c13
        subst c13
        have H1 : (impl_GateAsk.j0 k true a3 a5 true a0_0 a0_1 a2_0 a2_1 a4_0 a4_1 l4_2) = some (r1, r2, r3) := by rw [if_neg (show ¬ (false = true) by decide)] at H; exact H
        clear H
        have H := H1
        clear H1
        have H' := Aside0.mk H
        clear H
        have hnb53 := NB303_304.out
        have hnc53 := NB304_303.out
        have hnb54 := NB303_305.out
        have hnc54 := NB305_303.out
        have hcz55_0 := bc_ BK303.out 0 (.int .i64 a0_0) rfl
        have hcz55_1 := bc_ BK303.out 1 (.int .i64 a0_1) rfl
        have hfz55_0 := blk_frozen BK303.out 0
        have hfz55_1 := blk_frozen BK303.out 1
        go_wp2_with (first | (go_at_call 43; (with_reducible refine (impl_IvalOk.calls a0_0 a0_1 false _ A12.out).mono ?_); rintro e w56 ⟨rfl, hb⟩; have n0_ := am_ (bb_ BK303.out hb); have n1_ := am_ (bb_ BK304.out hb); have n2_ := am_ (bb_ BK305.out hb); have n3_ := am_ (below_step (hb3_ HB.out GE303.out GE304.out GE305.out) hb); clear BK303; clear BK304; clear BK305; clear HB; have BK303 := n0_; have BK304 := n1_; have BK305 := n2_; have HB := n3_; clear n0_ n1_ n2_ n3_; (try clear hb); (try clear hb2); (try clear hk); (try clear hi)))
        go_meet
        case rel => exact ⟨_, (true), (by first | rfl | (simp; done) | (simp [*]; done)), H', ⟨by first | omega | exact Nat.le_refl _⟩, ⟨bk_ BK303.out⟩, ⟨bk_ BK304.out⟩, ⟨bk_ BK305.out⟩, ⟨hb3_ HB.out GE303.out GE304.out GE305.out⟩⟩
    · replace c11 := Bool.eq_false_iff.mpr c11
      subst c11
      have H1 : ((impl_DriftOk.f a2_0 a2_1).bind fun t311 => (if t311 = true then ((impl_in.f a3 1 1000000000000).bind fun t312 => (if t312 = true then ((impl_PlanOk.f k a4_0 a4_1 l4_2).bind fun t313 => (if t313 = true then ((impl_isNode.f a5).bind fun t314 => (impl_GateAsk.j0 k false a3 a5 (!t314) a0_0 a0_1 a2_0 a2_1 a4_0 a4_1 l4_2)) else (impl_GateAsk.j0 k false a3 a5 true a0_0 a0_1 a2_0 a2_1 a4_0 a4_1 l4_2))) else (impl_GateAsk.j0 k false a3 a5 true a0_0 a0_1 a2_0 a2_1 a4_0 a4_1 l4_2))) else (impl_GateAsk.j0 k false a3 a5 true a0_0 a0_1 a2_0 a2_1 a4_0 a4_1 l4_2))) = some (r1, r2, r3) := by rw [if_neg (show ¬ (false = true) by decide)] at H; exact H
      clear H
      have H := H1
      clear H1
      replace H := Option.bind_eq_some_iff.mp H
      obtain ⟨t311, A570, H⟩ := H
      replace H : (if t311 = true then ((impl_in.f a3 1 1000000000000).bind fun t312 => (if t312 = true then ((impl_PlanOk.f k a4_0 a4_1 l4_2).bind fun t313 => (if t313 = true then ((impl_isNode.f a5).bind fun t314 => (impl_GateAsk.j0 k false a3 a5 (!t314) a0_0 a0_1 a2_0 a2_1 a4_0 a4_1 l4_2)) else (impl_GateAsk.j0 k false a3 a5 true a0_0 a0_1 a2_0 a2_1 a4_0 a4_1 l4_2))) else (impl_GateAsk.j0 k false a3 a5 true a0_0 a0_1 a2_0 a2_1 a4_0 a4_1 l4_2))) else (impl_GateAsk.j0 k false a3 a5 true a0_0 a0_1 a2_0 a2_1 a4_0 a4_1 l4_2)) = some (r1, r2, r3) := H
      have A57 := Aside0.mk A570
      clear A570
      by_cases c58 : t311 = true
      · subst c58
        have H1 : ((impl_in.f a3 1 1000000000000).bind fun t312 => (if t312 = true then ((impl_PlanOk.f k a4_0 a4_1 l4_2).bind fun t313 => (if t313 = true then ((impl_isNode.f a5).bind fun t314 => (impl_GateAsk.j0 k false a3 a5 (!t314) a0_0 a0_1 a2_0 a2_1 a4_0 a4_1 l4_2)) else (impl_GateAsk.j0 k false a3 a5 true a0_0 a0_1 a2_0 a2_1 a4_0 a4_1 l4_2))) else (impl_GateAsk.j0 k false a3 a5 true a0_0 a0_1 a2_0 a2_1 a4_0 a4_1 l4_2))) = some (r1, r2, r3) := by rw [if_pos rfl] at H; exact H
        clear H
        have H := H1
        clear H1
        replace H := Option.bind_eq_some_iff.mp H
        obtain ⟨t312, A590, H⟩ := H
        replace H : (if t312 = true then ((impl_PlanOk.f k a4_0 a4_1 l4_2).bind fun t313 => (if t313 = true then ((impl_isNode.f a5).bind fun t314 => (impl_GateAsk.j0 k false a3 a5 (!t314) a0_0 a0_1 a2_0 a2_1 a4_0 a4_1 l4_2)) else (impl_GateAsk.j0 k false a3 a5 true a0_0 a0_1 a2_0 a2_1 a4_0 a4_1 l4_2))) else (impl_GateAsk.j0 k false a3 a5 true a0_0 a0_1 a2_0 a2_1 a4_0 a4_1 l4_2)) = some (r1, r2, r3) := H
        have A59 := Aside0.mk A590
        clear A590
        by_cases c60 : t312 = true
        · subst c60
          have H1 : ((impl_PlanOk.f k a4_0 a4_1 l4_2).bind fun t313 => (if t313 = true then ((impl_isNode.f a5).bind fun t314 => (impl_GateAsk.j0 k false a3 a5 (!t314) a0_0 a0_1 a2_0 a2_1 a4_0 a4_1 l4_2)) else (impl_GateAsk.j0 k false a3 a5 true a0_0 a0_1 a2_0 a2_1 a4_0 a4_1 l4_2))) = some (r1, r2, r3) := by rw [if_pos rfl] at H; exact H
          clear H
          have H := H1
          clear H1
          replace H := Option.bind_eq_some_iff.mp H
          obtain ⟨t313, A610, H⟩ := H
          replace H : (if t313 = true then ((impl_isNode.f a5).bind fun t314 => (impl_GateAsk.j0 k false a3 a5 (!t314) a0_0 a0_1 a2_0 a2_1 a4_0 a4_1 l4_2)) else (impl_GateAsk.j0 k false a3 a5 true a0_0 a0_1 a2_0 a2_1 a4_0 a4_1 l4_2)) = some (r1, r2, r3) := H
          have A61 := Aside0.mk A610
          clear A610
          by_cases c62 : t313 = true
          · subst c62
            have H1 : ((impl_isNode.f a5).bind fun t314 => (impl_GateAsk.j0 k false a3 a5 (!t314) a0_0 a0_1 a2_0 a2_1 a4_0 a4_1 l4_2)) = some (r1, r2, r3) := by rw [if_pos rfl] at H; exact H
            clear H
            have H := H1
            clear H1
            replace H := Option.bind_eq_some_iff.mp H
            obtain ⟨t314, A630, H⟩ := H
            replace H : (impl_GateAsk.j0 k false a3 a5 (!t314) a0_0 a0_1 a2_0 a2_1 a4_0 a4_1 l4_2) = some (r1, r2, r3) := H
            have A63 := Aside0.mk A630
            clear A630
            have H' := Aside0.mk H
            clear H
            have hnb64 := NB304_303.out
            have hnc64 := NB303_304.out
            have hnb65 := NB304_305.out
            have hnc65 := NB305_304.out
            have hcz66_0 := bc_ BK304.out 0 (.int .i64 a2_0) rfl
            have hcz66_1 := bc_ BK304.out 1 (.int .i64 a2_1) rfl
            have hfz66_0 := blk_frozen BK304.out 0
            have hfz66_1 := blk_frozen BK304.out 1
            go_wp2_with (first | (go_at_call 44; (with_reducible refine (impl_DriftOk.calls a2_0 a2_1 true _ A57.out).mono ?_); rintro e w67 ⟨rfl, hb⟩; have n0_ := am_ (bb_ BK303.out hb); have n1_ := am_ (bb_ BK304.out hb); have n2_ := am_ (bb_ BK305.out hb); have n3_ := am_ (below_step (hb3_ HB.out GE303.out GE304.out GE305.out) hb); clear BK303; clear BK304; clear BK305; clear HB; have BK303 := n0_; have BK304 := n1_; have BK305 := n2_; have HB := n3_; clear n0_ n1_ n2_ n3_; (try clear hb); (try clear hb2); (try clear hk); (try clear hi)) | (go_at_call 45; (with_reducible refine (impl_in.calls a3 1 1000000000000 true _ A59.out).mono ?_); rintro e w' ⟨rfl, ⟨nd, rfl⟩⟩; have hnb68 := NB305_303.out; have hnc68 := NB303_305.out; have hcz69_0 := bc_ BK305.out 0 (.int .i64 a4_0) rfl; have hcz69_1 := bc_ BK305.out 1 (.int .i64 a4_1) rfl; have hcz69_2 := bc_ BK305.out 2 (.slice A4_2 l4_2.length c4_2) rfl; have hfz69_0 := blk_frozen BK305.out 0; have hfz69_1 := blk_frozen BK305.out 1; have hfz69_2 := blk_frozen BK305.out 2) | (go_at_call 46; (with_reducible refine (impl_PlanOk.calls k a4_0 a4_1 _ _ l4_2 true _ ?side1 ?side2 A61.out).mono ?_); (case side1 => repeat (first | exact (Kd.C_below HR4_2.out (hb3_ HB.out GE303.out GE304.out GE305.out)) | (with_reducible refine Kd.C_alloc ?_ _) | (with_reducible refine Kd.C_drewN ?_ _) | (with_reducible refine Kd.C_drew ?_))); (case side2 => exact HC4_2.out); rintro e w70 ⟨rfl, hb⟩; have n0_ := am_ (bb_ BK303.out hb); have n1_ := am_ (bb_ BK304.out hb); have n2_ := am_ (bb_ BK305.out hb); have n3_ := am_ (below_step (hb3_ HB.out GE303.out GE304.out GE305.out) hb); clear BK303; clear BK304; clear BK305; clear HB; have BK303 := n0_; have BK304 := n1_; have BK305 := n2_; have HB := n3_; clear n0_ n1_ n2_ n3_; (try clear hb); (try clear hb2); (try clear hk); (try clear hi)) | (go_at_call 47; (with_reducible refine (impl_isNode.calls a5 t314 _ A63.out).mono ?_); rintro e w' ⟨rfl, ⟨nd, rfl⟩⟩))
            go_meet
            case rel => exact ⟨_, (!t314), (by first | rfl | (simp; done) | (simp [*]; done)), H', ⟨by first | omega | exact Nat.le_refl _⟩, ⟨bk_ BK303.out⟩, ⟨bk_ BK304.out⟩, ⟨bk_ BK305.out⟩, ⟨hb3_ HB.out GE303.out GE304.out GE305.out⟩⟩
          · replace c62 := Bool.eq_false_iff.mpr c62
            subst c62
            have H1 : (impl_GateAsk.j0 k false a3 a5 true a0_0 a0_1 a2_0 a2_1 a4_0 a4_1 l4_2) = some (r1, r2, r3) := by rw [if_neg (show ¬ (false = true) by decide)] at H; exact H
            clear H
            have H := H1
            clear H1
            have H' := Aside0.mk H
            clear H
            have hnb71 := NB304_303.out
            have hnc71 := NB303_304.out
            have hnb72 := NB304_305.out
            have hnc72 := NB305_304.out
            have hcz73_0 := bc_ BK304.out 0 (.int .i64 a2_0) rfl
            have hcz73_1 := bc_ BK304.out 1 (.int .i64 a2_1) rfl
            have hfz73_0 := blk_frozen BK304.out 0
            have hfz73_1 := blk_frozen BK304.out 1
            go_wp2_with (first | (go_at_call 44; (with_reducible refine (impl_DriftOk.calls a2_0 a2_1 true _ A57.out).mono ?_); rintro e w74 ⟨rfl, hb⟩; have n0_ := am_ (bb_ BK303.out hb); have n1_ := am_ (bb_ BK304.out hb); have n2_ := am_ (bb_ BK305.out hb); have n3_ := am_ (below_step (hb3_ HB.out GE303.out GE304.out GE305.out) hb); clear BK303; clear BK304; clear BK305; clear HB; have BK303 := n0_; have BK304 := n1_; have BK305 := n2_; have HB := n3_; clear n0_ n1_ n2_ n3_; (try clear hb); (try clear hb2); (try clear hk); (try clear hi)) | (go_at_call 45; (with_reducible refine (impl_in.calls a3 1 1000000000000 true _ A59.out).mono ?_); rintro e w' ⟨rfl, ⟨nd, rfl⟩⟩; have hnb75 := NB305_303.out; have hnc75 := NB303_305.out; have hcz76_0 := bc_ BK305.out 0 (.int .i64 a4_0) rfl; have hcz76_1 := bc_ BK305.out 1 (.int .i64 a4_1) rfl; have hcz76_2 := bc_ BK305.out 2 (.slice A4_2 l4_2.length c4_2) rfl; have hfz76_0 := blk_frozen BK305.out 0; have hfz76_1 := blk_frozen BK305.out 1; have hfz76_2 := blk_frozen BK305.out 2) | (go_at_call 46; (with_reducible refine (impl_PlanOk.calls k a4_0 a4_1 _ _ l4_2 false _ ?side1 ?side2 A61.out).mono ?_); (case side1 => repeat (first | exact (Kd.C_below HR4_2.out (hb3_ HB.out GE303.out GE304.out GE305.out)) | (with_reducible refine Kd.C_alloc ?_ _) | (with_reducible refine Kd.C_drewN ?_ _) | (with_reducible refine Kd.C_drew ?_))); (case side2 => exact HC4_2.out); rintro e w77 ⟨rfl, hb⟩; have n0_ := am_ (bb_ BK303.out hb); have n1_ := am_ (bb_ BK304.out hb); have n2_ := am_ (bb_ BK305.out hb); have n3_ := am_ (below_step (hb3_ HB.out GE303.out GE304.out GE305.out) hb); clear BK303; clear BK304; clear BK305; clear HB; have BK303 := n0_; have BK304 := n1_; have BK305 := n2_; have HB := n3_; clear n0_ n1_ n2_ n3_; (try clear hb); (try clear hb2); (try clear hk); (try clear hi)))
            go_meet
            case rel => exact ⟨_, (true), (by first | rfl | (simp; done) | (simp [*]; done)), H', ⟨by first | omega | exact Nat.le_refl _⟩, ⟨bk_ BK303.out⟩, ⟨bk_ BK304.out⟩, ⟨bk_ BK305.out⟩, ⟨hb3_ HB.out GE303.out GE304.out GE305.out⟩⟩
        · replace c60 := Bool.eq_false_iff.mpr c60
          subst c60
          have H1 : (impl_GateAsk.j0 k false a3 a5 true a0_0 a0_1 a2_0 a2_1 a4_0 a4_1 l4_2) = some (r1, r2, r3) := by rw [if_neg (show ¬ (false = true) by decide)] at H; exact H
          clear H
          have H := H1
          clear H1
          have H' := Aside0.mk H
          clear H
          have hnb78 := NB304_303.out
          have hnc78 := NB303_304.out
          have hnb79 := NB304_305.out
          have hnc79 := NB305_304.out
          have hcz80_0 := bc_ BK304.out 0 (.int .i64 a2_0) rfl
          have hcz80_1 := bc_ BK304.out 1 (.int .i64 a2_1) rfl
          have hfz80_0 := blk_frozen BK304.out 0
          have hfz80_1 := blk_frozen BK304.out 1
          go_wp2_with (first | (go_at_call 44; (with_reducible refine (impl_DriftOk.calls a2_0 a2_1 true _ A57.out).mono ?_); rintro e w81 ⟨rfl, hb⟩; have n0_ := am_ (bb_ BK303.out hb); have n1_ := am_ (bb_ BK304.out hb); have n2_ := am_ (bb_ BK305.out hb); have n3_ := am_ (below_step (hb3_ HB.out GE303.out GE304.out GE305.out) hb); clear BK303; clear BK304; clear BK305; clear HB; have BK303 := n0_; have BK304 := n1_; have BK305 := n2_; have HB := n3_; clear n0_ n1_ n2_ n3_; (try clear hb); (try clear hb2); (try clear hk); (try clear hi)) | (go_at_call 45; (with_reducible refine (impl_in.calls a3 1 1000000000000 false _ A59.out).mono ?_); rintro e w' ⟨rfl, ⟨nd, rfl⟩⟩))
          go_meet
          case rel => exact ⟨_, (true), (by first | rfl | (simp; done) | (simp [*]; done)), H', ⟨by first | omega | exact Nat.le_refl _⟩, ⟨bk_ BK303.out⟩, ⟨bk_ BK304.out⟩, ⟨bk_ BK305.out⟩, ⟨hb3_ HB.out GE303.out GE304.out GE305.out⟩⟩
      · replace c58 := Bool.eq_false_iff.mpr c58
        subst c58
        have H1 : (impl_GateAsk.j0 k false a3 a5 true a0_0 a0_1 a2_0 a2_1 a4_0 a4_1 l4_2) = some (r1, r2, r3) := by rw [if_neg (show ¬ (false = true) by decide)] at H; exact H
        clear H
        have H := H1
        clear H1
        have H' := Aside0.mk H
        clear H
        have hnb82 := NB304_303.out
        have hnc82 := NB303_304.out
        have hnb83 := NB304_305.out
        have hnc83 := NB305_304.out
        have hcz84_0 := bc_ BK304.out 0 (.int .i64 a2_0) rfl
        have hcz84_1 := bc_ BK304.out 1 (.int .i64 a2_1) rfl
        have hfz84_0 := blk_frozen BK304.out 0
        have hfz84_1 := blk_frozen BK304.out 1
        go_wp2_with (first | (go_at_call 44; (with_reducible refine (impl_DriftOk.calls a2_0 a2_1 false _ A57.out).mono ?_); rintro e w85 ⟨rfl, hb⟩; have n0_ := am_ (bb_ BK303.out hb); have n1_ := am_ (bb_ BK304.out hb); have n2_ := am_ (bb_ BK305.out hb); have n3_ := am_ (below_step (hb3_ HB.out GE303.out GE304.out GE305.out) hb); clear BK303; clear BK304; clear BK305; clear HB; have BK303 := n0_; have BK304 := n1_; have BK305 := n2_; have HB := n3_; clear n0_ n1_ n2_ n3_; (try clear hb); (try clear hb2); (try clear hk); (try clear hi)))
        go_meet
        case rel => exact ⟨_, (true), (by first | rfl | (simp; done) | (simp [*]; done)), H', ⟨by first | omega | exact Nat.le_refl _⟩, ⟨bk_ BK303.out⟩, ⟨bk_ BK304.out⟩, ⟨bk_ BK305.out⟩, ⟨hb3_ HB.out GE303.out GE304.out GE305.out⟩⟩
  case rest =>
    clear HC7
    try clear c1
    try clear c2
    try clear p2
    try clear c3
    try clear c4
    try clear c5
    try clear c6
    try clear c7
    try clear c8
    try clear c11
    try clear c13
    try clear c14
    try clear c15
    try clear c17
    try clear c19
    try clear c21
    try clear c22
    try clear c25
    try clear c30
    try clear c31
    try clear c34
    try clear c39
    try clear c40
    try clear c43
    try clear c46
    try clear c47
    try clear c50
    try clear c53
    try clear c54
    try clear c58
    try clear c60
    try clear c62
    try clear c64
    try clear c65
    try clear c68
    try clear c71
    try clear c72
    try clear c75
    try clear c78
    try clear c79
    try clear c82
    try clear c83
    try clear hcz23_0
    try clear hcz23_1
    try clear hcz26_0
    try clear hcz26_1
    try clear hcz28_0
    try clear hcz28_1
    try clear hcz28_2
    try clear hcz32_0
    try clear hcz32_1
    try clear hcz35_0
    try clear hcz35_1
    try clear hcz37_0
    try clear hcz37_1
    try clear hcz37_2
    try clear hcz41_0
    try clear hcz41_1
    try clear hcz44_0
    try clear hcz44_1
    try clear hcz48_0
    try clear hcz48_1
    try clear hcz51_0
    try clear hcz51_1
    try clear hcz55_0
    try clear hcz55_1
    try clear hcz66_0
    try clear hcz66_1
    try clear hcz69_0
    try clear hcz69_1
    try clear hcz69_2
    try clear hcz73_0
    try clear hcz73_1
    try clear hcz76_0
    try clear hcz76_1
    try clear hcz76_2
    try clear hcz80_0
    try clear hcz80_1
    try clear hcz84_0
    try clear hcz84_1
    try clear hfz23_0
    try clear hfz23_1
    try clear hfz26_0
    try clear hfz26_1
    try clear hfz28_0
    try clear hfz28_1
    try clear hfz28_2
    try clear hfz32_0
    try clear hfz32_1
    try clear hfz35_0
    try clear hfz35_1
    try clear hfz37_0
    try clear hfz37_1
    try clear hfz37_2
    try clear hfz41_0
    try clear hfz41_1
    try clear hfz44_0
    try clear hfz44_1
    try clear hfz48_0
    try clear hfz48_1
    try clear hfz51_0
    try clear hfz51_1
    try clear hfz55_0
    try clear hfz55_1
    try clear hfz66_0
    try clear hfz66_1
    try clear hfz69_0
    try clear hfz69_1
    try clear hfz69_2
    try clear hfz73_0
    try clear hfz73_1
    try clear hfz76_0
    try clear hfz76_1
    try clear hfz76_2
    try clear hfz80_0
    try clear hfz80_1
    try clear hfz84_0
    try clear hfz84_1
    obtain ⟨kq, x45_6, rfl, HA, HJ6, BK303, BK304, BK305, HB⟩ := hcut
    cases kq with
    | zero => exact absurd HA.out (by simp [impl_GateAsk.j0])
    | succ kj6 =>
      have H := HA.out
      clear HA
      simp only [impl_GateAsk.j0] at H
      by_cases c86 : x45_6 = true
      · subst c86
        have H1 : (some (0, 0, 1)) = some (r1, r2, r3) := by rw [if_pos rfl] at H; exact H
        clear H
        have H := H1
        clear H1
        simp only [Option.some.injEq, Prod.mk.injEq] at H
        obtain ⟨rfl, rfl, rfl⟩ := H
        go_wp2
        go_ret3
        exact ⟨er_, hb3_ HB.out GE303.out GE304.out GE305.out⟩
      · replace c86 := Bool.eq_false_iff.mpr c86
        subst c86
        have H1 : ((impl_GateSpan.f a0_0 a0_1 a2_0 a2_1 a3).bind fun bt315 => (if a1 = true then (impl_GateAsk.j1 kj6 a5 (!bt315.2.2) a4_0 a4_1 l4_2 bt315.1 bt315.2.1) else (impl_GateAsk.j1 kj6 a5 true a4_0 a4_1 l4_2 bt315.1 bt315.2.1))) = some (r1, r2, r3) := by rw [if_neg (show ¬ (false = true) by decide)] at H; exact H
        clear H
        have H := H1
        clear H1
        replace H := Option.bind_eq_some_iff.mp H
        obtain ⟨⟨t315, t316, t317⟩, A870, H⟩ := H
        replace H : (if a1 = true then (impl_GateAsk.j1 kj6 a5 (!t317) a4_0 a4_1 l4_2 t315 t316) else (impl_GateAsk.j1 kj6 a5 true a4_0 a4_1 l4_2 t315 t316)) = some (r1, r2, r3) := H
        have A87 := Aside0.mk A870
        clear A870
        have HC88 := Aside0.mk H
        clear H
        have hnb89 := NB303_304.out
        have hnc89 := NB304_303.out
        have hnb90 := NB303_305.out
        have hnc90 := NB305_303.out
        have hcz91_0 := bc_ BK303.out 0 (.int .i64 a0_0) rfl
        have hcz91_1 := bc_ BK303.out 1 (.int .i64 a0_1) rfl
        have hfz91_0 := blk_frozen BK303.out 0
        have hfz91_1 := blk_frozen BK303.out 1
        have hnb92 := NB304_305.out
        have hnc92 := NB305_304.out
        have hcz93_0 := bc_ BK304.out 0 (.int .i64 a2_0) rfl
        have hcz93_1 := bc_ BK304.out 1 (.int .i64 a2_1) rfl
        have hfz93_0 := blk_frozen BK304.out 0
        have hfz93_1 := blk_frozen BK304.out 1
        go_upto_region 4 with (first | ((with_reducible refine gate_callee (f := 48) rfl ?_); refine goesL_ (some 50) rfl rfl Try.func48 (by kernel_rfl) rfl #[.agg #[.int .i64 a0_0, .int .i64 a0_1], .agg #[.int .i64 a2_0, .int .i64 a2_1], .int .i64 a3] rfl arr_ ?_; (with_reducible refine (impl_GateSpan.calls a0_0 a0_1 a2_0 a2_1 a3 t315 t316 t317 _ A87.out).mono ?_); rintro e w94 ⟨rfl, hb⟩; refine ⟨_, rfl, ?_⟩; have n0_ := am_ (bb_ BK303.out hb); have n1_ := am_ (bb_ BK304.out hb); have n2_ := am_ (bb_ BK305.out hb); have n3_ := am_ (below_step (hb3_ HB.out GE303.out GE304.out GE305.out) hb); clear BK303; clear BK304; clear BK305; clear HB; have BK303 := n0_; have BK304 := n1_; have BK305 := n2_; have HB := n3_; clear n0_ n1_ n2_ n3_; (try clear hb); (try clear hb2); (try clear hk); (try clear hi)) | ((with_reducible refine gate_dst (N := 15) rfl ?_); refine box_event ?hg (N := 15) ?hd (cs := #[.int .i64 0, .int .i64 0]) (t := 32) ?hr ?_; (case hd => rfl); (case hg => rfl); (case hr => first|(go_simp;done)|(go_simp;rfl)); intro gb318 hg w95 hbox hb; have n0_ := am_ (bb_ BK303.out hb); have n1_ := am_ (bb_ BK304.out hb); have n2_ := am_ (bb_ BK305.out hb); have n3_ := am_ (below_step (hb3_ HB.out GE303.out GE304.out GE305.out) hb); have n4_ := am_ (hbox); have n5_ := am_ (hy_ hg (hb3_ HB.out GE303.out GE304.out GE305.out) : w.heap.size ≤ gb318); have n6_ := am_ (hy_ hg (hb3_ HB.out GE303.out GE304.out GE305.out) : w.heap.size ≤ gb318); have n7_ := am_ ((bl_ hg BK303.out : gb303 ≠ gb318)); have n8_ := am_ ((bg_ hg BK303.out : gb318 ≠ gb303)); have n9_ := am_ ((bl_ hg BK304.out : gb304 ≠ gb318)); have n10_ := am_ ((bg_ hg BK304.out : gb318 ≠ gb304)); have n11_ := am_ ((bl_ hg BK305.out : gb305 ≠ gb318)); have n12_ := am_ ((bg_ hg BK305.out : gb318 ≠ gb305)); clear BK303; clear BK304; clear BK305; clear HB; have BK303 := n0_; have BK304 := n1_; have BK305 := n2_; have HB := n3_; have BK318 := n4_; have GW318 := n5_; have GE318 := n6_; have NB303_318 := n7_; have NB318_303 := n8_; have NB304_318 := n9_; have NB318_304 := n10_; have NB305_318 := n11_; have NB318_305 := n12_; clear n0_ n1_ n2_ n3_ n4_ n5_ n6_ n7_ n8_ n9_ n10_ n11_ n12_; clear hb hbox hg; have hnb96 := NB318_303.out; have hnc96 := NB303_318.out; have hnb97 := NB318_304.out; have hnc97 := NB304_318.out; have hnb98 := NB318_305.out; have hnc98 := NB305_318.out; have hcz99_0 := bc_ BK318.out 0 (.int .i64 0) rfl; have hcz99_1 := bc_ BK318.out 1 (.int .i64 0) rfl; have hfz99_0 := blk_frozen BK318.out 0; have hfz99_1 := blk_frozen BK318.out 1))
        (try simp only [Act.put, List.setIfInBounds_toArray, List.set_cons_zero, List.set_cons_succ])
        go_cut [58] (fun v58 wc => ∃ (kq : Nat) (x58_87 : Bool), v58 = .bool x58_87 ∧ Aside0 (impl_GateAsk.j1 kq a5 x58_87 a4_0 a4_1 l4_2 t315 t316 = some (r1, r2, r3)) ∧ Aside0 (kq ≤ kj6) ∧ Aside0 (wc.heap[gb303]? = some (.cells #[.int .i64 a0_0, .int .i64 a0_1] 32 (0, 0))) ∧ Aside0 (wc.heap[gb304]? = some (.cells #[.int .i64 a2_0, .int .i64 a2_1] 34 (0, 0))) ∧ Aside0 (wc.heap[gb305]? = some (.cells #[.int .i64 a4_0, .int .i64 a4_1, (.slice A4_2 l4_2.length c4_2)] 38 (0, 0))) ∧ Aside0 (wc.heap[gb318]? = some (.cells #[.int .i64 t315, .int .i64 t316] 32 (0, 0))) ∧ Aside0 (Below w.heap.size w wc))
        case first =>
          have H := HC88.out
          clear HC88
          by_cases c100 : a1 = true
          · subst c100
            have H1 : (impl_GateAsk.j1 kj6 a5 (!t317) a4_0 a4_1 l4_2 t315 t316) = some (r1, r2, r3) := by rw [if_pos rfl] at H; exact H
            clear H
            have H := H1
            clear H1
            have H' := Aside0.mk H
            clear H
            go_wp2
            go_meet
            case rel => exact ⟨_, (!t317), (by first | rfl | (simp; done) | (simp [*]; done)), H', ⟨by have := HJ6.out; first | omega | exact Nat.le_refl _⟩, ⟨by (with_reducible repeat (first | refine blk_drewN ?_ _ | refine blk_drew ?_ | refine blk_alloc ?_ _)); refine blk_far ?_ NB303_318.out _; (with_reducible repeat (first | refine blk_drewN ?_ _ | refine blk_drew ?_ | refine blk_alloc ?_ _)); refine blk_far ?_ NB303_318.out _; (with_reducible repeat (first | refine blk_drewN ?_ _ | refine blk_drew ?_ | refine blk_alloc ?_ _)); exact BK303.out⟩, ⟨by (with_reducible repeat (first | refine blk_drewN ?_ _ | refine blk_drew ?_ | refine blk_alloc ?_ _)); refine blk_far ?_ NB304_318.out _; (with_reducible repeat (first | refine blk_drewN ?_ _ | refine blk_drew ?_ | refine blk_alloc ?_ _)); refine blk_far ?_ NB304_318.out _; (with_reducible repeat (first | refine blk_drewN ?_ _ | refine blk_drew ?_ | refine blk_alloc ?_ _)); exact BK304.out⟩, ⟨by (with_reducible repeat (first | refine blk_drewN ?_ _ | refine blk_drew ?_ | refine blk_alloc ?_ _)); refine blk_far ?_ NB305_318.out _; (with_reducible repeat (first | refine blk_drewN ?_ _ | refine blk_drew ?_ | refine blk_alloc ?_ _)); refine blk_far ?_ NB305_318.out _; (with_reducible repeat (first | refine blk_drewN ?_ _ | refine blk_drew ?_ | refine blk_alloc ?_ _)); exact BK305.out⟩, ⟨by (with_reducible repeat (first | refine blk_drewN ?_ _ | refine blk_drew ?_ | refine blk_alloc ?_ _)); refine blk_put (cs := #[.int .i64 t315, .int .i64 0]) ?_ 1 _ rfl; (with_reducible repeat (first | refine blk_drewN ?_ _ | refine blk_drew ?_ | refine blk_alloc ?_ _)); refine blk_put (cs := #[.int .i64 0, .int .i64 0]) ?_ 0 _ rfl; (with_reducible repeat (first | refine blk_drewN ?_ _ | refine blk_drew ?_ | refine blk_alloc ?_ _)); exact BK318.out⟩, ⟨hb4_ HB.out GE303.out GE304.out GE305.out GE318.out⟩⟩
          · replace c100 := Bool.eq_false_iff.mpr c100
            subst c100
            have H1 : (impl_GateAsk.j1 kj6 a5 true a4_0 a4_1 l4_2 t315 t316) = some (r1, r2, r3) := by rw [if_neg (show ¬ (false = true) by decide)] at H; exact H
            clear H
            have H := H1
            clear H1
            have H' := Aside0.mk H
            clear H
            go_wp2
            go_meet
            case rel => exact ⟨_, (true), (by first | rfl | (simp; done) | (simp [*]; done)), H', ⟨by have := HJ6.out; first | omega | exact Nat.le_refl _⟩, ⟨by (with_reducible repeat (first | refine blk_drewN ?_ _ | refine blk_drew ?_ | refine blk_alloc ?_ _)); refine blk_far ?_ NB303_318.out _; (with_reducible repeat (first | refine blk_drewN ?_ _ | refine blk_drew ?_ | refine blk_alloc ?_ _)); refine blk_far ?_ NB303_318.out _; (with_reducible repeat (first | refine blk_drewN ?_ _ | refine blk_drew ?_ | refine blk_alloc ?_ _)); exact BK303.out⟩, ⟨by (with_reducible repeat (first | refine blk_drewN ?_ _ | refine blk_drew ?_ | refine blk_alloc ?_ _)); refine blk_far ?_ NB304_318.out _; (with_reducible repeat (first | refine blk_drewN ?_ _ | refine blk_drew ?_ | refine blk_alloc ?_ _)); refine blk_far ?_ NB304_318.out _; (with_reducible repeat (first | refine blk_drewN ?_ _ | refine blk_drew ?_ | refine blk_alloc ?_ _)); exact BK304.out⟩, ⟨by (with_reducible repeat (first | refine blk_drewN ?_ _ | refine blk_drew ?_ | refine blk_alloc ?_ _)); refine blk_far ?_ NB305_318.out _; (with_reducible repeat (first | refine blk_drewN ?_ _ | refine blk_drew ?_ | refine blk_alloc ?_ _)); refine blk_far ?_ NB305_318.out _; (with_reducible repeat (first | refine blk_drewN ?_ _ | refine blk_drew ?_ | refine blk_alloc ?_ _)); exact BK305.out⟩, ⟨by (with_reducible repeat (first | refine blk_drewN ?_ _ | refine blk_drew ?_ | refine blk_alloc ?_ _)); refine blk_put (cs := #[.int .i64 t315, .int .i64 0]) ?_ 1 _ rfl; (with_reducible repeat (first | refine blk_drewN ?_ _ | refine blk_drew ?_ | refine blk_alloc ?_ _)); refine blk_put (cs := #[.int .i64 0, .int .i64 0]) ?_ 0 _ rfl; (with_reducible repeat (first | refine blk_drewN ?_ _ | refine blk_drew ?_ | refine blk_alloc ?_ _)); exact BK318.out⟩, ⟨hb4_ HB.out GE303.out GE304.out GE305.out GE318.out⟩⟩
        case rest =>
          clear HC88
          try clear c1
          try clear c2
          try clear p2
          try clear c3
          try clear c4
          try clear c5
          try clear c6
          try clear c7
          try clear c8
          try clear c9
          try clear c10
          try clear c11
          try clear c13
          try clear c14
          try clear c15
          try clear c17
          try clear c19
          try clear c21
          try clear c22
          try clear c25
          try clear c30
          try clear c31
          try clear c34
          try clear c39
          try clear c40
          try clear c43
          try clear c46
          try clear c47
          try clear c48
          try clear c50
          try clear c53
          try clear c54
          try clear c58
          try clear c60
          try clear c62
          try clear c64
          try clear c65
          try clear c68
          try clear c71
          try clear c72
          try clear c75
          try clear c78
          try clear c79
          try clear c82
          try clear c83
          try clear c86
          try clear c89
          try clear c90
          try clear c92
          try clear c96
          try clear c97
          try clear c98
          try clear c100
          try clear hcz23_0
          try clear hcz23_1
          try clear hcz26_0
          try clear hcz26_1
          try clear hcz28_0
          try clear hcz28_1
          try clear hcz28_2
          try clear hcz32_0
          try clear hcz32_1
          try clear hcz35_0
          try clear hcz35_1
          try clear hcz37_0
          try clear hcz37_1
          try clear hcz37_2
          try clear hcz41_0
          try clear hcz41_1
          try clear hcz44_0
          try clear hcz44_1
          try clear hcz48_0
          try clear hcz48_1
          try clear hcz51_0
          try clear hcz51_1
          try clear hcz55_0
          try clear hcz55_1
          try clear hcz66_0
          try clear hcz66_1
          try clear hcz69_0
          try clear hcz69_1
          try clear hcz69_2
          try clear hcz73_0
          try clear hcz73_1
          try clear hcz76_0
          try clear hcz76_1
          try clear hcz76_2
          try clear hcz80_0
          try clear hcz80_1
          try clear hcz84_0
          try clear hcz84_1
          try clear hcz91_0
          try clear hcz91_1
          try clear hcz93_0
          try clear hcz93_1
          try clear hcz99_0
          try clear hcz99_1
          try clear hfz23_0
          try clear hfz23_1
          try clear hfz26_0
          try clear hfz26_1
          try clear hfz28_0
          try clear hfz28_1
          try clear hfz28_2
          try clear hfz32_0
          try clear hfz32_1
          try clear hfz35_0
          try clear hfz35_1
          try clear hfz37_0
          try clear hfz37_1
          try clear hfz37_2
          try clear hfz41_0
          try clear hfz41_1
          try clear hfz44_0
          try clear hfz44_1
          try clear hfz48_0
          try clear hfz48_1
          try clear hfz51_0
          try clear hfz51_1
          try clear hfz55_0
          try clear hfz55_1
          try clear hfz66_0
          try clear hfz66_1
          try clear hfz69_0
          try clear hfz69_1
          try clear hfz69_2
          try clear hfz73_0
          try clear hfz73_1
          try clear hfz76_0
          try clear hfz76_1
          try clear hfz76_2
          try clear hfz80_0
          try clear hfz80_1
          try clear hfz84_0
          try clear hfz84_1
          try clear hfz91_0
          try clear hfz91_1
          try clear hfz93_0
          try clear hfz93_1
          try clear hfz99_0
          try clear hfz99_1
          try clear p2
          obtain ⟨kq, x58_87, rfl, HA, HJ87, BK303, BK304, BK305, BK318, HB⟩ := hcut
          cases kq with
          | zero => exact absurd HA.out (by simp [impl_GateAsk.j1])
          | succ kj87 =>
            have H := HA.out
            clear HA
            simp only [impl_GateAsk.j1] at H
            by_cases c101 : x58_87 = true
            · subst c101
              have H1 : (some (0, 0, 2)) = some (r1, r2, r3) := by rw [if_pos rfl] at H; exact H
              clear H
              have H := H1
              clear H1
              simp only [Option.some.injEq, Prod.mk.injEq] at H
              obtain ⟨rfl, rfl, rfl⟩ := H
              go_wp2
              go_ret3
              exact ⟨er_, hb4_ HB.out GE303.out GE304.out GE305.out GE318.out⟩
            · replace c101 := Bool.eq_false_iff.mpr c101
              subst c101
              have H1 : ((impl_InSlot.f kj87 a4_0 a4_1 l4_2 a5 t315 t316).bind fun bt319 => (if bt319.2.2 = true then (some (bt319.1, bt319.2.1, 0)) else (some (0, 0, 2)))) = some (r1, r2, r3) := by rw [if_neg (show ¬ (false = true) by decide)] at H; exact H
              clear H
              have H := H1
              clear H1
              replace H := Option.bind_eq_some_iff.mp H
              obtain ⟨⟨t319, t320, t321⟩, A1020, H⟩ := H
              replace H : (if t321 = true then (some (t319, t320, 0)) else (some (0, 0, 2))) = some (r1, r2, r3) := H
              have A102 := Aside0.mk A1020
              clear A1020
              by_cases c103 : t321 = true
              · subst c103
                have H1 : (some (t319, t320, 0)) = some (r1, r2, r3) := by rw [if_pos rfl] at H; exact H
                clear H
                have H := H1
                clear H1
                simp only [Option.some.injEq, Prod.mk.injEq] at H
                obtain ⟨rfl, rfl, rfl⟩ := H
                have hnb104 := NB305_303.out
                have hnc104 := NB303_305.out
                have hnb105 := NB305_304.out
                have hnc105 := NB304_305.out
                have hnb106 := NB305_318.out
                have hnc106 := NB318_305.out
                have hcz107_0 := bc_ BK305.out 0 (.int .i64 a4_0) rfl
                have hcz107_1 := bc_ BK305.out 1 (.int .i64 a4_1) rfl
                have hcz107_2 := bc_ BK305.out 2 (.slice A4_2 l4_2.length c4_2) rfl
                have hfz107_0 := blk_frozen BK305.out 0
                have hfz107_1 := blk_frozen BK305.out 1
                have hfz107_2 := blk_frozen BK305.out 2
                have hnb108 := NB318_303.out
                have hnc108 := NB303_318.out
                have hnb109 := NB318_304.out
                have hnc109 := NB304_318.out
                have hcz110_0 := bc_ BK318.out 0 (.int .i64 t315) rfl
                have hcz110_1 := bc_ BK318.out 1 (.int .i64 t316) rfl
                have hfz110_0 := blk_frozen BK318.out 0
                have hfz110_1 := blk_frozen BK318.out 1
                go_wp2_with (first | ((with_reducible refine gate_callee (f := 49) rfl ?_); refine goesL_ (some 66) rfl rfl Try.func49 (by kernel_rfl) rfl #[.agg #[.int .i64 a4_0, .int .i64 a4_1, .slice A4_2 l4_2.length c4_2], .int .i64 a5, .int .i64 t315, .int .i64 t316] rfl arr_ ?_; (with_reducible refine (impl_InSlot.calls kj87 a4_0 a4_1 _ _ l4_2 a5 t315 t316 t319 t320 true _ ?side1 ?side2 A102.out).mono ?_); (case side1 => exact kc_ (Kd.C_below HR4_2.out HB.out)); (case side2 => exact HC4_2.out); rintro e w111 ⟨rfl, hb⟩; refine ⟨_, rfl, ?_⟩; have n0_ := am_ (bb_ BK303.out hb); have n1_ := am_ (bb_ BK304.out hb); have n2_ := am_ (bb_ BK305.out hb); have n3_ := am_ (bb_ BK318.out hb); have n4_ := am_ (below_step (hb4_ HB.out GE303.out GE304.out GE305.out GE318.out) hb); clear BK303; clear BK304; clear BK305; clear BK318; clear HB; have BK303 := n0_; have BK304 := n1_; have BK305 := n2_; have BK318 := n3_; have HB := n4_; clear n0_ n1_ n2_ n3_ n4_; (try clear hb); (try clear hb2); (try clear hk); (try clear hi)))
                go_ret3
                exact ⟨er_, hb4_ HB.out GE303.out GE304.out GE305.out GE318.out⟩
              · replace c103 := Bool.eq_false_iff.mpr c103
                subst c103
                have H1 : (some (0, 0, 2)) = some (r1, r2, r3) := by rw [if_neg (show ¬ (false = true) by decide)] at H; exact H
                clear H
                have H := H1
                clear H1
                simp only [Option.some.injEq, Prod.mk.injEq] at H
                obtain ⟨rfl, rfl, rfl⟩ := H
                have hnb112 := NB305_303.out
                have hnc112 := NB303_305.out
                have hnb113 := NB305_304.out
                have hnc113 := NB304_305.out
                have hnb114 := NB305_318.out
                have hnc114 := NB318_305.out
                have hcz115_0 := bc_ BK305.out 0 (.int .i64 a4_0) rfl
                have hcz115_1 := bc_ BK305.out 1 (.int .i64 a4_1) rfl
                have hcz115_2 := bc_ BK305.out 2 (.slice A4_2 l4_2.length c4_2) rfl
                have hfz115_0 := blk_frozen BK305.out 0
                have hfz115_1 := blk_frozen BK305.out 1
                have hfz115_2 := blk_frozen BK305.out 2
                have hnb116 := NB318_303.out
                have hnc116 := NB303_318.out
                have hnb117 := NB318_304.out
                have hnc117 := NB304_318.out
                have hcz118_0 := bc_ BK318.out 0 (.int .i64 t315) rfl
                have hcz118_1 := bc_ BK318.out 1 (.int .i64 t316) rfl
                have hfz118_0 := blk_frozen BK318.out 0
                have hfz118_1 := blk_frozen BK318.out 1
                go_wp2_with (first | ((with_reducible refine gate_callee (f := 49) rfl ?_); refine goesL_ (some 66) rfl rfl Try.func49 (by kernel_rfl) rfl #[.agg #[.int .i64 a4_0, .int .i64 a4_1, .slice A4_2 l4_2.length c4_2], .int .i64 a5, .int .i64 t315, .int .i64 t316] rfl arr_ ?_; (with_reducible refine (impl_InSlot.calls kj87 a4_0 a4_1 _ _ l4_2 a5 t315 t316 t319 t320 false _ ?side1 ?side2 A102.out).mono ?_); (case side1 => exact kc_ (Kd.C_below HR4_2.out HB.out)); (case side2 => exact HC4_2.out); rintro e w119 ⟨rfl, hb⟩; refine ⟨_, rfl, ?_⟩; have n0_ := am_ (bb_ BK303.out hb); have n1_ := am_ (bb_ BK304.out hb); have n2_ := am_ (bb_ BK305.out hb); have n3_ := am_ (bb_ BK318.out hb); have n4_ := am_ (below_step (hb4_ HB.out GE303.out GE304.out GE305.out GE318.out) hb); clear BK303; clear BK304; clear BK305; clear BK318; clear HB; have BK303 := n0_; have BK304 := n1_; have BK305 := n2_; have BK318 := n3_; have HB := n4_; clear n0_ n1_ n2_ n3_ n4_; (try clear hb); (try clear hb2); (try clear hk); (try clear hi)))
                go_ret3
                exact ⟨er_, hb4_ HB.out GE303.out GE304.out GE305.out GE318.out⟩
end Go.Proofs.Ytejohmompmjhnaa.P

