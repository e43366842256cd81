/- Texts of the seat's proofs, part 6: functions of the program told as plain functions, with their contracts, and what is shown of them. No condition. -/
import Derived.Test.YtakcaiigkdglhaaU
import Derived.Test.YtakcaiigkdglhaaM1
import Derived.Test.YtakcaiigkdglhaaM2
import Derived.Test.YtakcaiigkdglhaaM4
import Derived.Test.YtakcaiigkdglhaaM3
import Derived.Test.YtakcaiigkdglhaaM5
set_option linter.unusedVariables false
set_option linter.unusedSimpArgs false
namespace Go.Proofs.Ytakcaiigkdglhaa.P
open Go.RowKit Go.Proofs.YtakcaiigkdglhaaW.PrintWords Go.Proofs.YtakcaiigkdglhaaW.PrintLast Go.Proofs.YtakcaiigkdglhaaW.PrintMore
attribute [local go_sem] max2_int min2_int max_two min_two max_three min_three max_four min_four
set_option linter.unusedVariables false
set_option linter.unusedSimpArgs false
mutual
def impl_NextOwn.j0 : Nat → Int → Int → Bool → Int → Int → List (S60) → Option (Int × Int × Bool)
  | 0, _, _, _, _, _, _ => none
  | k + 1, x1, x2, x22, x482000, x482001, x482002 => if x22 = true then (some (0, 0, false)) else ((impl_Plan_round.f k x482000 x482001 x482002).bind fun t484 => (if t484 = 0 then (none) else (impl_NextOwn.l0 k x1 x2 (wrap64 (Int.tdiv (mx 0 (wrap64 (x2 - x482000))) t484)) (wrap64 (Int.tdiv (mx 0 (wrap64 (x2 - x482000))) t484)) x482000 x482001 x482002)))
def impl_NextOwn.l0 : Nat → Int → Int → Int → Int → Int → Int → List (S60) → Option (Int × Int × Bool)
  | 0, _, _, _, _, _, _, _ => none
  | k + 1, x1, x2, x9, x10, x482000, x482001, x482002 => if x10 ≤ (wrap64 (x9 + 1)) then (impl_NextOwn.l1 k x1 x2 x9 x10 x482002 (x482002.length : Int) 0 x482000 x482001 x482002) else (some (0, 0, false))
def impl_NextOwn.l1 : Nat → Int → Int → Int → Int → List (S60) → Int → Int → Int → Int → List (S60) → Option (Int × Int × Bool)
  | 0, _, _, _, _, _, _, _, _, _, _ => none
  | k + 1, x1, x2, x9, x10, x39, x40, x41, x482000, x482001, x482002 => if x41 < x40 then (if 0 ≤ x41 then (if x41 < (x39.length : Int) then ((impl_Occurrence.f k x482000 x482001 x482002 x41 x10).bind fun bt487 => (if bt487.2.2 = true then (if ((rd_T60 x39 x41).f0) = x1 then (if bt487.1 ≥ x2 then (some (x41, bt487.1, true)) else (impl_NextOwn.l1 k x1 x2 x9 x10 x39 x40 (wrap64 (x41 + 1)) x482000 x482001 x482002)) else (impl_NextOwn.l1 k x1 x2 x9 x10 x39 x40 (wrap64 (x41 + 1)) x482000 x482001 x482002)) else (impl_NextOwn.l1 k x1 x2 x9 x10 x39 x40 (wrap64 (x41 + 1)) x482000 x482001 x482002))) else (none)) else (none)) else (impl_NextOwn.l0 k x1 x2 x9 (wrap64 (x10 + 1)) x482000 x482001 x482002)
end
def impl_NextOwn.f (k : Nat) (a0_0 : Int) (a0_1 : Int) (l0_2 : List (S60)) (a1 : Int) (a2 : Int) : Option (Int × Int × Bool) := (impl_PlanOk.f k a0_0 a0_1 l0_2).bind fun t482 => (if t482 = true then ((impl_isTime.f a2).bind fun t483 => (impl_NextOwn.j0 k a1 a2 (!t483) a0_0 a0_1 l0_2)) else (impl_NextOwn.j0 k a1 a2 true a0_0 a0_1 l0_2))
theorem impl_NextOwn.mono_l : ∀ k, (∀ y0 y1 y2 y3 y4 y5, LeO (impl_NextOwn.j0 k y0 y1 y2 y3 y4 y5) (impl_NextOwn.j0 (k + 1) y0 y1 y2 y3 y4 y5)) ∧ (∀ y0 y1 y2 y3 y4 y5 y6, LeO (impl_NextOwn.l0 k y0 y1 y2 y3 y4 y5 y6) (impl_NextOwn.l0 (k + 1) y0 y1 y2 y3 y4 y5 y6)) ∧ (∀ y0 y1 y2 y3 y4 y5 y6 y7 y8 y9, LeO (impl_NextOwn.l1 k y0 y1 y2 y3 y4 y5 y6 y7 y8 y9) (impl_NextOwn.l1 (k + 1) y0 y1 y2 y3 y4 y5 y6 y7 y8 y9))
  | 0 => ⟨fun _ _ _ _ _ _ r h => by simp [impl_NextOwn.j0] at h, fun _ _ _ _ _ _ _ r h => by simp [impl_NextOwn.l0] at h, fun _ _ _ _ _ _ _ _ _ _ r h => by simp [impl_NextOwn.l1] at h⟩
  | k + 1 => by
    obtain ⟨ih0, ih1, ih2⟩ := impl_NextOwn.mono_l k
    refine ⟨?_, ?_, ?_⟩
    · intro y0 y1 y2 y3 y4 y5
      unfold impl_NextOwn.j0
      repeat' first
      | (with_reducible exact ih0 _ _ _ _ _ _)
      | (with_reducible exact ih1 _ _ _ _ _ _ _)
      | (with_reducible exact ih2 _ _ _ _ _ _ _ _ _ _)
      | (with_reducible exact impl_Occurrence.mono _ _ _ _ _ _)
      | (with_reducible exact impl_PlanOk.mono _ _ _ _)
      | (with_reducible exact impl_Plan_round.mono _ _ _ _)
      | (with_reducible exact LeO.refl _)
      | (with_reducible exact LeO.none _)
      | (with_reducible refine LeO.ite ?_ ?_)
      | (with_reducible refine LeO.bind ?_ (fun _ => ?_))
      | exact ih0 _ _ _ _ _ _
      | exact ih1 _ _ _ _ _ _ _
      | exact ih2 _ _ _ _ _ _ _ _ _ _
      | exact impl_Occurrence.mono _ _ _ _ _ _
      | exact impl_PlanOk.mono _ _ _ _
      | exact impl_Plan_round.mono _ _ _ _
      | exact LeO.none _
      | refine LeO.ite ?_ ?_
      | refine LeO.bind ?_ (fun _ => ?_)
    · intro y0 y1 y2 y3 y4 y5 y6
      unfold impl_NextOwn.l0
      repeat' first
      | (with_reducible exact ih0 _ _ _ _ _ _)
      | (with_reducible exact ih1 _ _ _ _ _ _ _)
      | (with_reducible exact ih2 _ _ _ _ _ _ _ _ _ _)
      | (with_reducible exact impl_Occurrence.mono _ _ _ _ _ _)
      | (with_reducible exact impl_PlanOk.mono _ _ _ _)
      | (with_reducible exact impl_Plan_round.mono _ _ _ _)
      | (with_reducible exact LeO.refl _)
      | (with_reducible exact LeO.none _)
      | (with_reducible refine LeO.ite ?_ ?_)
      | (with_reducible refine LeO.bind ?_ (fun _ => ?_))
      | exact ih0 _ _ _ _ _ _
      | exact ih1 _ _ _ _ _ _ _
      | exact ih2 _ _ _ _ _ _ _ _ _ _
      | exact impl_Occurrence.mono _ _ _ _ _ _
      | exact impl_PlanOk.mono _ _ _ _
      | exact impl_Plan_round.mono _ _ _ _
      | exact LeO.none _
      | refine LeO.ite ?_ ?_
      | refine LeO.bind ?_ (fun _ => ?_)
    · intro y0 y1 y2 y3 y4 y5 y6 y7 y8 y9
      unfold impl_NextOwn.l1
      repeat' first
      | (with_reducible exact ih0 _ _ _ _ _ _)
      | (with_reducible exact ih1 _ _ _ _ _ _ _)
      | (with_reducible exact ih2 _ _ _ _ _ _ _ _ _ _)
      | (with_reducible exact impl_Occurrence.mono _ _ _ _ _ _)
      | (with_reducible exact impl_PlanOk.mono _ _ _ _)
      | (with_reducible exact impl_Plan_round.mono _ _ _ _)
      | (with_reducible exact LeO.refl _)
      | (with_reducible exact LeO.none _)
      | (with_reducible refine LeO.ite ?_ ?_)
      | (with_reducible refine LeO.bind ?_ (fun _ => ?_))
      | exact ih0 _ _ _ _ _ _
      | exact ih1 _ _ _ _ _ _ _
      | exact ih2 _ _ _ _ _ _ _ _ _ _
      | exact impl_Occurrence.mono _ _ _ _ _ _
      | exact impl_PlanOk.mono _ _ _ _
      | exact impl_Plan_round.mono _ _ _ _
      | exact LeO.none _
      | refine LeO.ite ?_ ?_
      | refine LeO.bind ?_ (fun _ => ?_)
theorem impl_NextOwn.mono : ∀ a0 a1 a2 a3 a4 k, LeO (impl_NextOwn.f k a0 a1 a2 a3 a4) (impl_NextOwn.f (k + 1) a0 a1 a2 a3 a4) := by
  intro a0 a1 a2 a3 a4 k
  obtain ⟨ih0, ih1, ih2⟩ := impl_NextOwn.mono_l k
  unfold impl_NextOwn.f
  repeat' first
      | (with_reducible exact ih0 _ _ _ _ _ _)
      | (with_reducible exact ih1 _ _ _ _ _ _ _)
      | (with_reducible exact ih2 _ _ _ _ _ _ _ _ _ _)
      | (with_reducible exact impl_Occurrence.mono _ _ _ _ _ _)
      | (with_reducible exact impl_PlanOk.mono _ _ _ _)
      | (with_reducible exact impl_Plan_round.mono _ _ _ _)
      | (with_reducible exact LeO.refl _)
      | (with_reducible exact LeO.none _)
      | (with_reducible refine LeO.ite ?_ ?_)
      | (with_reducible refine LeO.bind ?_ (fun _ => ?_))
      | exact ih0 _ _ _ _ _ _
      | exact ih1 _ _ _ _ _ _ _
      | exact ih2 _ _ _ _ _ _ _ _ _ _
      | exact impl_Occurrence.mono _ _ _ _ _ _
      | exact impl_PlanOk.mono _ _ _ _
      | exact impl_Plan_round.mono _ _ _ _
      | exact LeO.none _
      | refine LeO.ite ?_ ?_
      | refine LeO.bind ?_ (fun _ => ?_)
def impl_NextOwn.T3 : Bool × List (List Nat × List Nat) := (true, [([], []), ([], []), ([1], [1]), ([0, 2], [0, 2]), ([3], [3]), ([], []), ([5], [5]), ([4, 6], [4, 6]), ([7, 6, 0, 1, 2, 3, 4, 5, 6, 7], [7])])
def impl_NextOwn.B3 : List Nat := [0, 0, 2, 7, 15, 0, 32, 127, 255]
theorem impl_NextOwn.tab3 : rtab .any (opsOf Try.f32 3) = impl_NextOwn.T3 := by kernel_rfl
theorem impl_NextOwn.bits3 : waitsOk impl_NextOwn.T3.2 impl_NextOwn.B3 = true := by kernel_rfl
set_option maxHeartbeats 8000000 in
set_option maxRecDepth 100000 in
theorem impl_NextOwn.calls (k : Nat) (a0_0 : Int) (a0_1 : Int) (A0_2 : Option Addr) (c0_2 : Nat) (l0_2 : List (S60)) (a1 : Int) (a2 : Int) (r1 : Int) (r2 : Int) (r3 : Bool) (w : World) (hr0_2 : Kd.C k60 w A0_2 l0_2.length l0_2) (hc0_2 : l0_2.length ≤ c0_2) (h : impl_NextOwn.f k a0_0 a0_1 l0_2 a1 a2 = some (r1, r2, r3)) :
    Calls Try.prog 32 #[.agg #[.int .i64 a0_0, .int .i64 a0_1, .slice A0_2 l0_2.length c0_2], .int .i64 a1, .int .i64 a2] w fun e w' => e = .returned (.tuple #[.int .i64 r1, .int .i64 r2, .bool r3]) ∧ Below w.heap.size w w' := by
  have hu29 := Try.underlying29
  have hu60 := Try.underlying60
  have hu40 := Try.underlying40
  have HR0_2 := Aside0.mk hr0_2
  have HC0_2 := Aside0.mk hc0_2
  clear hr0_2 hc0_2
  have HB := Aside0.mk (Below.refl w.heap.size w)
  have H : ((impl_PlanOk.f k a0_0 a0_1 l0_2).bind fun t482 => (if t482 = true then ((impl_isTime.f a2).bind fun t483 => (impl_NextOwn.j0 k a1 a2 (!t483) a0_0 a0_1 l0_2)) else (impl_NextOwn.j0 k a1 a2 true a0_0 a0_1 l0_2))) = some (r1, r2, r3) := h
  clear h
  have HC4 := Aside0.mk H
  clear H
  go_enter Try.func32, Try.ntmps32
  go_upto_region 1 with (first | ((with_reducible refine gate_dst (N := 3) rfl ?_); refine box_event ?hg (N := 3) ?hd (cs := #[.int .i64 a0_0, .int .i64 a0_1, .slice A0_2 l0_2.length c0_2]) (t := 29) ?hr ?_; (case hd => rfl); (case hg => rfl); (case hr => first | (go_simp; done) | (go_simp; rfl)); intro gb481 hg w5 hbox hb; have n0_ := Aside0.mk (below_step (hb_ HB.out) hb); have n1_ := Aside0.mk (hbox); have n2_ := Aside0.mk ((by rw [hg]; exact (below_size (hb_ HB.out)) : w.heap.size ≤ gb481)); have n3_ := Aside0.mk ((by rw [hg]; exact (below_size (hb_ HB.out)) : w.heap.size ≤ gb481)); clear HB; have HB := n0_; have BK481 := n1_; have GW481 := n2_; have GE481 := n3_; clear n0_ n1_ n2_ n3_; clear hb hbox hg))
  (try simp only [Act.put, List.setIfInBounds_toArray, List.set_cons_zero, List.set_cons_succ])
  go_cut [22] (fun v22 wc => ∃ (kq : Nat) (x22_3 : Bool), v22 = .bool x22_3 ∧ Aside0 (impl_NextOwn.j0 kq a1 a2 x22_3 a0_0 a0_1 l0_2 = some (r1, r2, r3)) ∧ Aside0 (kq ≤ k) ∧ Aside0 (wc.heap[gb481]? = some (.cells #[.int .i64 a0_0, .int .i64 a0_1, (.slice A0_2 l0_2.length c0_2)] 29 (0, 0))) ∧ Aside0 (Below w.heap.size w wc))
  case first =>
    have H := HC4.out
    clear HC4
    replace H := Option.bind_eq_some_iff.mp H
    obtain ⟨t482, A60, H⟩ := H
    replace H : (if t482 = true then ((impl_isTime.f a2).bind fun t483 => (impl_NextOwn.j0 k a1 a2 (!t483) a0_0 a0_1 l0_2)) else (impl_NextOwn.j0 k a1 a2 true a0_0 a0_1 l0_2)) = some (r1, r2, r3) := H
    have A6 := Aside0.mk A60
    clear A60
    by_cases c7 : t482 = true
    · subst c7
      have H1 : ((impl_isTime.f a2).bind fun t483 => (impl_NextOwn.j0 k a1 a2 (!t483) a0_0 a0_1 l0_2)) = some (r1, r2, r3) := by rw [if_pos rfl] at H; exact H
      clear H
      have H := H1
      clear H1
      replace H := Option.bind_eq_some_iff.mp H
      obtain ⟨t483, A80, H⟩ := H
      replace H : (impl_NextOwn.j0 k a1 a2 (!t483) a0_0 a0_1 l0_2) = some (r1, r2, r3) := H
      have A8 := Aside0.mk A80
      clear A80
      have H' := Aside0.mk H
      clear H
      have hcz9_0 := bc_ BK481.out 0 (.int .i64 a0_0) rfl
      have hcz9_1 := bc_ BK481.out 1 (.int .i64 a0_1) rfl
      have hcz9_2 := bc_ BK481.out 2 (.slice A0_2 l0_2.length c0_2) rfl
      have hfz9_0 := blk_frozen BK481.out 0
      have hfz9_1 := blk_frozen BK481.out 1
      have hfz9_2 := blk_frozen BK481.out 2
      go_wp2_with (first | ((with_reducible refine gate_callee (f := 40) rfl ?_); refine goesL_ (some 16) rfl rfl Try.func40 (by kernel_rfl) rfl #[.agg #[.int .i64 a0_0, .int .i64 a0_1, .slice A0_2 l0_2.length c0_2]] rfl arr_ ?_; (with_reducible refine (impl_PlanOk.calls k a0_0 a0_1 _ _ l0_2 true _ ?side1 ?side2 A6.out).mono ?_); (case side1 => exact kc_ (Kd.C_below HR0_2.out HB.out)); (case side2 => exact HC0_2.out); rintro e w10 ⟨rfl, hb⟩; refine ⟨_, rfl, ?_⟩; have n0_ := Aside0.mk (bb_ BK481.out hb); have n1_ := Aside0.mk (below_step (hb1_ HB.out GE481.out) hb); clear BK481; clear HB; have BK481 := n0_; have HB := n1_; clear n0_ n1_; (try clear hb); (try clear hb2); (try clear hk); (try clear hi)) | (go_at_call 53; (with_reducible refine (impl_isTime.calls a2 t483 _ A8.out).mono ?_); rintro e w' ⟨rfl, ⟨nd, rfl⟩⟩))
      go_meet
      case rel => exact ⟨_, (!t483), (by first | rfl | (simp; done) | (simp [*]; done)), H', ⟨by first | omega | exact Nat.le_refl _⟩, ⟨bk_ BK481.out⟩, ⟨hb1_ HB.out GE481.out⟩⟩
    · replace c7 := Bool.eq_false_iff.mpr c7
      subst c7
      have H1 : (impl_NextOwn.j0 k a1 a2 true a0_0 a0_1 l0_2) = some (r1, r2, r3) := by rw [if_neg (show ¬ (false = true) by decide)] at H; exact H
      clear H
      have H := H1
      clear H1
      have H' := Aside0.mk H
      clear H
      have hcz11_0 := bc_ BK481.out 0 (.int .i64 a0_0) rfl
      have hcz11_1 := bc_ BK481.out 1 (.int .i64 a0_1) rfl
      have hcz11_2 := bc_ BK481.out 2 (.slice A0_2 l0_2.length c0_2) rfl
      have hfz11_0 := blk_frozen BK481.out 0
      have hfz11_1 := blk_frozen BK481.out 1
      have hfz11_2 := blk_frozen BK481.out 2
      go_wp2_with (first | ((with_reducible refine gate_callee (f := 40) rfl ?_); refine goesL_ (some 16) rfl rfl Try.func40 (by kernel_rfl) rfl #[.agg #[.int .i64 a0_0, .int .i64 a0_1, .slice A0_2 l0_2.length c0_2]] rfl arr_ ?_; (with_reducible refine (impl_PlanOk.calls k a0_0 a0_1 _ _ l0_2 false _ ?side1 ?side2 A6.out).mono ?_); (case side1 => exact kc_ (Kd.C_below HR0_2.out HB.out)); (case side2 => exact HC0_2.out); rintro e w12 ⟨rfl, hb⟩; refine ⟨_, rfl, ?_⟩; have n0_ := Aside0.mk (bb_ BK481.out hb); have n1_ := Aside0.mk (below_step (hb1_ HB.out GE481.out) hb); clear BK481; clear HB; have BK481 := n0_; have HB := n1_; clear n0_ n1_; (try clear hb); (try clear hb2); (try clear hk); (try clear hi)))
      go_meet
      case rel => exact ⟨_, (true), (by first | rfl | (simp; done) | (simp [*]; done)), H', ⟨by first | omega | exact Nat.le_refl _⟩, ⟨bk_ BK481.out⟩, ⟨hb1_ HB.out GE481.out⟩⟩
  case rest =>
    clear HC4
    try clear p2
    try clear c3
    try clear c4
    try clear c7
    try clear hcz11_0
    try clear hcz11_1
    try clear hcz11_2
    try clear hcz9_0
    try clear hcz9_1
    try clear hcz9_2
    try clear hfz11_0
    try clear hfz11_1
    try clear hfz11_2
    try clear hfz9_0
    try clear hfz9_1
    try clear hfz9_2
    obtain ⟨kq, x22_3, rfl, HA, HJ3, BK481, HB⟩ := hcut
    cases kq with
    | zero => exact absurd HA.out (by simp [impl_NextOwn.j0])
    | succ kj3 =>
      have H := HA.out
      clear HA
      simp only [impl_NextOwn.j0] at H
      by_cases c13 : x22_3 = true
      · subst c13
        have H1 : (some (0, 0, false)) = some (r1, r2, r3) := by rw [if_pos rfl] at H; exact H
        clear H
        have H := H1
        clear H1
        simp only [Option.some.injEq, Prod.mk.injEq] at H
        obtain ⟨rfl, rfl, rfl⟩ := H
        go_wp2
        go_ret3
        exact ⟨er_, hb1_ HB.out GE481.out⟩
      · replace c13 := Bool.eq_false_iff.mpr c13
        subst c13
        have H1 : ((impl_Plan_round.f kj3 a0_0 a0_1 l0_2).bind fun t484 => (if t484 = 0 then (none) else (impl_NextOwn.l0 kj3 a1 a2 (wrap64 (Int.tdiv (mx 0 (wrap64 (a2 - a0_0))) t484)) (wrap64 (Int.tdiv (mx 0 (wrap64 (a2 - a0_0))) t484)) a0_0 a0_1 l0_2))) = some (r1, r2, r3) := by rw [if_neg (show ¬ (false = true) by decide)] at H; exact H
        clear H
        have H := H1
        clear H1
        obtain ⟨ji14, hji14⟩ : ∃ j_ : Int, (mx 0 (wrap64 (a2 - a0_0))) = j_ := ⟨_, rfl⟩
        replace H : ((impl_Plan_round.f kj3 a0_0 a0_1 l0_2).bind fun t484 => (if t484 = 0 then (none) else (impl_NextOwn.l0 kj3 a1 a2 (wrap64 (Int.tdiv (ji14) t484)) (wrap64 (Int.tdiv (ji14) t484)) a0_0 a0_1 l0_2))) = some (r1, r2, r3) := by first | (rw [hji14] at H; exact H) | (simp only [hji14] at H ⊢; exact H)
        have hji14_ : (if 0 < (wrap64 (a2 - a0_0)) then (wrap64 (a2 - a0_0)) else 0) = ji14 := hji14
        replace H := Option.bind_eq_some_iff.mp H
        obtain ⟨t484, A150, H⟩ := H
        replace H : (if t484 = 0 then (none) else (impl_NextOwn.l0 kj3 a1 a2 (wrap64 (Int.tdiv (ji14) t484)) (wrap64 (Int.tdiv (ji14) t484)) a0_0 a0_1 l0_2)) = some (r1, r2, r3) := H
        have A15 := Aside0.mk A150
        clear A150
        by_cases c16 : t484 = 0
        · rw [if_pos c16] at H
          exact absurd H (by simp)
        · rw [if_neg c16] at H
          have c16b0 : (t484 == 0) = false := beq_eq_false_iff_ne.mpr c16
          have c16b1 : (t484 != 0) = true := bne_iff_ne.mpr c16
          have H' := Aside0.mk H
          clear H
          try go_wp2
          have n0_ := Aside0.mk (blk_drew BK481.out)
          have n1_ := Aside0.mk (below_drew1 HB.out)
          clear BK481
          clear HB
          have BK481 := n0_
          have HB := n1_
          clear n0_ n1_
          refine start_ (n := 9) (S := fun w' => w'.cell? ⟨gb481, 0, none⟩ = some (.int .i64 a0_0) ∧ w'.cell? ⟨gb481, 1, none⟩ = some (.int .i64 a0_1) ∧ w'.cell? ⟨gb481, 2, none⟩ = some (.slice A0_2 l0_2.length c0_2)) (ds := []) #[false, false, false, false, false, false, false, false, false] (by kernel_rfl) rfl rfl ⟨(blk_cell BK481.out 0).trans rfl, (blk_cell BK481.out 1).trans rfl, (blk_cell BK481.out 2).trans rfl⟩ (fun hHeld => ?_); refine with_tabW impl_NextOwn.tab3 impl_NextOwn.bits3 (fun HT_ HW_ => ?_)
          generalize wc.drew = w17 at BK481 HB hHeld ⊢
          refine pure_ (i := 0) (N := some 23) (v := ?_) (a' := ?_) #[true, false, false, false, false, false, false, false, false] rfl rfl (any_of HT_.out (by kernel_rfl)) (fun _ _ _ h => h) (Or.inl ⟨by rfl, ?_⟩) ?_ ?_
          rotate_left
          · intro w'
            go_simp
            with_reducible rfl
          rotate_left
          · simp only [Act.put, List.setIfInBounds_toArray, List.set_cons_zero, List.set_cons_succ, i64_w, i32_w]
            rfl
          refine pure_ (i := 1) (N := some 24) (v := ?_) (a' := ?_) #[true, true, false, false, false, false, false, false, false] rfl rfl (any_of HT_.out (by kernel_rfl)) (fun _ _ _ h => h) (Or.inl ⟨by rfl, ?_⟩) ?_ ?_
          rotate_left
          · intro w'
            go_simp
            with_reducible rfl
          rotate_left
          · simp only [Act.put, List.setIfInBounds_toArray, List.set_cons_zero, List.set_cons_succ, i64_w, i32_w]
            rfl
          refine take_ (i := 2) (N := some 25) (v := ?_) (a' := ?_) #[true, true, true, false, false, false, false, false, false] rfl rfl (take_ofW HT_.out HW_.out (by kernel_rfl)) (fun _ _ _ h => h) (Or.inl ⟨by rfl, ?_⟩) hHeld ?_ ?_
          rotate_left
          · rintro w' ⟨s0, s1, s2⟩
            go_simp
            with_reducible rfl
          rotate_left
          · simp only [Act.put, List.setIfInBounds_toArray, List.set_cons_zero, List.set_cons_succ, i64_w, i32_w]
            rfl
          refine pure_ (i := 3) (N := some 26) (v := ?_) (a' := ?_) #[true, true, true, true, false, false, false, false, false] rfl rfl (any_of HT_.out (by kernel_rfl)) (fun _ _ _ h => h) (Or.inl ⟨by rfl, ?_⟩) ?_ ?_
          rotate_left
          · intro w'
            go_simp
            with_reducible rfl
          rotate_left
          · simp only [Act.put, List.setIfInBounds_toArray, List.set_cons_zero, List.set_cons_succ, i64_w, i32_w]
            rfl
          refine pure_ (i := 4) (N := some 27) (v := ?_) (a' := ?_) #[true, true, true, true, true, false, false, false, false] rfl rfl (any_of HT_.out (by kernel_rfl)) (fun _ _ _ h => h) (Or.inl ⟨by rfl, ?_⟩) ?_ ?_
          rotate_left
          · intro w'
            go_simp
            with_reducible rfl
          rotate_left
          · simp only [Act.put, List.setIfInBounds_toArray, List.set_cons_zero, List.set_cons_succ, i64_w, i32_w]
            rfl
          refine take_ (i := 5) (N := some 28) (v := ?_) (a' := ?_) #[true, true, true, true, true, true, false, false, false] rfl rfl (take_ofW HT_.out HW_.out (by kernel_rfl)) (fun _ _ _ h => h) (Or.inl ⟨by rfl, ?_⟩) hHeld ?_ ?_
          rotate_left
          · rintro w' ⟨s0, s1, s2⟩
            go_simp
            with_reducible rfl
          rotate_left
          · simp only [Act.put, List.setIfInBounds_toArray, List.set_cons_zero, List.set_cons_succ, i64_w, i32_w]
            rfl
          refine one_ (i := 6) (N := some 29) #[true, true, true, true, true, true, true, false, false] rfl rfl (one_of HT_.out (by kernel_rfl)) (by decide) (fun K hK => ?_)
          refine goes_ Try.func45 (by kernel_rfl) rfl #[.agg #[.int .i64 a0_0, .int .i64 a0_1, .slice A0_2 l0_2.length c0_2]] (by rfl) rfl rfl arr_ ?_
          with_reducible refine (impl_Plan_round.calls kj3 a0_0 a0_1 _ _ l0_2 t484 _ ?side1 ?side2 A15.out).mono ?_
          (case side1 => exact kc_ (Kd.C_below HR0_2.out HB.out))
          (case side2 => exact HC0_2.out)
          rintro e w18 ⟨rfl, hb⟩
          refine ⟨_, rfl, ?_⟩
          have n0_ := Aside0.mk (bb_ BK481.out hb)
          have n1_ := Aside0.mk (below_step (hb1_ HB.out GE481.out) hb)
          clear BK481
          clear HB
          have BK481 := n0_
          have HB := n1_
          clear n0_ n1_
          (try clear hb)
          (try clear hb2)
          (try clear hk)
          (try clear hi)
          refine hK.out _ _ ⟨(blk_cell BK481.out 0).trans rfl, (blk_cell BK481.out 1).trans rfl, (blk_cell BK481.out 2).trans rfl⟩ (fun hHeld => ?_)
          clear hK K
          refine norm_ (a' := ?_) ?_ ?_
          rotate_left
          · show Act.put _ (some 29) _ = _
            simp only [Act.put, List.setIfInBounds_toArray, List.set_cons_zero, List.set_cons_succ, i64_w, i32_w]
            rfl
          refine pure_ (i := 7) (N := some 30) (v := ?_) (a' := ?_) #[true, true, true, true, true, true, true, true, false] rfl rfl (any_of HT_.out (by kernel_rfl)) (fun _ _ _ h => h) (Or.inl ⟨by rfl, ?_⟩) ?_ ?_
          rotate_left
          · intro w'
            go_simp
            with_reducible rfl
          rotate_left
          · simp only [Act.put, List.setIfInBounds_toArray, List.set_cons_zero, List.set_cons_succ, i64_w, i32_w]
            rfl
          refine pure_ (i := 8) (N := some 9) (v := ?_) (a' := ?_) #[true, true, true, true, true, true, true, true, true] rfl rfl (any_of HT_.out (by kernel_rfl)) (fun _ _ _ h => h) (Or.inl ⟨by rfl, ?_⟩) ?_ ?_
          rotate_left
          · intro w'
            go_simp
            with_reducible rfl
          rotate_left
          · simp only [Act.put, List.setIfInBounds_toArray, List.set_cons_zero, List.set_cons_succ, i64_w, i32_w]
            rfl
          refine done_ (done_of HT_.out (by kernel_rfl)) ?_
          try go_wp2
          go_loopg [10] kj3 (fun kq v10 w' => ∃ (x10_2 : Int), v10 = .int .i64 x10_2 ∧ Aside0 (impl_NextOwn.l0 kq a1 a2 (wrap64 (Int.tdiv (ji14) t484)) x10_2 a0_0 a0_1 l0_2 = some (r1, r2, r3)) ∧ Aside0 (kq ≤ kj3) ∧ Aside0 (w'.heap[gb481]? = some (.cells #[.int .i64 a0_0, .int .i64 a0_1, (.slice A0_2 l0_2.length c0_2)] 29 (0, 0))) ∧ Aside0 (Below w.heap.size w w'))
          case atStart => exact ⟨(wrap64 (Int.tdiv (ji14) t484)), (by first | rfl | (simp; done) | (simp only [← hji14] <;> (first | rfl | simp)) | (simp [*]; done)), H', ⟨Nat.le_refl _⟩, ⟨bk_ BK481.out⟩, ⟨hb1_ HB.out GE481.out⟩⟩
          case round =>
            clear H'
            try clear c1
            try clear p2
            try clear c3
            try clear c4
            try clear p6
            try clear c7
            try clear c13
            try clear c16
            try clear c16b0
            try clear c16b1
            try clear hcz11_0
            try clear hcz11_1
            try clear hcz11_2
            try clear hcz9_0
            try clear hcz9_1
            try clear hcz9_2
            try clear hfz11_0
            try clear hfz11_1
            try clear hfz11_2
            try clear hfz9_0
            try clear hfz9_1
            try clear hfz9_2
            try clear p2
            obtain ⟨x10_2, rfl, HA, HK2, BK481, HB⟩ := hrel
            cases gk with
            | zero => exact absurd HA.out (by simp [impl_NextOwn.l0])
            | succ k2 =>
              have H := HA.out
              clear HA
              simp only [impl_NextOwn.l0] at H
              by_cases c19 : x10_2 ≤ (wrap64 ((wrap64 (Int.tdiv (ji14) t484)) + 1))
              · rw [if_pos c19] at H
                have c19b0 : decide (x10_2 ≤ (wrap64 ((wrap64 (Int.tdiv (ji14) t484)) + 1))) = true := decide_eq_true c19
                clear c19
                have H' := Aside0.mk H
                clear H
                have hcz20_0 := bc_ BK481.out 0 (.int .i64 a0_0) rfl
                have hcz20_1 := bc_ BK481.out 1 (.int .i64 a0_1) rfl
                have hcz20_2 := bc_ BK481.out 2 (.slice A0_2 l0_2.length c0_2) rfl
                have hfz20_0 := blk_frozen BK481.out 0
                have hfz20_1 := blk_frozen BK481.out 1
                have hfz20_2 := blk_frozen BK481.out 2
                go_wp2
                go_loopg [41] k2 (fun kq v41 w' => ∃ (x41_3 : Int), v41 = .int .i64 x41_3 ∧ Aside0 (impl_NextOwn.l1 kq a1 a2 (wrap64 (Int.tdiv (ji14) t484)) x10_2 l0_2 (l0_2.length : Int) x41_3 a0_0 a0_1 l0_2 = some (r1, r2, r3)) ∧ Aside0 (kq ≤ k2) ∧ Aside0 (w'.heap[gb481]? = some (.cells #[.int .i64 a0_0, .int .i64 a0_1, (.slice A0_2 l0_2.length c0_2)] 29 (0, 0))) ∧ Aside0 (Below w.heap.size w w'))
                case atStart => exact ⟨(0), (by first | rfl | (simp; done) | (simp [*]; done)), H', ⟨Nat.le_refl _⟩, ⟨bk_ BK481.out⟩, ⟨hb1_ HB.out GE481.out⟩⟩
                case round =>
                  clear H'
                  try clear c1
                  try clear p2
                  try clear c3
                  try clear c4
                  try clear p6
                  try clear c7
                  try clear c13
                  try clear c16
                  try clear c16b0
                  try clear c16b1
                  try clear c19
                  try clear c19b0
                  try clear hcz11_0
                  try clear hcz11_1
                  try clear hcz11_2
                  try clear hcz20_0
                  try clear hcz20_1
                  try clear hcz20_2
                  try clear hcz9_0
                  try clear hcz9_1
                  try clear hcz9_2
                  try clear hfz11_0
                  try clear hfz11_1
                  try clear hfz11_2
                  try clear hfz20_0
                  try clear hfz20_1
                  try clear hfz20_2
                  try clear hfz9_0
                  try clear hfz9_1
                  try clear hfz9_2
                  try clear p2
                  try clear p6
                  obtain ⟨x41_3, rfl, HA, HK3, BK481, HB⟩ := hrel
                  cases gk with
                  | zero => exact absurd HA.out (by simp [impl_NextOwn.l1])
                  | succ k3 =>
                    have H := HA.out
                    clear HA
                    simp only [impl_NextOwn.l1] at H
                    by_cases c21 : x41_3 < (l0_2.length : Int)
                    · rw [if_pos c21] at H
                      have c21b0 : decide (x41_3 < (l0_2.length : Int)) = true := decide_eq_true c21
                      clear c21
                      by_cases c22 : 0 ≤ x41_3
                      · rw [if_pos c22] at H
                        have c22b0 : decide (0 ≤ x41_3) = true := decide_eq_true c22
                        clear c22
                        by_cases c23 : x41_3 < (l0_2.length : Int)
                        · rw [if_pos c23] at H
                          have c23b0 : decide (x41_3 < (l0_2.length : Int)) = true := decide_eq_true c23
                          clear c23
                          replace H := Option.bind_eq_some_iff.mp H
                          obtain ⟨⟨t487, t488, t489⟩, A240, H⟩ := H
                          replace H : (if t489 = true then (if ((rd_T60 l0_2 x41_3).f0) = a1 then (if t487 ≥ a2 then (some (x41_3, t487, true)) else (impl_NextOwn.l1 k3 a1 a2 (wrap64 (Int.tdiv (ji14) t484)) x10_2 l0_2 (l0_2.length : Int) (wrap64 (x41_3 + 1)) a0_0 a0_1 l0_2)) else (impl_NextOwn.l1 k3 a1 a2 (wrap64 (Int.tdiv (ji14) t484)) x10_2 l0_2 (l0_2.length : Int) (wrap64 (x41_3 + 1)) a0_0 a0_1 l0_2)) else (impl_NextOwn.l1 k3 a1 a2 (wrap64 (Int.tdiv (ji14) t484)) x10_2 l0_2 (l0_2.length : Int) (wrap64 (x41_3 + 1)) a0_0 a0_1 l0_2)) = some (r1, r2, r3) := H
                          have A24 := Aside0.mk A240
                          clear A240
                          by_cases c25 : t489 = true
                          · subst c25
                            have H1 : (if ((rd_T60 l0_2 x41_3).f0) = a1 then (if t487 ≥ a2 then (some (x41_3, t487, true)) else (impl_NextOwn.l1 k3 a1 a2 (wrap64 (Int.tdiv (ji14) t484)) x10_2 l0_2 (l0_2.length : Int) (wrap64 (x41_3 + 1)) a0_0 a0_1 l0_2)) else (impl_NextOwn.l1 k3 a1 a2 (wrap64 (Int.tdiv (ji14) t484)) x10_2 l0_2 (l0_2.length : Int) (wrap64 (x41_3 + 1)) a0_0 a0_1 l0_2)) = some (r1, r2, r3) := by rw [if_pos rfl] at H; exact H
                            clear H
                            have H := H1
                            clear H1
                            by_cases c26 : ((rd_T60 l0_2 x41_3).f0) = a1
                            · rw [if_pos c26] at H
                              have c26b0 : (((rd_T60 l0_2 x41_3).f0) == a1) = true := beq_iff_eq.mpr c26
                              have c26b1 : (((rd_T60 l0_2 x41_3).f0) != a1) = false := bne_eq_false_iff_eq.mpr c26
                              clear c26
                              by_cases c27 : t487 ≥ a2
                              · rw [if_pos c27] at H
                                have c27b0 : decide (a2 ≤ t487) = true := decide_eq_true c27
                                clear c27
                                simp only [Option.some.injEq, Prod.mk.injEq] at H
                                obtain ⟨rfl, rfl, rfl⟩ := H
                                have p485 : 0 ≤ (x41_3 : Int) := of_decide_eq_true (by first | (with_reducible assumption) | assumption)
                                have q485 : x41_3 < (l0_2.length : Int) := of_decide_eq_true (by first | (with_reducible assumption) | assumption)
                                obtain ⟨ad485, e485, hx485_0, hx485_1⟩ := at_T60 HR0_2.out x41_3 p485 q485
                                cases e485
                                replace hx485_0 := (HB.out.cell (World.block_lt_of_cell? w _ hx485_0)).trans hx485_0
                                replace hx485_1 := (HB.out.cell (World.block_lt_of_cell? w _ hx485_1)).trans hx485_1
                                replace p485 := eq_true p485
                                replace q485 := eq_true q485
                                try go_wp2_with (first | ((with_reducible refine gate_dst (N := 12) rfl ?_); refine box_event ?hg (N := 12) ?hd (cs := #[.int .i64 0, .int .i64 0]) (t := 60) ?hr ?_; (case hd => rfl); (case hg => rfl); (case hr => first | (go_simp; done) | (go_simp; rfl)); intro gb486 hg w28 hbox hb; have n0_ := Aside0.mk (bb_ BK481.out hb); have n1_ := Aside0.mk (below_step (hb1_ HB.out GE481.out) hb); have n2_ := Aside0.mk (hbox); have n3_ := Aside0.mk ((by rw [hg]; exact (below_size (hb1_ HB.out GE481.out)) : w.heap.size ≤ gb486)); have n4_ := Aside0.mk ((by rw [hg]; exact (below_size (hb1_ HB.out GE481.out)) : w.heap.size ≤ gb486)); have n5_ := Aside0.mk ((bl_ hg BK481.out : gb481 ≠ gb486)); have n6_ := Aside0.mk ((bg_ hg BK481.out : gb486 ≠ gb481)); clear BK481; clear HB; have BK481 := n0_; have HB := n1_; have BK486 := n2_; have GW486 := n3_; have GE486 := n4_; have NB481_486 := n5_; have NB486_481 := n6_; clear n0_ n1_ n2_ n3_ n4_ n5_ n6_; clear hb hbox hg; have hnb29 := NB486_481.out; have hnc29 := NB481_486.out; have hcz30_0 := bc_ BK486.out 0 (.int .i64 0) rfl; have hcz30_1 := bc_ BK486.out 1 (.int .i64 0) rfl; have hfz30_0 := blk_frozen BK486.out 0; have hfz30_1 := blk_frozen BK486.out 1; have hcz31_0 := bc_ BK481.out 0 (.int .i64 a0_0) rfl; have hcz31_1 := bc_ BK481.out 1 (.int .i64 a0_1) rfl; have hcz31_2 : w28.cell? ⟨gb481, 2, none⟩ = some (.slice (some ad485) l0_2.length c0_2) := (blk_cell BK481.out 2).trans rfl; have hfz31_0 := blk_frozen BK481.out 0; have hfz31_1 := blk_frozen BK481.out 1; have hfz31_2 := blk_frozen BK481.out 2) | ((with_reducible refine gate_callee (f := 25) rfl ?_); refine goesL_ (some 50) rfl rfl Try.func25 (by kernel_rfl) rfl #[.agg #[.int .i64 a0_0, .int .i64 a0_1, .slice (some ad485) l0_2.length c0_2], .int .i64 x41_3, .int .i64 x10_2] rfl arr_ ?_; (with_reducible refine (impl_Occurrence.calls k3 a0_0 a0_1 _ _ l0_2 x41_3 x10_2 t487 t488 true _ ?side1 ?side2 A24.out).mono ?_); (case side1 => exact Kd.C_below HR0_2.out (hb2_ HB.out GE481.out GE486.out)); (case side2 => exact HC0_2.out); rintro e w32 ⟨rfl, hb⟩; refine ⟨_, rfl, ?_⟩; have n0_ := Aside0.mk (blk_below (g := gb481) (o := .cells #[.int .i64 a0_0, .int .i64 a0_1, .slice (some ad485) l0_2.length c0_2] 29 (0, 0)) (by (with_reducible repeat (first | refine blk_drewN ?_ _ | refine blk_drew ?_ | refine blk_alloc ?_ _)); refine blk_far ?_ NB481_486.out _; (with_reducible repeat (first | refine blk_drewN ?_ _ | refine blk_drew ?_ | refine blk_alloc ?_ _)); refine blk_far ?_ NB481_486.out _; (with_reducible repeat (first | refine blk_drewN ?_ _ | refine blk_drew ?_ | refine blk_alloc ?_ _)); exact BK481.out) hb); have n1_ := Aside0.mk (blk_below (g := gb486) (o := .cells #[.int .i64 ((rd_T60 l0_2 x41_3).f0), .int .i64 ((rd_T60 l0_2 x41_3).f1)] 60 (0, 0)) (by (with_reducible repeat (first | refine blk_drewN ?_ _ | refine blk_drew ?_ | refine blk_alloc ?_ _)); refine blk_put (cs := #[.int .i64 ((rd_T60 l0_2 x41_3).f0), .int .i64 0]) ?_ 1 _ rfl; (with_reducible repeat (first | refine blk_drewN ?_ _ | refine blk_drew ?_ | refine blk_alloc ?_ _)); refine blk_put (cs := #[.int .i64 0, .int .i64 0]) ?_ 0 _ rfl; (with_reducible repeat (first | refine blk_drewN ?_ _ | refine blk_drew ?_ | refine blk_alloc ?_ _)); exact BK486.out) hb); have n2_ := Aside0.mk (below_step (hb2_ HB.out GE481.out GE486.out) hb); clear BK481; clear BK486; clear HB; have BK481 := n0_; have BK486 := n1_; have HB := n2_; clear n0_ n1_ n2_; (try clear hb); (try clear hb2); (try clear hk); (try clear hi)) | ((with_reducible refine gate_dst (N := 13) rfl ?_); refine box_event ?hg (N := 13) ?hd (cs := #[.int .i64 0, .int .i64 0]) (t := 40) ?hr ?_; (case hd => rfl); (case hg => rfl); (case hr => first | (go_simp; done) | (go_simp; rfl)); intro gb490 hg w33 hbox hb; have n0_ := Aside0.mk (bb_ BK481.out hb); have n1_ := Aside0.mk (bb_ BK486.out hb); have n2_ := Aside0.mk (below_step (hb2_ HB.out GE481.out GE486.out) hb); have n3_ := Aside0.mk (hbox); have n4_ := Aside0.mk ((by rw [hg]; exact (below_size (hb2_ HB.out GE481.out GE486.out)) : w.heap.size ≤ gb490)); have n5_ := Aside0.mk ((by rw [hg]; exact (below_size (hb2_ HB.out GE481.out GE486.out)) : w.heap.size ≤ gb490)); have n6_ := Aside0.mk ((bl_ hg BK481.out : gb481 ≠ gb490)); have n7_ := Aside0.mk ((bg_ hg BK481.out : gb490 ≠ gb481)); have n8_ := Aside0.mk ((bl_ hg BK486.out : gb486 ≠ gb490)); have n9_ := Aside0.mk ((bg_ hg BK486.out : gb490 ≠ gb486)); clear BK481; clear BK486; clear HB; have BK481 := n0_; have BK486 := n1_; have HB := n2_; have BK490 := n3_; have GW490 := n4_; have GE490 := n5_; have NB481_490 := n6_; have NB490_481 := n7_; have NB486_490 := n8_; have NB490_486 := n9_; clear n0_ n1_ n2_ n3_ n4_ n5_ n6_ n7_ n8_ n9_; clear hb hbox hg; have hnb34 := NB490_481.out; have hnc34 := NB481_490.out; have hnb35 := NB490_486.out; have hnc35 := NB486_490.out; have hcz36_0 := bc_ BK490.out 0 (.int .i64 0) rfl; have hcz36_1 := bc_ BK490.out 1 (.int .i64 0) rfl; have hfz36_0 := blk_frozen BK490.out 0; have hfz36_1 := blk_frozen BK490.out 1; have hcz37_0 : w33.cell? ⟨gb486, 0, none⟩ = some (.int .i64 ((rd_T60 l0_2 x41_3).f0)) := (blk_cell BK486.out 0).trans rfl; have hcz37_1 : w33.cell? ⟨gb486, 1, none⟩ = some (.int .i64 ((rd_T60 l0_2 x41_3).f1)) := (blk_cell BK486.out 1).trans rfl; have hfz37_0 := blk_frozen BK486.out 0; have hfz37_1 := blk_frozen BK486.out 1))
                                have n0_ : Aside0 (((w33.setCell ⟨gb490, 0, none⟩ (.int .i64 t487)).setCell ⟨gb490, 1, none⟩ (.int .i64 t488)).heap[gb481]? = some (.cells #[.int .i64 a0_0, .int .i64 a0_1, .slice (some ad485) l0_2.length c0_2] 29 (0, 0))) := ⟨by (with_reducible repeat (first | refine blk_drewN ?_ _ | refine blk_drew ?_ | refine blk_alloc ?_ _)); refine blk_far ?_ NB481_490.out _; (with_reducible repeat (first | refine blk_drewN ?_ _ | refine blk_drew ?_ | refine blk_alloc ?_ _)); refine blk_far ?_ NB481_490.out _; (with_reducible repeat (first | refine blk_drewN ?_ _ | refine blk_drew ?_ | refine blk_alloc ?_ _)); exact BK481.out⟩
                                have n1_ : Aside0 (((w33.setCell ⟨gb490, 0, none⟩ (.int .i64 t487)).setCell ⟨gb490, 1, none⟩ (.int .i64 t488)).heap[gb486]? = some (.cells #[.int .i64 ((rd_T60 l0_2 x41_3).f0), .int .i64 ((rd_T60 l0_2 x41_3).f1)] 60 (0, 0))) := ⟨by (with_reducible repeat (first | refine blk_drewN ?_ _ | refine blk_drew ?_ | refine blk_alloc ?_ _)); refine blk_far ?_ NB486_490.out _; (with_reducible repeat (first | refine blk_drewN ?_ _ | refine blk_drew ?_ | refine blk_alloc ?_ _)); refine blk_far ?_ NB486_490.out _; (with_reducible repeat (first | refine blk_drewN ?_ _ | refine blk_drew ?_ | refine blk_alloc ?_ _)); exact BK486.out⟩
                                have n2_ : Aside0 (((w33.setCell ⟨gb490, 0, none⟩ (.int .i64 t487)).setCell ⟨gb490, 1, none⟩ (.int .i64 t488)).heap[gb490]? = some (.cells #[.int .i64 t487, .int .i64 t488] 40 (0, 0))) := ⟨by (with_reducible repeat (first | refine blk_drewN ?_ _ | refine blk_drew ?_ | refine blk_alloc ?_ _)); refine blk_put (cs := #[.int .i64 t487, .int .i64 0]) ?_ 1 _ rfl; (with_reducible repeat (first | refine blk_drewN ?_ _ | refine blk_drew ?_ | refine blk_alloc ?_ _)); refine blk_put (cs := #[.int .i64 0, .int .i64 0]) ?_ 0 _ rfl; (with_reducible repeat (first | refine blk_drewN ?_ _ | refine blk_drew ?_ | refine blk_alloc ?_ _)); exact BK490.out⟩
                                have n3_ : Aside0 (Below w.heap.size w ((w33.setCell ⟨gb490, 0, none⟩ (.int .i64 t487)).setCell ⟨gb490, 1, none⟩ (.int .i64 t488))) := ⟨hb3_ HB.out GE481.out GE486.out GE490.out⟩
                                (try clear BK481)
                                (try clear BK486)
                                (try clear BK490)
                                (try clear HB)
                                generalize ((w33.setCell ⟨gb490, 0, none⟩ (.int .i64 t487)).setCell ⟨gb490, 1, none⟩ (.int .i64 t488)) = w38 at n0_ n1_ n2_ n3_ ⊢
                                have BK481 := n0_
                                have BK486 := n1_
                                have BK490 := n2_
                                have HB := n3_
                                clear n0_ n1_ n2_ n3_
                                have n0_ := Aside0.mk (blk_drew BK481.out)
                                have n1_ := Aside0.mk (blk_drew BK486.out)
                                have n2_ := Aside0.mk (blk_drew BK490.out)
                                have n3_ := Aside0.mk (below_drew1 HB.out)
                                clear BK481
                                clear BK486
                                clear BK490
                                clear HB
                                have BK481 := n0_
                                have BK486 := n1_
                                have BK490 := n2_
                                have HB := n3_
                                clear n0_ n1_ n2_ n3_
                                refine start_ (n := 6) (S := fun w' => w'.cell? ⟨gb490, 0, none⟩ = some (.int .i64 t487) ∧ w'.cell? ⟨gb490, 1, none⟩ = some (.int .i64 t488)) (ds := []) #[false, false, false, false, false, false] (by kernel_rfl) rfl rfl ⟨(blk_cell BK490.out 0).trans rfl, (blk_cell BK490.out 1).trans rfl⟩ (fun hHeld => ?_)
                                generalize w38.drew = w39 at BK481 BK486 BK490 HB hHeld ⊢
                                refine pure_ (i := 0) (N := some 66) (v := ?_) (a' := ?_) #[true, false, false, false, false, false] rfl rfl (by kernel_rfl) (fun _ _ _ h => h) (Or.inl ⟨by rfl, ?_⟩) ?_ ?_
                                rotate_left
                                · intro w'
                                  go_simp
                                  with_reducible rfl
                                rotate_left
                                · simp only [Act.put, List.setIfInBounds_toArray, List.set_cons_zero, List.set_cons_succ, i64_w, i32_w]
                                  rfl
                                refine pure_ (i := 1) (N := some 67) (v := ?_) (a' := ?_) #[true, true, false, false, false, false] rfl rfl (by kernel_rfl) (fun _ _ _ h => h) (Or.inl ⟨by rfl, ?_⟩) ?_ ?_
                                rotate_left
                                · intro w'
                                  go_simp
                                  with_reducible rfl
                                rotate_left
                                · simp only [Act.put, List.setIfInBounds_toArray, List.set_cons_zero, List.set_cons_succ, i64_w, i32_w]
                                  rfl
                                refine pure_ (i := 3) (N := some 6) (v := ?_) (a' := ?_) #[true, true, false, true, false, false] rfl rfl (by kernel_rfl) (fun _ _ _ h => h) (Or.inl ⟨by rfl, ?_⟩) ?_ ?_
                                rotate_left
                                · intro w'
                                  go_simp
                                  with_reducible rfl
                                rotate_left
                                · simp only [Act.put, List.setIfInBounds_toArray, List.set_cons_zero, List.set_cons_succ, i64_w, i32_w]
                                  rfl
                                refine take_ (i := 2) (N := some 68) (v := ?_) (a' := ?_) #[true, true, true, true, false, false] rfl rfl (by kernel_rfl) (fun _ _ _ h => h) (Or.inl ⟨by rfl, ?_⟩) hHeld ?_ ?_
                                rotate_left
                                · rintro w' ⟨s0, s1⟩
                                  go_simp
                                  with_reducible rfl
                                rotate_left
                                · simp only [Act.put, List.setIfInBounds_toArray, List.set_cons_zero, List.set_cons_succ, i64_w, i32_w]
                                  rfl
                                refine pure_ (i := 4) (N := some 7) (v := ?_) (a' := ?_) #[true, true, true, true, true, false] rfl rfl (by kernel_rfl) (fun _ _ _ h => h) (Or.inl ⟨by rfl, ?_⟩) ?_ ?_
                                rotate_left
                                · intro w'
                                  go_simp
                                  with_reducible rfl
                                rotate_left
                                · simp only [Act.put, List.setIfInBounds_toArray, List.set_cons_zero, List.set_cons_succ, i64_w, i32_w]
                                  rfl
                                refine pure_ (i := 5) (N := some 8) (v := ?_) (a' := ?_) #[true, true, true, true, true, true] rfl rfl (by kernel_rfl) (fun _ _ _ h => h) (Or.inl ⟨by rfl, ?_⟩) ?_ ?_
                                rotate_left
                                · intro w'
                                  go_simp
                                  with_reducible rfl
                                rotate_left
                                · simp only [Act.put, List.setIfInBounds_toArray, List.set_cons_zero, List.set_cons_succ, i64_w, i32_w]
                                  rfl
                                refine done_ (by kernel_rfl) ?_
                                try go_wp2
                                go_ret3
                                exact ⟨by first | rfl | (simp [errW_none, errW_some] <;> rfl) | (simp only [← hji14]; first | rfl | (simp [errW_none, errW_some] <;> rfl)) | (simp [*, errW_none, errW_some] <;> rfl), hb3_ HB.out GE481.out GE486.out GE490.out⟩
                              · rw [if_neg c27] at H
                                have c27b0 : decide (a2 ≤ t487) = false := decide_eq_false c27
                                clear c27
                                have H' := Aside0.mk H
                                clear H
                                have p485 : 0 ≤ (x41_3 : Int) := of_decide_eq_true (by first | (with_reducible assumption) | assumption)
                                have q485 : x41_3 < (l0_2.length : Int) := of_decide_eq_true (by first | (with_reducible assumption) | assumption)
                                obtain ⟨ad485, e485, hx485_0, hx485_1⟩ := at_T60 HR0_2.out x41_3 p485 q485
                                cases e485
                                replace hx485_0 := (HB.out.cell (World.block_lt_of_cell? w _ hx485_0)).trans hx485_0
                                replace hx485_1 := (HB.out.cell (World.block_lt_of_cell? w _ hx485_1)).trans hx485_1
                                replace p485 := eq_true p485
                                replace q485 := eq_true q485
                                go_wp2_with (first | ((with_reducible refine gate_dst (N := 12) rfl ?_); refine box_event ?hg (N := 12) ?hd (cs := #[.int .i64 0, .int .i64 0]) (t := 60) ?hr ?_; (case hd => rfl); (case hg => rfl); (case hr => first | (go_simp; done) | (go_simp; rfl)); intro gb486 hg w40 hbox hb; have n0_ := Aside0.mk (bb_ BK481.out hb); have n1_ := Aside0.mk (below_step (hb1_ HB.out GE481.out) hb); have n2_ := Aside0.mk (hbox); have n3_ := Aside0.mk ((by rw [hg]; exact (below_size (hb1_ HB.out GE481.out)) : w.heap.size ≤ gb486)); have n4_ := Aside0.mk ((by rw [hg]; exact (below_size (hb1_ HB.out GE481.out)) : w.heap.size ≤ gb486)); have n5_ := Aside0.mk ((bl_ hg BK481.out : gb481 ≠ gb486)); have n6_ := Aside0.mk ((bg_ hg BK481.out : gb486 ≠ gb481)); clear BK481; clear HB; have BK481 := n0_; have HB := n1_; have BK486 := n2_; have GW486 := n3_; have GE486 := n4_; have NB481_486 := n5_; have NB486_481 := n6_; clear n0_ n1_ n2_ n3_ n4_ n5_ n6_; clear hb hbox hg; have hnb41 := NB486_481.out; have hnc41 := NB481_486.out; have hcz42_0 := bc_ BK486.out 0 (.int .i64 0) rfl; have hcz42_1 := bc_ BK486.out 1 (.int .i64 0) rfl; have hfz42_0 := blk_frozen BK486.out 0; have hfz42_1 := blk_frozen BK486.out 1; have hcz43_0 := bc_ BK481.out 0 (.int .i64 a0_0) rfl; have hcz43_1 := bc_ BK481.out 1 (.int .i64 a0_1) rfl; have hcz43_2 : w40.cell? ⟨gb481, 2, none⟩ = some (.slice (some ad485) l0_2.length c0_2) := (blk_cell BK481.out 2).trans rfl; have hfz43_0 := blk_frozen BK481.out 0; have hfz43_1 := blk_frozen BK481.out 1; have hfz43_2 := blk_frozen BK481.out 2) | ((with_reducible refine gate_callee (f := 25) rfl ?_); refine goesL_ (some 50) rfl rfl Try.func25 (by kernel_rfl) rfl #[.agg #[.int .i64 a0_0, .int .i64 a0_1, .slice (some ad485) l0_2.length c0_2], .int .i64 x41_3, .int .i64 x10_2] rfl arr_ ?_; (with_reducible refine (impl_Occurrence.calls k3 a0_0 a0_1 _ _ l0_2 x41_3 x10_2 t487 t488 true _ ?side1 ?side2 A24.out).mono ?_); (case side1 => exact Kd.C_below HR0_2.out (hb2_ HB.out GE481.out GE486.out)); (case side2 => exact HC0_2.out); rintro e w44 ⟨rfl, hb⟩; refine ⟨_, rfl, ?_⟩; have n0_ := Aside0.mk (blk_below (g := gb481) (o := .cells #[.int .i64 a0_0, .int .i64 a0_1, .slice (some ad485) l0_2.length c0_2] 29 (0, 0)) (by (with_reducible repeat (first | refine blk_drewN ?_ _ | refine blk_drew ?_ | refine blk_alloc ?_ _)); refine blk_far ?_ NB481_486.out _; (with_reducible repeat (first | refine blk_drewN ?_ _ | refine blk_drew ?_ | refine blk_alloc ?_ _)); refine blk_far ?_ NB481_486.out _; (with_reducible repeat (first | refine blk_drewN ?_ _ | refine blk_drew ?_ | refine blk_alloc ?_ _)); exact BK481.out) hb); have n1_ := Aside0.mk (blk_below (g := gb486) (o := .cells #[.int .i64 ((rd_T60 l0_2 x41_3).f0), .int .i64 ((rd_T60 l0_2 x41_3).f1)] 60 (0, 0)) (by (with_reducible repeat (first | refine blk_drewN ?_ _ | refine blk_drew ?_ | refine blk_alloc ?_ _)); refine blk_put (cs := #[.int .i64 ((rd_T60 l0_2 x41_3).f0), .int .i64 0]) ?_ 1 _ rfl; (with_reducible repeat (first | refine blk_drewN ?_ _ | refine blk_drew ?_ | refine blk_alloc ?_ _)); refine blk_put (cs := #[.int .i64 0, .int .i64 0]) ?_ 0 _ rfl; (with_reducible repeat (first | refine blk_drewN ?_ _ | refine blk_drew ?_ | refine blk_alloc ?_ _)); exact BK486.out) hb); have n2_ := Aside0.mk (below_step (hb2_ HB.out GE481.out GE486.out) hb); clear BK481; clear BK486; clear HB; have BK481 := n0_; have BK486 := n1_; have HB := n2_; clear n0_ n1_ n2_; (try clear hb); (try clear hb2); (try clear hk); (try clear hi)) | ((with_reducible refine gate_dst (N := 13) rfl ?_); refine box_event ?hg (N := 13) ?hd (cs := #[.int .i64 0, .int .i64 0]) (t := 40) ?hr ?_; (case hd => rfl); (case hg => rfl); (case hr => first | (go_simp; done) | (go_simp; rfl)); intro gb490 hg w45 hbox hb; have n0_ := Aside0.mk (bb_ BK481.out hb); have n1_ := Aside0.mk (bb_ BK486.out hb); have n2_ := Aside0.mk (below_step (hb2_ HB.out GE481.out GE486.out) hb); have n3_ := Aside0.mk (hbox); have n4_ := Aside0.mk ((by rw [hg]; exact (below_size (hb2_ HB.out GE481.out GE486.out)) : w.heap.size ≤ gb490)); have n5_ := Aside0.mk ((by rw [hg]; exact (below_size (hb2_ HB.out GE481.out GE486.out)) : w.heap.size ≤ gb490)); have n6_ := Aside0.mk ((bl_ hg BK481.out : gb481 ≠ gb490)); have n7_ := Aside0.mk ((bg_ hg BK481.out : gb490 ≠ gb481)); have n8_ := Aside0.mk ((bl_ hg BK486.out : gb486 ≠ gb490)); have n9_ := Aside0.mk ((bg_ hg BK486.out : gb490 ≠ gb486)); clear BK481; clear BK486; clear HB; have BK481 := n0_; have BK486 := n1_; have HB := n2_; have BK490 := n3_; have GW490 := n4_; have GE490 := n5_; have NB481_490 := n6_; have NB490_481 := n7_; have NB486_490 := n8_; have NB490_486 := n9_; clear n0_ n1_ n2_ n3_ n4_ n5_ n6_ n7_ n8_ n9_; clear hb hbox hg; have hnb46 := NB490_481.out; have hnc46 := NB481_490.out; have hnb47 := NB490_486.out; have hnc47 := NB486_490.out; have hcz48_0 := bc_ BK490.out 0 (.int .i64 0) rfl; have hcz48_1 := bc_ BK490.out 1 (.int .i64 0) rfl; have hfz48_0 := blk_frozen BK490.out 0; have hfz48_1 := blk_frozen BK490.out 1; have hcz49_0 : w45.cell? ⟨gb486, 0, none⟩ = some (.int .i64 ((rd_T60 l0_2 x41_3).f0)) := (blk_cell BK486.out 0).trans rfl; have hcz49_1 : w45.cell? ⟨gb486, 1, none⟩ = some (.int .i64 ((rd_T60 l0_2 x41_3).f1)) := (blk_cell BK486.out 1).trans rfl; have hfz49_0 := blk_frozen BK486.out 0; have hfz49_1 := blk_frozen BK486.out 1))
                                go_roundg k3
                                case measure => have := HJ3.out; have := HK2.out; have := HK3.out; omega
                                case rel => exact ⟨(wrap64 (x41_3 + 1)), (by first | rfl | (simp; done) | (simp [*]; done)), H', ⟨by have := HJ3.out; have := HK2.out; have := HK3.out; omega⟩, ⟨by (with_reducible repeat (first | refine blk_drewN ?_ _ | refine blk_drew ?_ | refine blk_alloc ?_ _)); refine blk_far ?_ NB481_490.out _; (with_reducible repeat (first | refine blk_drewN ?_ _ | refine blk_drew ?_ | refine blk_alloc ?_ _)); refine blk_far ?_ NB481_490.out _; (with_reducible repeat (first | refine blk_drewN ?_ _ | refine blk_drew ?_ | refine blk_alloc ?_ _)); exact BK481.out⟩, ⟨hb3_ HB.out GE481.out GE486.out GE490.out⟩⟩
                            · rw [if_neg c26] at H
                              have c26b0 : (((rd_T60 l0_2 x41_3).f0) == a1) = false := beq_eq_false_iff_ne.mpr c26
                              have c26b1 : (((rd_T60 l0_2 x41_3).f0) != a1) = true := bne_iff_ne.mpr c26
                              have H' := Aside0.mk H
                              clear H
                              have p485 : 0 ≤ (x41_3 : Int) := of_decide_eq_true (by first | (with_reducible assumption) | assumption)
                              have q485 : x41_3 < (l0_2.length : Int) := of_decide_eq_true (by first | (with_reducible assumption) | assumption)
                              obtain ⟨ad485, e485, hx485_0, hx485_1⟩ := at_T60 HR0_2.out x41_3 p485 q485
                              cases e485
                              replace hx485_0 := (HB.out.cell (World.block_lt_of_cell? w _ hx485_0)).trans hx485_0
                              replace hx485_1 := (HB.out.cell (World.block_lt_of_cell? w _ hx485_1)).trans hx485_1
                              replace p485 := eq_true p485
                              replace q485 := eq_true q485
                              go_wp2_with (first | ((with_reducible refine gate_dst (N := 12) rfl ?_); refine box_event ?hg (N := 12) ?hd (cs := #[.int .i64 0, .int .i64 0]) (t := 60) ?hr ?_; (case hd => rfl); (case hg => rfl); (case hr => first | (go_simp; done) | (go_simp; rfl)); intro gb486 hg w50 hbox hb; have n0_ := Aside0.mk (bb_ BK481.out hb); have n1_ := Aside0.mk (below_step (hb1_ HB.out GE481.out) hb); have n2_ := Aside0.mk (hbox); have n3_ := Aside0.mk ((by rw [hg]; exact (below_size (hb1_ HB.out GE481.out)) : w.heap.size ≤ gb486)); have n4_ := Aside0.mk ((by rw [hg]; exact (below_size (hb1_ HB.out GE481.out)) : w.heap.size ≤ gb486)); have n5_ := Aside0.mk ((bl_ hg BK481.out : gb481 ≠ gb486)); have n6_ := Aside0.mk ((bg_ hg BK481.out : gb486 ≠ gb481)); clear BK481; clear HB; have BK481 := n0_; have HB := n1_; have BK486 := n2_; have GW486 := n3_; have GE486 := n4_; have NB481_486 := n5_; have NB486_481 := n6_; clear n0_ n1_ n2_ n3_ n4_ n5_ n6_; clear hb hbox hg; have hnb51 := NB486_481.out; have hnc51 := NB481_486.out; have hcz52_0 := bc_ BK486.out 0 (.int .i64 0) rfl; have hcz52_1 := bc_ BK486.out 1 (.int .i64 0) rfl; have hfz52_0 := blk_frozen BK486.out 0; have hfz52_1 := blk_frozen BK486.out 1; have hcz53_0 := bc_ BK481.out 0 (.int .i64 a0_0) rfl; have hcz53_1 := bc_ BK481.out 1 (.int .i64 a0_1) rfl; have hcz53_2 : w50.cell? ⟨gb481, 2, none⟩ = some (.slice (some ad485) l0_2.length c0_2) := (blk_cell BK481.out 2).trans rfl; have hfz53_0 := blk_frozen BK481.out 0; have hfz53_1 := blk_frozen BK481.out 1; have hfz53_2 := blk_frozen BK481.out 2) | ((with_reducible refine gate_callee (f := 25) rfl ?_); refine goesL_ (some 50) rfl rfl Try.func25 (by kernel_rfl) rfl #[.agg #[.int .i64 a0_0, .int .i64 a0_1, .slice (some ad485) l0_2.length c0_2], .int .i64 x41_3, .int .i64 x10_2] rfl arr_ ?_; (with_reducible refine (impl_Occurrence.calls k3 a0_0 a0_1 _ _ l0_2 x41_3 x10_2 t487 t488 true _ ?side1 ?side2 A24.out).mono ?_); (case side1 => exact Kd.C_below HR0_2.out (hb2_ HB.out GE481.out GE486.out)); (case side2 => exact HC0_2.out); rintro e w54 ⟨rfl, hb⟩; refine ⟨_, rfl, ?_⟩; have n0_ := Aside0.mk (blk_below (g := gb481) (o := .cells #[.int .i64 a0_0, .int .i64 a0_1, .slice (some ad485) l0_2.length c0_2] 29 (0, 0)) (by (with_reducible repeat (first | refine blk_drewN ?_ _ | refine blk_drew ?_ | refine blk_alloc ?_ _)); refine blk_far ?_ NB481_486.out _; (with_reducible repeat (first | refine blk_drewN ?_ _ | refine blk_drew ?_ | refine blk_alloc ?_ _)); refine blk_far ?_ NB481_486.out _; (with_reducible repeat (first | refine blk_drewN ?_ _ | refine blk_drew ?_ | refine blk_alloc ?_ _)); exact BK481.out) hb); have n1_ := Aside0.mk (blk_below (g := gb486) (o := .cells #[.int .i64 ((rd_T60 l0_2 x41_3).f0), .int .i64 ((rd_T60 l0_2 x41_3).f1)] 60 (0, 0)) (by (with_reducible repeat (first | refine blk_drewN ?_ _ | refine blk_drew ?_ | refine blk_alloc ?_ _)); refine blk_put (cs := #[.int .i64 ((rd_T60 l0_2 x41_3).f0), .int .i64 0]) ?_ 1 _ rfl; (with_reducible repeat (first | refine blk_drewN ?_ _ | refine blk_drew ?_ | refine blk_alloc ?_ _)); refine blk_put (cs := #[.int .i64 0, .int .i64 0]) ?_ 0 _ rfl; (with_reducible repeat (first | refine blk_drewN ?_ _ | refine blk_drew ?_ | refine blk_alloc ?_ _)); exact BK486.out) hb); have n2_ := Aside0.mk (below_step (hb2_ HB.out GE481.out GE486.out) hb); clear BK481; clear BK486; clear HB; have BK481 := n0_; have BK486 := n1_; have HB := n2_; clear n0_ n1_ n2_; (try clear hb); (try clear hb2); (try clear hk); (try clear hi)) | ((with_reducible refine gate_dst (N := 13) rfl ?_); refine box_event ?hg (N := 13) ?hd (cs := #[.int .i64 0, .int .i64 0]) (t := 40) ?hr ?_; (case hd => rfl); (case hg => rfl); (case hr => first | (go_simp; done) | (go_simp; rfl)); intro gb490 hg w55 hbox hb; have n0_ := Aside0.mk (bb_ BK481.out hb); have n1_ := Aside0.mk (bb_ BK486.out hb); have n2_ := Aside0.mk (below_step (hb2_ HB.out GE481.out GE486.out) hb); have n3_ := Aside0.mk (hbox); have n4_ := Aside0.mk ((by rw [hg]; exact (below_size (hb2_ HB.out GE481.out GE486.out)) : w.heap.size ≤ gb490)); have n5_ := Aside0.mk ((by rw [hg]; exact (below_size (hb2_ HB.out GE481.out GE486.out)) : w.heap.size ≤ gb490)); have n6_ := Aside0.mk ((bl_ hg BK481.out : gb481 ≠ gb490)); have n7_ := Aside0.mk ((bg_ hg BK481.out : gb490 ≠ gb481)); have n8_ := Aside0.mk ((bl_ hg BK486.out : gb486 ≠ gb490)); have n9_ := Aside0.mk ((bg_ hg BK486.out : gb490 ≠ gb486)); clear BK481; clear BK486; clear HB; have BK481 := n0_; have BK486 := n1_; have HB := n2_; have BK490 := n3_; have GW490 := n4_; have GE490 := n5_; have NB481_490 := n6_; have NB490_481 := n7_; have NB486_490 := n8_; have NB490_486 := n9_; clear n0_ n1_ n2_ n3_ n4_ n5_ n6_ n7_ n8_ n9_; clear hb hbox hg; have hnb56 := NB490_481.out; have hnc56 := NB481_490.out; have hnb57 := NB490_486.out; have hnc57 := NB486_490.out; have hcz58_0 := bc_ BK490.out 0 (.int .i64 0) rfl; have hcz58_1 := bc_ BK490.out 1 (.int .i64 0) rfl; have hfz58_0 := blk_frozen BK490.out 0; have hfz58_1 := blk_frozen BK490.out 1; have hcz59_0 : w55.cell? ⟨gb486, 0, none⟩ = some (.int .i64 ((rd_T60 l0_2 x41_3).f0)) := (blk_cell BK486.out 0).trans rfl; have hcz59_1 : w55.cell? ⟨gb486, 1, none⟩ = some (.int .i64 ((rd_T60 l0_2 x41_3).f1)) := (blk_cell BK486.out 1).trans rfl; have hfz59_0 := blk_frozen BK486.out 0; have hfz59_1 := blk_frozen BK486.out 1))
                              go_roundg k3
                              case measure => have := HJ3.out; have := HK2.out; have := HK3.out; omega
                              case rel => exact ⟨(wrap64 (x41_3 + 1)), (by first | rfl | (simp; done) | (simp [*]; done)), H', ⟨by have := HJ3.out; have := HK2.out; have := HK3.out; omega⟩, ⟨by (with_reducible repeat (first | refine blk_drewN ?_ _ | refine blk_drew ?_ | refine blk_alloc ?_ _)); refine blk_far ?_ NB481_490.out _; (with_reducible repeat (first | refine blk_drewN ?_ _ | refine blk_drew ?_ | refine blk_alloc ?_ _)); refine blk_far ?_ NB481_490.out _; (with_reducible repeat (first | refine blk_drewN ?_ _ | refine blk_drew ?_ | refine blk_alloc ?_ _)); exact BK481.out⟩, ⟨hb3_ HB.out GE481.out GE486.out GE490.out⟩⟩
                          · replace c25 := Bool.eq_false_iff.mpr c25
                            subst c25
                            have H1 : (impl_NextOwn.l1 k3 a1 a2 (wrap64 (Int.tdiv (ji14) t484)) x10_2 l0_2 (l0_2.length : Int) (wrap64 (x41_3 + 1)) a0_0 a0_1 l0_2) = some (r1, r2, r3) := by rw [if_neg (show ¬ (false = true) by decide)] at H; exact H
                            clear H
                            have H := H1
                            clear H1
                            have H' := Aside0.mk H
                            clear H
                            have p485 : 0 ≤ (x41_3 : Int) := of_decide_eq_true (by first | (with_reducible assumption) | assumption)
                            have q485 : x41_3 < (l0_2.length : Int) := of_decide_eq_true (by first | (with_reducible assumption) | assumption)
                            obtain ⟨ad485, e485, hx485_0, hx485_1⟩ := at_T60 HR0_2.out x41_3 p485 q485
                            cases e485
                            replace hx485_0 := (HB.out.cell (World.block_lt_of_cell? w _ hx485_0)).trans hx485_0
                            replace hx485_1 := (HB.out.cell (World.block_lt_of_cell? w _ hx485_1)).trans hx485_1
                            replace p485 := eq_true p485
                            replace q485 := eq_true q485
                            go_wp2_with (first | ((with_reducible refine gate_dst (N := 12) rfl ?_); refine box_event ?hg (N := 12) ?hd (cs := #[.int .i64 0, .int .i64 0]) (t := 60) ?hr ?_; (case hd => rfl); (case hg => rfl); (case hr => first | (go_simp; done) | (go_simp; rfl)); intro gb486 hg w60 hbox hb; have n0_ := Aside0.mk (bb_ BK481.out hb); have n1_ := Aside0.mk (below_step (hb1_ HB.out GE481.out) hb); have n2_ := Aside0.mk (hbox); have n3_ := Aside0.mk ((by rw [hg]; exact (below_size (hb1_ HB.out GE481.out)) : w.heap.size ≤ gb486)); have n4_ := Aside0.mk ((by rw [hg]; exact (below_size (hb1_ HB.out GE481.out)) : w.heap.size ≤ gb486)); have n5_ := Aside0.mk ((bl_ hg BK481.out : gb481 ≠ gb486)); have n6_ := Aside0.mk ((bg_ hg BK481.out : gb486 ≠ gb481)); clear BK481; clear HB; have BK481 := n0_; have HB := n1_; have BK486 := n2_; have GW486 := n3_; have GE486 := n4_; have NB481_486 := n5_; have NB486_481 := n6_; clear n0_ n1_ n2_ n3_ n4_ n5_ n6_; clear hb hbox hg; have hnb61 := NB486_481.out; have hnc61 := NB481_486.out; have hcz62_0 := bc_ BK486.out 0 (.int .i64 0) rfl; have hcz62_1 := bc_ BK486.out 1 (.int .i64 0) rfl; have hfz62_0 := blk_frozen BK486.out 0; have hfz62_1 := blk_frozen BK486.out 1; have hcz63_0 := bc_ BK481.out 0 (.int .i64 a0_0) rfl; have hcz63_1 := bc_ BK481.out 1 (.int .i64 a0_1) rfl; have hcz63_2 : w60.cell? ⟨gb481, 2, none⟩ = some (.slice (some ad485) l0_2.length c0_2) := (blk_cell BK481.out 2).trans rfl; have hfz63_0 := blk_frozen BK481.out 0; have hfz63_1 := blk_frozen BK481.out 1; have hfz63_2 := blk_frozen BK481.out 2) | ((with_reducible refine gate_callee (f := 25) rfl ?_); refine goesL_ (some 50) rfl rfl Try.func25 (by kernel_rfl) rfl #[.agg #[.int .i64 a0_0, .int .i64 a0_1, .slice (some ad485) l0_2.length c0_2], .int .i64 x41_3, .int .i64 x10_2] rfl arr_ ?_; (with_reducible refine (impl_Occurrence.calls k3 a0_0 a0_1 _ _ l0_2 x41_3 x10_2 t487 t488 false _ ?side1 ?side2 A24.out).mono ?_); (case side1 => exact Kd.C_below HR0_2.out (hb2_ HB.out GE481.out GE486.out)); (case side2 => exact HC0_2.out); rintro e w64 ⟨rfl, hb⟩; refine ⟨_, rfl, ?_⟩; have n0_ := Aside0.mk (blk_below (g := gb481) (o := .cells #[.int .i64 a0_0, .int .i64 a0_1, .slice (some ad485) l0_2.length c0_2] 29 (0, 0)) (by (with_reducible repeat (first | refine blk_drewN ?_ _ | refine blk_drew ?_ | refine blk_alloc ?_ _)); refine blk_far ?_ NB481_486.out _; (with_reducible repeat (first | refine blk_drewN ?_ _ | refine blk_drew ?_ | refine blk_alloc ?_ _)); refine blk_far ?_ NB481_486.out _; (with_reducible repeat (first | refine blk_drewN ?_ _ | refine blk_drew ?_ | refine blk_alloc ?_ _)); exact BK481.out) hb); have n1_ := Aside0.mk (blk_below (g := gb486) (o := .cells #[.int .i64 ((rd_T60 l0_2 x41_3).f0), .int .i64 ((rd_T60 l0_2 x41_3).f1)] 60 (0, 0)) (by (with_reducible repeat (first | refine blk_drewN ?_ _ | refine blk_drew ?_ | refine blk_alloc ?_ _)); refine blk_put (cs := #[.int .i64 ((rd_T60 l0_2 x41_3).f0), .int .i64 0]) ?_ 1 _ rfl; (with_reducible repeat (first | refine blk_drewN ?_ _ | refine blk_drew ?_ | refine blk_alloc ?_ _)); refine blk_put (cs := #[.int .i64 0, .int .i64 0]) ?_ 0 _ rfl; (with_reducible repeat (first | refine blk_drewN ?_ _ | refine blk_drew ?_ | refine blk_alloc ?_ _)); exact BK486.out) hb); have n2_ := Aside0.mk (below_step (hb2_ HB.out GE481.out GE486.out) hb); clear BK481; clear BK486; clear HB; have BK481 := n0_; have BK486 := n1_; have HB := n2_; clear n0_ n1_ n2_; (try clear hb); (try clear hb2); (try clear hk); (try clear hi)) | ((with_reducible refine gate_dst (N := 13) rfl ?_); refine box_event ?hg (N := 13) ?hd (cs := #[.int .i64 0, .int .i64 0]) (t := 40) ?hr ?_; (case hd => rfl); (case hg => rfl); (case hr => first | (go_simp; done) | (go_simp; rfl)); intro gb490 hg w65 hbox hb; have n0_ := Aside0.mk (bb_ BK481.out hb); have n1_ := Aside0.mk (bb_ BK486.out hb); have n2_ := Aside0.mk (below_step (hb2_ HB.out GE481.out GE486.out) hb); have n3_ := Aside0.mk (hbox); have n4_ := Aside0.mk ((by rw [hg]; exact (below_size (hb2_ HB.out GE481.out GE486.out)) : w.heap.size ≤ gb490)); have n5_ := Aside0.mk ((by rw [hg]; exact (below_size (hb2_ HB.out GE481.out GE486.out)) : w.heap.size ≤ gb490)); have n6_ := Aside0.mk ((bl_ hg BK481.out : gb481 ≠ gb490)); have n7_ := Aside0.mk ((bg_ hg BK481.out : gb490 ≠ gb481)); have n8_ := Aside0.mk ((bl_ hg BK486.out : gb486 ≠ gb490)); have n9_ := Aside0.mk ((bg_ hg BK486.out : gb490 ≠ gb486)); clear BK481; clear BK486; clear HB; have BK481 := n0_; have BK486 := n1_; have HB := n2_; have BK490 := n3_; have GW490 := n4_; have GE490 := n5_; have NB481_490 := n6_; have NB490_481 := n7_; have NB486_490 := n8_; have NB490_486 := n9_; clear n0_ n1_ n2_ n3_ n4_ n5_ n6_ n7_ n8_ n9_; clear hb hbox hg; have hnb66 := NB490_481.out; have hnc66 := NB481_490.out; have hnb67 := NB490_486.out; have hnc67 := NB486_490.out; have hcz68_0 := bc_ BK490.out 0 (.int .i64 0) rfl; have hcz68_1 := bc_ BK490.out 1 (.int .i64 0) rfl; have hfz68_0 := blk_frozen BK490.out 0; have hfz68_1 := blk_frozen BK490.out 1))
                            go_roundg k3
                            case measure => have := HJ3.out; have := HK2.out; have := HK3.out; omega
                            case rel => exact ⟨(wrap64 (x41_3 + 1)), (by first | rfl | (simp; done) | (simp [*]; done)), H', ⟨by have := HJ3.out; have := HK2.out; have := HK3.out; omega⟩, ⟨by (with_reducible repeat (first | refine blk_drewN ?_ _ | refine blk_drew ?_ | refine blk_alloc ?_ _)); refine blk_far ?_ NB481_490.out _; (with_reducible repeat (first | refine blk_drewN ?_ _ | refine blk_drew ?_ | refine blk_alloc ?_ _)); refine blk_far ?_ NB481_490.out _; (with_reducible repeat (first | refine blk_drewN ?_ _ | refine blk_drew ?_ | refine blk_alloc ?_ _)); exact BK481.out⟩, ⟨hb3_ HB.out GE481.out GE486.out GE490.out⟩⟩
                        · rw [if_neg c23] at H
                          exact absurd H (by simp)
                      · rw [if_neg c22] at H
                        exact absurd H (by simp)
                    · rw [if_neg c21] at H
                      have c21b0 : decide (x41_3 < (l0_2.length : Int)) = false := decide_eq_false c21
                      clear c21
                      have H' := Aside0.mk H
                      clear H
                      go_wp2
                      go_roundg k3
                      case measure => have := HJ3.out; have := HK2.out; have := HK3.out; omega
                      case rel => exact ⟨(wrap64 (x10_2 + 1)), (by first | rfl | (simp; done) | (simp [*]; done)), H', ⟨by have := HJ3.out; have := HK2.out; have := HK3.out; omega⟩, ⟨bk_ BK481.out⟩, ⟨hb1_ HB.out GE481.out⟩⟩
              · rw [if_neg c19] at H
                have c19b0 : decide (x10_2 ≤ (wrap64 ((wrap64 (Int.tdiv (ji14) t484)) + 1))) = false := decide_eq_false c19
                clear c19
                simp only [Option.some.injEq, Prod.mk.injEq] at H
                obtain ⟨rfl, rfl, rfl⟩ := H
                go_wp2
                go_ret3
                exact ⟨by first | rfl | (simp [errW_none, errW_some] <;> rfl) | (simp only [← hji14]; first | rfl | (simp [errW_none, errW_some] <;> rfl)) | (simp [*, errW_none, errW_some] <;> rfl), hb1_ HB.out GE481.out⟩
end Go.Proofs.Ytakcaiigkdglhaa.P

namespace Go.Proofs.Ytakcaiigkdglhaa.C
open Go.RowKit Go.Proofs.Ytakcaiigkdglhaa.P Go.Proofs.Ytakcaiigkdglhaa.G Go.Proofs.YtakcaiigkdglhaaW.PrintMore
def inS (gap : Int) (l : List Sl) (left : Int) (i : Nat) : Bool := decide (upto gap l i ≤ left) && decide (left < upto gap l (i + 1) - gap)
theorem inS_iff {gap : Int} {l : List Sl} {left : Int} {i : Nat} (hi : i < l.length) : inS gap l left i = true ↔ upto gap l i ≤ left ∧ left < upto gap l i + l[i].f1 := by
  unfold inS; rw [upto_succ gap l i hi]; simp; omega
theorem inS_one {st gap : Int} {l : List Sl} (h : planOk st gap l = true) {left : Int} {i j : Nat} (hi : i < l.length) (hj : j < l.length) (h1 : inS gap l left i = true) (h2 : inS gap l left j = true) : i = j := by
  rw [inS_iff hi] at h1; rw [inS_iff hj] at h2
  rcases Nat.lt_trichotomy i j with c | c | c
  · have := upto_mono h i j c (by omega); rw [planOk_iff] at h; omega
  · exact c
  · have := upto_mono h j i c (by omega); rw [planOk_iff] at h; omega
def slotAtQ (st gap : Int) (l : List Sl) (t : Int) : Int × Int × Bool :=
  found (inS gap l ((t - st) % round gap l)) (fun i => if (occ st gap l i ((t - st) / round gap l)).2.2 = true then ((i : Int), (t - st) / round gap l, true) else (0, 0, false)) (0, 0, false) (List.range l.length)
def slotAt (st gap : Int) (l : List Sl) (t : Int) : Int × Int × Bool := if (planOk st gap l && timeOk t && decide (st ≤ t)) = true then slotAtQ st gap l t else (0, 0, false)
theorem when_q {st gap : Int} {l : List Sl} (h : planOk st gap l = true) {t : Int} (ht : 0 ≤ t ∧ t ≤ 1000000000000) (hs : st ≤ t) :
    0 ≤ (t - st) / round gap l ∧ (t - st) / round gap l ≤ 1000000000000 / round gap l ∧ (t - st) / round gap l ≤ 1000000000000 ∧ 0 ≤ (t - st) % round gap l ∧ (t - st) % round gap l < round gap l ∧ (t - st) / round gap l * round gap l + (t - st) % round gap l = t - st := by
  have hr := round_bd h
  rw [planOk_iff] at h
  have h1 := Int.mul_ediv_add_emod (t - st) (round gap l)
  rw [Int.mul_comm] at h1
  refine ⟨Int.ediv_nonneg (by omega) (by omega), Int.ediv_le_ediv (by omega) (by omega), ?_, Int.emod_nonneg _ (by omega), Int.emod_lt_of_pos _ (by omega), h1⟩
  have := Int.ediv_le_self (round gap l) (show 0 ≤ t - st by omega); omega
theorem occ_eq {st gap : Int} {l : List Sl} {i : Nat} (hi : i < l.length) {q : Int} (hq : 0 ≤ q ∧ q ≤ 1000000000000 / round gap l) : occ st gap l i q = ivalT (st + q * round gap l + upto gap l i) (st + q * round gap l + upto gap l i + l[i].f1) := by
  unfold occ; rw [if_pos hq, List.getElem?_eq_getElem hi]
theorem ivalT_ok {a b : Int} (h : (ivalT a b).2.2 = true) : ivalT a b = (a, b, true) ∧ ivalOk a b = true := by
  unfold ivalT at h ⊢
  cases hv : ivalOk a b with
  | true => exact ⟨rfl, rfl⟩
  | false => rw [hv] at h; simp at h
theorem occ_in {st gap : Int} {l : List Sl} (h : planOk st gap l = true) {t : Int} (ht : 0 ≤ t ∧ t ≤ 1000000000000) (hs : st ≤ t) (i : Nat) (hi : i < l.length) (ho : (occ st gap l i ((t - st) / round gap l)).2.2 = true) :
    ((occ st gap l i ((t - st) / round gap l)).1 ≤ t ∧ t < (occ st gap l i ((t - st) / round gap l)).2.1) ↔ inS gap l ((t - st) % round gap l) i = true := by
  have hq := when_q h ht hs
  rw [inS_iff hi]
  rw [occ_eq hi ⟨hq.1, hq.2.1⟩] at ho ⊢
  rw [(ivalT_ok ho).1]
  simp only
  omega
theorem iSlotAtQ {st gap : Int} {l : List Sl} (h : planOk st gap l = true) {t : Int} (ht : 0 ≤ t ∧ t ≤ 1000000000000) (hs : st ≤ t) (k : Nat) (hk : 60 ≤ k) : impl_SlotAt.j0 k t false st gap l = some (slotAtQ st gap l t) := by
  obtain ⟨k, rfl⟩ : ∃ j, k = j + 1 := ⟨k - 1, by omega⟩
  have hr := round_bd h
  have hq := when_q h ht hs
  have h' := h
  rw [planOk_iff] at h'
  simp only [impl_SlotAt.j0]
  rw [if_neg (by decide), iRound h _ (by omega)]
  simp only [Option.bind_some]
  rw [if_neg (by omega), wrap_id (x := t - st) (by omega) (by omega), Int.tdiv_eq_ediv_of_nonneg (by omega), Int.tmod_eq_emod_of_nonneg (by omega), wrap_id (by omega) (by omega)]
  rw [if_neg (by omega)]
  unfold slotAtQ
  refine find_loop0 (n := l.length) (c := 35) (L := fun k i => impl_SlotAt.l0 k ((t - st) / round gap l) ((t - st) % round gap l) l (l.length : Int) i st gap l) (fun k i hi hk => ?_) (fun k => ?_) k (by omega)
  · simp only [impl_SlotAt.l0]
    have hb := upto_bd h i (by omega)
    have hsl := slotsOk_get h'.2.2.2 i hi
    rw [if_pos (by omega), if_pos (by omega), if_pos (by omega), wrap_succ hi (by omega), rdSl l i hi, iFrom h i (by omega) _ (by omega)]
    simp only [Option.bind_some, in_]
    rw [wrap_id (x := upto gap l i + l[i].f1) (by omega) (by omega), wrap_id (x := upto gap l i + l[i].f1 - 1) (by omega) (by omega), iOcc h i hi _ _ (by omega)]
    simp only [Option.bind_some]
    cases hc : inS gap l ((t - st) % round gap l) i with
    | true =>
      have := (inS_iff hi).1 hc
      rw [decide_eq_true (by omega), if_pos rfl, if_pos rfl]
      split <;> rfl
    | false =>
      have : ¬ (upto gap l i ≤ (t - st) % round gap l ∧ (t - st) % round gap l < upto gap l i + l[i].f1) := by rw [← inS_iff hi, hc]; simp
      rw [decide_eq_false (by omega), if_neg (by decide), if_neg (by decide)]
  · simp only [impl_SlotAt.l0]
    rw [if_neg (by omega)]
theorem sSlotAtQ {st gap : Int} {l : List Sl} (h : planOk st gap l = true) {t : Int} (ht : 0 ≤ t ∧ t ≤ 1000000000000) (hs : st ≤ t) (k : Nat) (hk : 60 ≤ k) : spec_SlotAt.j0 k t false st gap l = some (slotAtQ st gap l t) := by
  obtain ⟨k, rfl⟩ : ∃ j, k = j + 1 := ⟨k - 1, by omega⟩
  have hr := round_bd h
  have hq := when_q h ht hs
  have h' := h
  rw [planOk_iff] at h'
  simp only [spec_SlotAt.j0]
  rw [if_neg (by decide), sRoundOf' h _ (by omega)]
  simp only [Option.bind_some]
  rw [if_neg (by omega), wrap_id (x := t - st) (by omega) (by omega), Int.tdiv_eq_ediv_of_nonneg (by omega), wrap_id (by omega) (by omega)]
  have hL := find_loop0 (n := l.length) (c := 35) (L := fun k i => spec_SlotAt.l0 k t ((t - st) / round gap l) i st gap l) (Q := fun i => (occ st gap l i ((t - st) / round gap l)).2.2 && inS gap l ((t - st) % round gap l) i) (r := fun i => ((i : Int), (t - st) / round gap l, true)) (e := (0, 0, false)) (fun k i hi hk => ?_) (fun k => ?_) k (by omega)
  · rw [hL]
    congr 1
    unfold slotAtQ
    rcases first_of (Q := inS gap l ((t - st) % round gap l)) l.length with ⟨j, h1, h2, h3⟩ | h1
    · rw [found_some h1 h2 h3]
      cases ho : (occ st gap l j ((t - st) / round gap l)).2.2 with
      | true =>
        rw [if_pos rfl]
        refine found_some h1 (by rw [ho, h2]; rfl) (fun i hi => by rw [h3 i hi]; simp)
      | false =>
        rw [if_neg (by decide)]
        refine found_none (fun i hi => ?_)
        cases hc : inS gap l ((t - st) % round gap l) i with
        | false => simp
        | true => obtain rfl := inS_one h hi h1 hc h2; rw [ho]; rfl
    · rw [found_none h1]
      refine found_none (fun i hi => by rw [h1 i hi]; simp)
  · simp only [spec_SlotAt.l0]
    rw [if_pos (by omega), wrap_succ hi (by omega), sOcc h i hi _ _ (by omega)]
    simp only [Option.bind_some]
    cases ho : (occ st gap l i ((t - st) / round gap l)).2.2 with
    | false => simp
    | true =>
      have hio := occ_in h ht hs i hi ho
      rw [if_pos rfl, Bool.true_and]
      cases hc : inS gap l ((t - st) % round gap l) i with
      | true =>
        have := hio.2 hc
        rw [if_pos this.1, if_pos this.2, if_pos rfl]
      | false =>
        rw [hc] at hio
        by_cases hx : (occ st gap l i ((t - st) / round gap l)).1 ≤ t
        · rw [if_pos hx, if_neg (fun hy => by have := hio.1 ⟨hx, hy⟩; cases this), if_neg (by decide)]
        · rw [if_neg hx, if_neg (by decide)]
  · simp only [spec_SlotAt.l0]
    rw [if_neg (by omega)]
theorem iSlotAt (st gap : Int) (l : List Sl) (hl : l.length ≤ 1048576) (t : Int) (k : Nat) (hk : 1050000 ≤ k) : impl_SlotAt.f k st gap l t = some (slotAt st gap l t) := by
  have hj : ∀ k, 1 ≤ k → impl_SlotAt.j0 k t true st gap l = some (0, 0, false) := fun k hk => by
    obtain ⟨k, rfl⟩ : ∃ j, k = j + 1 := ⟨k - 1, by omega⟩
    simp only [impl_SlotAt.j0]; rfl
  unfold impl_SlotAt.f slotAt
  rw [iPlanOk st gap l hl k (by omega), isTime]
  simp only [Option.bind_some]
  change (if planOk st gap l = true then (if timeOk t = true then _ else _) else _) = _
  cases h : planOk st gap l with
  | false => rw [hj k (by omega)]; rfl
  | true =>
    cases h2 : timeOk t with
    | false => rw [hj k (by omega)]; rfl
    | true =>
      rw [timeOk_iff] at h2
      by_cases h3 : t < st
      · rw [decide_eq_true h3, hj k (by omega), decide_eq_false (by omega)]; rfl
      · rw [decide_eq_false h3, iSlotAtQ h h2 (by omega) k (by omega), decide_eq_true (by omega)]; rfl
theorem sSlotAt (st gap : Int) (l : List Sl) (hl : l.length ≤ 1048576) (t : Int) (k : Nat) (hk : 1050000 ≤ k) : spec_SlotAt.f k st gap l t = some (slotAt st gap l t) := by
  have hj : ∀ k, 1 ≤ k → spec_SlotAt.j0 k t true st gap l = some (0, 0, false) := fun k hk => by
    obtain ⟨k, rfl⟩ : ∃ j, k = j + 1 := ⟨k - 1, by omega⟩
    simp only [spec_SlotAt.j0]; rfl
  unfold spec_SlotAt.f slotAt
  rw [sPlanOk st gap l hl k (by omega), l2Time]
  simp only [Option.bind_some]
  change (if planOk st gap l = true then (if timeOk t = true then _ else _) else _) = _
  cases h : planOk st gap l with
  | false => rw [hj k (by omega)]; rfl
  | true =>
    cases h2 : timeOk t with
    | false => rw [hj k (by omega)]; rfl
    | true =>
      rw [timeOk_iff] at h2
      by_cases h3 : t < st
      · rw [decide_eq_true h3, hj k (by omega), decide_eq_false (by omega)]; rfl
      · rw [decide_eq_false h3, sSlotAtQ h h2 (by omega) k (by omega), decide_eq_true (by omega)]; rfl
theorem slotAt_in {st gap : Int} {l : List Sl} {t : Int} (h : (slotAt st gap l t).2.2 = true) : ∃ i : Nat, i < l.length ∧ (slotAt st gap l t).1 = (i : Int) ∧ planOk st gap l = true ∧ timeOk t = true ∧ st ≤ t ∧ (slotAt st gap l t).2.1 = (t - st) / round gap l ∧ inS gap l ((t - st) % round gap l) i = true ∧ (occ st gap l i ((t - st) / round gap l)).2.2 = true := by
  unfold slotAt at h ⊢
  split at h
  · rename_i hc
    rw [if_pos hc]
    simp only [Bool.and_eq_true, decide_eq_true_eq] at hc
    unfold slotAtQ at h ⊢
    rcases first_of (Q := inS gap l ((t - st) % round gap l)) l.length with ⟨j, h1, h2, h3⟩ | h1
    · rw [found_some h1 h2 h3] at h ⊢
      split at h
      · rename_i ho
        rw [if_pos ho]
        exact ⟨j, h1, rfl, hc.1.1, hc.1.2, hc.2, rfl, h2, ho⟩
      · simp at h
    · rw [found_none h1] at h; simp at h
  · simp at h
def inSlot (st gap : Int) (l : List Sl) (owner a b : Int) : Int × Int × Bool :=
  if (slotAt st gap l a).2.2 = true ∧ (match l[(slotAt st gap l a).1.toNat]? with | some x => x.f0 | none => -1) = owner ∧ a ≤ b ∧ b ≤ (occurrence st gap l (slotAt st gap l a).1 (slotAt st gap l a).2.1).2.1
  then ((slotAt st gap l a).1, (slotAt st gap l a).2.1, true) else (0, 0, false)
theorem sInSlot (st gap : Int) (l : List Sl) (hl : l.length ≤ 1048576) (owner a b : Int) (k : Nat) (hk : 1050200 ≤ k) : spec_InSlot.f k st gap l owner a b = some (inSlot st gap l owner a b) := by
  obtain ⟨k, rfl⟩ : ∃ j, k = j + 1 := ⟨k - 1, by omega⟩
  unfold spec_InSlot.f inSlot
  rw [sSlotAt st gap l hl a _ (by omega)]
  simp only [Option.bind_some, spec_InSlot.j0]
  rw [sOccurrence st gap l hl _ _ _ (by omega)]
  simp only [Option.bind_some, if_true]
  cases h : (slotAt st gap l a).2.2 with
  | false => simp
  | true =>
    obtain ⟨i, hi, e, _⟩ := slotAt_in h
    rw [if_pos rfl, e, if_pos (by omega), if_pos (by omega), rdSl l i hi]
    have e2 : ((i : Int)).toNat = i := by omega
    rw [e2, List.getElem?_eq_getElem hi]
    simp only
    by_cases h1 : l[i].f0 = owner
    · rw [if_pos h1]
      by_cases h2 : a > b
      · rw [decide_eq_true h2, if_pos rfl, if_neg (by omega)]
      · rw [decide_eq_false h2, if_neg (by decide)]
        by_cases h3 : b > (occurrence st gap l (i : Int) (slotAt st gap l a).2.1).2.1
        · rw [if_pos h3, if_neg (by omega)]
        · rw [if_neg h3, if_pos ⟨trivial, h1, by omega, by omega⟩]
    · rw [if_neg h1, if_neg (fun hx => h1 hx.2.1)]
theorem iInSlot (st gap : Int) (l : List Sl) (hl : l.length ≤ 1048576) (owner a b : Int) (k : Nat) (hk : 1050200 ≤ k) : impl_InSlot.f k st gap l owner a b = some (inSlot st gap l owner a b) := by
  obtain ⟨k, rfl⟩ : ∃ j, k = j + 1 := ⟨k - 1, by omega⟩
  unfold impl_InSlot.f inSlot
  rw [iSlotAt st gap l hl a _ (by omega)]
  simp only [Option.bind_some, impl_InSlot.j0]
  rw [iOccurrence st gap l hl _ _ _ (by omega)]
  simp only [Option.bind_some, if_true]
  cases h : (slotAt st gap l a).2.2 with
  | false => simp
  | true =>
    obtain ⟨i, hi, e, _⟩ := slotAt_in h
    rw [if_pos rfl, e, if_pos (by omega), if_pos (by omega), rdSl l i hi]
    have e2 : ((i : Int)).toNat = i := by omega
    rw [e2, List.getElem?_eq_getElem hi]
    simp only
    by_cases h1 : l[i].f0 = owner
    · rw [if_pos h1]
      by_cases h2 : a > b
      · rw [decide_eq_true h2, if_pos rfl, if_neg (by omega)]
      · rw [decide_eq_false h2, if_neg (by decide)]
        by_cases h3 : b > (occurrence st gap l (i : Int) (slotAt st gap l a).2.1).2.1
        · rw [if_pos h3, if_neg (by omega)]
        · rw [if_neg h3, if_pos ⟨trivial, h1, by omega, by omega⟩]
    · rw [if_neg h1, if_neg (fun hx => h1 hx.2.1)]
end Go.Proofs.Ytakcaiigkdglhaa.C
namespace Go.Proofs.Ytakcaiigkdglhaa.V
open Go.RowKit Go.Proofs.Ytakcaiigkdglhaa.P Go.Proofs.Ytakcaiigkdglhaa.C Go.Proofs.Ytakcaiigkdglhaa.G
theorem FnExactSlotAt : ∀ (a0_0 : Int) (a0_1 : Int) (l0_2 : List (SlL)) (a1 : Int), (Lit.int .i64 a0_0).wf = true → (Lit.int .i64 a0_1).wf = true → (l0_2.length ≤ 9223372036854775807 ∧ ∀ y ∈ l0_2, ((Lit.int .i64 y.f0).wf = true ∧ (Lit.int .i64 y.f1).wf = true)) → (Lit.int .i64 a1).wf = true → ∃ k, laws_FnExactSlotAt.f k a0_0 a0_1 l0_2 a1 = some true := by
  intro a b l a1 wa wb hl0 w1
  obtain ⟨hl, _⟩ := hl0
  refine ⟨2000000, ?_⟩
  unfold laws_FnExactSlotAt.f
  rcases szPlan a b l hl 1048576 (by omega) with h | ⟨h, hs⟩
  · rw [h]; simp
  rw [h]
  simp only [Option.bind_some]
  rw [if_neg (by omega)]
  have hm : (l.map toSl).length = l.length := by simp
  rw [toPlan a b l (by omega) _ (by omega)]
  simp only [Option.bind_some]
  have hj : ∀ k, 1999000 ≤ k → laws_FnExactSlotAt.j0 k false a b l a b (l.map toSl) = some true := by
    intro k hk
    obtain ⟨k, rfl⟩ : ∃ j, k = j + 1 := ⟨k - 1, by omega⟩
    simp only [laws_FnExactSlotAt.j0]
    rw [if_neg (by decide), toPlan a b l (by omega) _ (by omega)]
    simp only [Option.bind_some]
    rw [eqPlan _ _ _ (by omega) _ (by omega)]
    rfl
  rw [sSlotAt _ _ _ (by omega) _ _ (by omega), iSlotAt _ _ _ (by omega) _ _ (by omega)]
  simp only [Option.bind_some, if_true, bne_self_eq_false]
  exact hj _ (by omega)
end Go.Proofs.Ytakcaiigkdglhaa.V
