/- Texts of the seat's proofs, part 9: functions of the program told as plain functions, with their contracts, and what is shown of them. No condition. -/
import Derived.Test.YtejohmompmjhnaaUKFEGW
import Derived.Test.YtejohmompmjhnaaKFEGW1
import Derived.Test.YtejohmompmjhnaaKFEGW2
import Derived.Test.YtejohmompmjhnaaKFEGW8
import Derived.Test.YtejohmompmjhnaaKFEGW4
import Derived.Test.YtejohmompmjhnaaKFEGW3
import Derived.Test.YtejohmompmjhnaaKFEGW6
import Derived.Test.YtejohmompmjhnaaKFEGW7
import Derived.Deep.Slices
import Derived.ProofKit
import Derived.OpenShut
set_option linter.unusedVariables false
set_option linter.unusedSimpArgs false
namespace Go.Proofs.Ytejohmompmjhnaa.P
open Go.RowKit Go.Proofs.YtejohmompmjhnaaW.PrintWords Go.Proofs.YtejohmompmjhnaaW.PrintLast Go.Proofs.YtejohmompmjhnaaW.PrintMore
attribute [local go_sem] max2_int min2_int max_two min_two max_three min_three max_four min_four
set_option linter.unusedVariables false
set_option linter.unusedSimpArgs false
def spec_GateBudget.l0 : Nat → Int → Int → Int → Int → Int → Int → List (S55) → Int → Int → Option (Int × Bool)
  | 0, _, _, _, _, _, _, _, _, _ => none
  | k + 1, x1, x3, x10, x11, x366000, x366001, x366002, x367000, x367001 => if x11 < (x366002.length : Int) then (if 0 ≤ x11 then (if ((rd_T55 x366002 x11).f0) = x1 then ((spec_l1Max.f x10 ((rd_T55 x366002 x11).f1)).bind fun t370 => (spec_GateBudget.l0 k x1 x3 t370 (wrap64 (x11 + 1)) x366000 x366001 x366002 x367000 x367001)) else (spec_GateBudget.l0 k x1 x3 x10 (wrap64 (x11 + 1)) x366000 x366001 x366002 x367000 x367001)) else (none)) else ((spec_MostTime.f k x367000 x367001 x3).bind fun bt371 => (if x10 = 0 then (some (0, false)) else (if x3 < 1 then (some (0, false)) else (if bt371.2 = true then (if x10 < bt371.1 then (some (0, false)) else (some (wrap64 (x10 - bt371.1), true))) else (some (0, false))))))
def spec_GateBudget.f (k : Nat) (a0_0 : Int) (a0_1 : Int) (l0_2 : List (S55)) (a1 : Int) (a2_0 : Int) (a2_1 : Int) (a3 : Int) : Option (Int × Bool) := (spec_PlanOk.f k a0_0 a0_1 l0_2).bind fun t367 => (if t367 = true then (spec_GateBudget.l0 k a1 a3 0 0 a0_0 a0_1 l0_2 a2_0 a2_1) else (some (0, false)))
theorem spec_GateBudget.mono_l : ∀ k, (∀ y0 y1 y2 y3 y4 y5 y6 y7 y8, LeO (spec_GateBudget.l0 k y0 y1 y2 y3 y4 y5 y6 y7 y8) (spec_GateBudget.l0 (k + 1) y0 y1 y2 y3 y4 y5 y6 y7 y8))
  | 0 => fun _ _ _ _ _ _ _ _ _ r h => by simp [spec_GateBudget.l0] at h
  | k + 1 => by
    have ih0 := spec_GateBudget.mono_l k
    · intro y0 y1 y2 y3 y4 y5 y6 y7 y8
      unfold spec_GateBudget.l0
      repeat' first
      | (with_reducible exact ih0 _ _ _ _ _ _ _ _ _)
      | (with_reducible exact spec_MostTime.mono _ _ _ _)
      | (with_reducible exact spec_PlanOk.mono _ _ _ _)
      | (with_reducible exact LeO.refl _)
      | (with_reducible exact LeO.none _)
      | (with_reducible refine LeO.ite ?_ ?_)
      | (with_reducible refine LeO.bind ?_ (fun _ => ?_))
      | exact ih0 _ _ _ _ _ _ _ _ _
      | exact spec_MostTime.mono _ _ _ _
      | exact spec_PlanOk.mono _ _ _ _
      | exact LeO.none _
      | refine LeO.ite ?_ ?_
      | refine LeO.bind ?_ (fun _ => ?_)
theorem spec_GateBudget.mono : ∀ a0 a1 a2 a3 a4 a5 a6 k, LeO (spec_GateBudget.f k a0 a1 a2 a3 a4 a5 a6) (spec_GateBudget.f (k + 1) a0 a1 a2 a3 a4 a5 a6) := by
  intro a0 a1 a2 a3 a4 a5 a6 k
  have ih0 := spec_GateBudget.mono_l k
  unfold spec_GateBudget.f
  repeat' first
      | (with_reducible exact ih0 _ _ _ _ _ _ _ _ _)
      | (with_reducible exact spec_MostTime.mono _ _ _ _)
      | (with_reducible exact spec_PlanOk.mono _ _ _ _)
      | (with_reducible exact LeO.refl _)
      | (with_reducible exact LeO.none _)
      | (with_reducible refine LeO.ite ?_ ?_)
      | (with_reducible refine LeO.bind ?_ (fun _ => ?_))
      | exact ih0 _ _ _ _ _ _ _ _ _
      | exact spec_MostTime.mono _ _ _ _
      | exact spec_PlanOk.mono _ _ _ _
      | exact LeO.none _
      | refine LeO.ite ?_ ?_
      | refine LeO.bind ?_ (fun _ => ?_)
set_option maxHeartbeats 8000000 in
set_option maxRecDepth 100000 in
theorem spec_GateBudget.calls (k : Nat) (a0_0 : Int) (a0_1 : Int) (A0_2 : Option Addr) (c0_2 : Nat) (l0_2 : List (S55)) (a1 : Int) (a2_0 : Int) (a2_1 : Int) (a3 : Int) (r1 : Int) (r2 : Bool) (w : World) (hr0_2 : Kd.C k55 w A0_2 l0_2.length l0_2) (hc0_2 : l0_2.length ≤ c0_2) (h : spec_GateBudget.f k a0_0 a0_1 l0_2 a1 a2_0 a2_1 a3 = some (r1, r2)) :
    Calls Try.prog 16 #[.agg #[.int .i64 a0_0, .int .i64 a0_1, .slice A0_2 l0_2.length c0_2], .int .i64 a1, .agg #[.int .i64 a2_0, .int .i64 a2_1], .int .i64 a3] w fun e w' => e = .returned (.tuple #[.int .i64 r1, .bool r2]) ∧ Below w.heap.size w w' := by
  have hu38 := Try.underlying38
  have hu34 := Try.underlying34
  have HR0_2 := Aside0.mk hr0_2
  have HC0_2 := Aside0.mk hc0_2
  clear hr0_2 hc0_2
  have HB := am_ (Below.refl w.heap.size w)
  have H : ((spec_PlanOk.f k a0_0 a0_1 l0_2).bind fun t367 => (if t367 = true then (spec_GateBudget.l0 k a1 a3 0 0 a0_0 a0_1 l0_2 a2_0 a2_1) else (some (0, false)))) = some (r1, r2) := h
  clear h
  replace H := Option.bind_eq_some_iff.mp H
  obtain ⟨t367, A50, H⟩ := H
  replace H : (if t367 = true then (spec_GateBudget.l0 k a1 a3 0 0 a0_0 a0_1 l0_2 a2_0 a2_1) else (some (0, false))) = some (r1, r2) := H
  have A5 := Aside0.mk A50
  clear A50
  by_cases c6 : t367 = true
  · subst c6
    have H1 : (spec_GateBudget.l0 k a1 a3 0 0 a0_0 a0_1 l0_2 a2_0 a2_1) = some (r1, r2) := by rw [if_pos rfl] at H; exact H
    clear H
    have H := H1
    clear H1
    have H' := Aside0.mk H
    clear H
    go_enter Try.func16, Try.ntmps16
    go_wp2_with (first | ((with_reducible refine gate_dst (N := 4) rfl ?_); refine box_event ?hg (N := 4) ?hd (cs := #[.int .i64 a0_0, .int .i64 a0_1, .slice A0_2 l0_2.length c0_2]) (t := 38) ?hr ?_; (case hd => rfl); (case hg => rfl); (case hr => first|(go_simp;done)|(go_simp;rfl)); intro gb365 hg w7 hbox hb; have n0_ := am_ (below_step (hb_ HB.out) hb); have n1_ := am_ (hbox); have n2_ := am_ (hy_ hg (hb_ HB.out) : w.heap.size ≤ gb365); have n3_ := am_ (hy_ hg (hb_ HB.out) : w.heap.size ≤ gb365); clear HB; have HB := n0_; have BK365 := n1_; have GW365 := n2_; have GE365 := n3_; clear n0_ n1_ n2_ n3_; clear hb hbox hg) | ((with_reducible refine gate_dst (N := 6) rfl ?_); refine box_event ?hg (N := 6) ?hd (cs := #[.int .i64 a2_0, .int .i64 a2_1]) (t := 34) ?hr ?_; (case hd => rfl); (case hg => rfl); (case hr => first|(go_simp;done)|(go_simp;rfl)); intro gb366 hg w8 hbox hb; have n0_ := am_ (bb_ BK365.out hb); have n1_ := am_ (below_step (hb1_ HB.out GE365.out) hb); have n2_ := am_ (hbox); have n3_ := am_ (hy_ hg (hb1_ HB.out GE365.out) : w.heap.size ≤ gb366); have n4_ := am_ (hy_ hg (hb1_ HB.out GE365.out) : w.heap.size ≤ gb366); have n5_ := am_ ((bl_ hg BK365.out : gb365 ≠ gb366)); have n6_ := am_ ((bg_ hg BK365.out : gb366 ≠ gb365)); clear BK365; clear HB; have BK365 := n0_; have HB := n1_; have BK366 := n2_; have GW366 := n3_; have GE366 := n4_; have NB365_366 := n5_; have NB366_365 := n6_; clear n0_ n1_ n2_ n3_ n4_ n5_ n6_; clear hb hbox hg; have hnb9 := NB365_366.out; have hnc9 := NB366_365.out; have hcz10_0 := bc_ BK365.out 0 (.int .i64 a0_0) rfl; have hcz10_1 := bc_ BK365.out 1 (.int .i64 a0_1) rfl; have hcz10_2 := bc_ BK365.out 2 (.slice A0_2 l0_2.length c0_2) rfl; have hfz10_0 := blk_frozen BK365.out 0; have hfz10_1 := blk_frozen BK365.out 1; have hfz10_2 := blk_frozen BK365.out 2) | ((with_reducible refine gate_callee (f := 39) rfl ?_); refine goesL_ (some 15) rfl rfl Try.func39 (by kernel_rfl) rfl #[.agg #[.int .i64 a0_0, .int .i64 a0_1, .slice A0_2 l0_2.length c0_2]] rfl arr_ ?_; (with_reducible refine (spec_PlanOk.calls k a0_0 a0_1 _ _ l0_2 true _ ?side1 ?side2 A5.out).mono ?_); (case side1 => exact kc_ (Kd.C_below HR0_2.out HB.out)); (case side2 => exact HC0_2.out); rintro e w11 ⟨rfl, hb⟩; refine ⟨_, rfl, ?_⟩; have n0_ := am_ (bb_ BK365.out hb); have n1_ := am_ (bb_ BK366.out hb); have n2_ := am_ (below_step (hb2_ HB.out GE365.out GE366.out) hb); clear BK365; clear BK366; clear HB; have BK365 := n0_; have BK366 := n1_; have HB := n2_; clear n0_ n1_ n2_; (try clear hb); (try clear hb2); (try clear hk); (try clear hi)))
    go_loopg [10, 11] k (fun kq v10 v11 w' => ∃ (x10_1 : Int) (x11_1 : Int), v10 = .int .i64 x10_1 ∧ v11 = .int .i64 x11_1 ∧ Aside0 (spec_GateBudget.l0 kq a1 a3 x10_1 x11_1 a0_0 a0_1 l0_2 a2_0 a2_1 = some (r1, r2)) ∧ Aside0 (kq ≤ k) ∧ Aside0 (w'.heap[gb365]? = some (.cells #[.int .i64 a0_0, .int .i64 a0_1, (.slice A0_2 l0_2.length c0_2)] 38 (0, 0))) ∧ Aside0 (w'.heap[gb366]? = some (.cells #[.int .i64 a2_0, .int .i64 a2_1] 34 (0, 0))) ∧ Aside0 (Below w.heap.size w w'))
    case atStart => exact ⟨(0), (0), (by first | rfl | (simp; done) | (simp [*]; done)), (by first | rfl | (simp; done) | (simp [*]; done)), H', ⟨Nat.le_refl _⟩, ⟨bk_ BK365.out⟩, ⟨bk_ BK366.out⟩, ⟨hb2_ HB.out GE365.out GE366.out⟩⟩
    case round =>
      clear H'
      try clear c1
      try clear p2
      try clear c3
      try clear c6
      try clear c9
      try clear hcz10_0
      try clear hcz10_1
      try clear hcz10_2
      try clear hfz10_0
      try clear hfz10_1
      try clear hfz10_2
      obtain ⟨x10_1, x11_1, rfl, rfl, HA, HK1, BK365, BK366, HB⟩ := hrel
      cases gk with
      | zero => exact absurd HA.out (by simp [spec_GateBudget.l0])
      | succ k1 =>
        have H := HA.out
        clear HA
        simp only [spec_GateBudget.l0] at H
        by_cases c12 : x11_1 < (l0_2.length : Int)
        · rw [if_pos c12] at H
          have c12b0 : decide (x11_1 < (l0_2.length : Int)) = true := decide_eq_true c12
          clear c12
          by_cases c13 : 0 ≤ x11_1
          · rw [if_pos c13] at H
            have c13b0 : decide (0 ≤ x11_1) = true := decide_eq_true c13
            clear c13
            by_cases c14 : ((rd_T55 l0_2 x11_1).f0) = a1
            · rw [if_pos c14] at H
              have c14b0 : (((rd_T55 l0_2 x11_1).f0) == a1) = true := beq_iff_eq.mpr c14
              have c14b1 : (((rd_T55 l0_2 x11_1).f0) != a1) = false := bne_eq_false_iff_eq.mpr c14
              clear c14
              replace H := Option.bind_eq_some_iff.mp H
              obtain ⟨t370, A150, H⟩ := H
              replace H : (spec_GateBudget.l0 k1 a1 a3 t370 (wrap64 (x11_1 + 1)) a0_0 a0_1 l0_2 a2_0 a2_1) = some (r1, r2) := H
              have A15 := Aside0.mk A150
              clear A150
              have H' := Aside0.mk H
              clear H
              have hnb16 := NB365_366.out
              have hnc16 := NB366_365.out
              have hcz17_0 := bc_ BK365.out 0 (.int .i64 a0_0) rfl
              have hcz17_1 := bc_ BK365.out 1 (.int .i64 a0_1) rfl
              have hcz17_2 := bc_ BK365.out 2 (.slice A0_2 l0_2.length c0_2) rfl
              have hfz17_0 := blk_frozen BK365.out 0
              have hfz17_1 := blk_frozen BK365.out 1
              have hfz17_2 := blk_frozen BK365.out 2
              have p368 : 0 ≤ (x11_1 : Int) := of_decide_eq_true (by first | (with_reducible assumption) | assumption)
              have q368 : x11_1 < (l0_2.length : Int) := of_decide_eq_true (by first | (with_reducible assumption) | assumption)
              obtain ⟨ad368, e368, hx368_0, hx368_1⟩ := at_T55 HR0_2.out x11_1 p368 q368
              cases e368
              replace hx368_0 := (HB.out.cell (World.block_lt_of_cell? w _ hx368_0)).trans hx368_0
              replace hx368_1 := (HB.out.cell (World.block_lt_of_cell? w _ hx368_1)).trans hx368_1
              replace p368 := eq_true p368
              replace q368 := eq_true q368
              have p369 : 0 ≤ (x11_1 : Int) := of_decide_eq_true (by first | (with_reducible assumption) | assumption)
              have q369 : x11_1 < (l0_2.length : Int) := of_decide_eq_true (by first | (with_reducible assumption) | assumption)
              obtain ⟨ad369, e369, hx369_0, hx369_1⟩ := at_T55 HR0_2.out x11_1 p369 q369
              obtain rfl : ad368 = ad369 := (by injection e369)
              replace hx369_0 := (HB.out.cell (World.block_lt_of_cell? w _ hx369_0)).trans hx369_0
              replace hx369_1 := (HB.out.cell (World.block_lt_of_cell? w _ hx369_1)).trans hx369_1
              replace p369 := eq_true p369
              replace q369 := eq_true q369
              go_wp2_with (first | ((with_reducible refine gate_callee (f := 51) rfl ?_); refine goesL_ (some 39) rfl rfl Try.func51 (by kernel_rfl) rfl #[.int .i64 x10_1, .int .i64 ((rd_T55 l0_2 x11_1).f1)] rfl arr_ ?_; (with_reducible refine (spec_l1Max.calls x10_1 ((rd_T55 l0_2 x11_1).f1) t370 _ A15.out).mono ?_); rintro e w' ⟨rfl, ⟨nd, rfl⟩⟩; refine ⟨_, rfl, ?_⟩))
              go_roundg k1
              case measure => have := HK1.out; omega
              case rel => exact ⟨(t370), (wrap64 (x11_1 + 1)), (by first | rfl | (simp; done) | (simp [*]; done)), (by first | rfl | (simp; done) | (simp [*]; done)), H', ⟨by have := HK1.out; omega⟩, ⟨bk_ BK365.out⟩, ⟨bk_ BK366.out⟩, ⟨hb2_ HB.out GE365.out GE366.out⟩⟩
            · rw [if_neg c14] at H
              have c14b0 : (((rd_T55 l0_2 x11_1).f0) == a1) = false := beq_eq_false_iff_ne.mpr c14
              have c14b1 : (((rd_T55 l0_2 x11_1).f0) != a1) = true := bne_iff_ne.mpr c14
              have H' := Aside0.mk H
              clear H
              have hnb18 := NB365_366.out
              have hnc18 := NB366_365.out
              have hcz19_0 := bc_ BK365.out 0 (.int .i64 a0_0) rfl
              have hcz19_1 := bc_ BK365.out 1 (.int .i64 a0_1) rfl
              have hcz19_2 := bc_ BK365.out 2 (.slice A0_2 l0_2.length c0_2) rfl
              have hfz19_0 := blk_frozen BK365.out 0
              have hfz19_1 := blk_frozen BK365.out 1
              have hfz19_2 := blk_frozen BK365.out 2
              have p368 : 0 ≤ (x11_1 : Int) := of_decide_eq_true (by first | (with_reducible assumption) | assumption)
              have q368 : x11_1 < (l0_2.length : Int) := of_decide_eq_true (by first | (with_reducible assumption) | assumption)
              obtain ⟨ad368, e368, hx368_0, hx368_1⟩ := at_T55 HR0_2.out x11_1 p368 q368
              cases e368
              replace hx368_0 := (HB.out.cell (World.block_lt_of_cell? w _ hx368_0)).trans hx368_0
              replace hx368_1 := (HB.out.cell (World.block_lt_of_cell? w _ hx368_1)).trans hx368_1
              replace p368 := eq_true p368
              replace q368 := eq_true q368
              go_wp2
              go_roundg k1
              case measure => have := HK1.out; omega
              case rel => exact ⟨(x10_1), (wrap64 (x11_1 + 1)), (by first | rfl | (simp; done) | (simp [*]; done)), (by first | rfl | (simp; done) | (simp [*]; done)), H', ⟨by have := HK1.out; omega⟩, ⟨bk_ BK365.out⟩, ⟨bk_ BK366.out⟩, ⟨hb2_ HB.out GE365.out GE366.out⟩⟩
          · rw [if_neg c13] at H
            exact absurd H (by simp)
        · rw [if_neg c12] at H
          have c12b0 : decide (x11_1 < (l0_2.length : Int)) = false := decide_eq_false c12
          clear c12
          replace H := Option.bind_eq_some_iff.mp H
          obtain ⟨⟨t371, t372⟩, A200, H⟩ := H
          replace H : (if x10_1 = 0 then (some (0, false)) else (if a3 < 1 then (some (0, false)) else (if t372 = true then (if x10_1 < t371 then (some (0, false)) else (some (wrap64 (x10_1 - t371), true))) else (some (0, false))))) = some (r1, r2) := H
          have A20 := Aside0.mk A200
          clear A200
          by_cases c21 : x10_1 = 0
          · rw [if_pos c21] at H
            have c21b0 : (x10_1 == 0) = true := beq_iff_eq.mpr c21
            have c21b1 : (x10_1 != 0) = false := bne_eq_false_iff_eq.mpr c21
            clear c21
            simp only [Option.some.injEq, Prod.mk.injEq] at H
            obtain ⟨rfl, rfl⟩ := H
            have hnb22 := NB365_366.out
            have hnc22 := NB366_365.out
            have hcz23_0 := bc_ BK365.out 0 (.int .i64 a0_0) rfl
            have hcz23_1 := bc_ BK365.out 1 (.int .i64 a0_1) rfl
            have hcz23_2 := bc_ BK365.out 2 (.slice A0_2 l0_2.length c0_2) rfl
            have hfz23_0 := blk_frozen BK365.out 0
            have hfz23_1 := blk_frozen BK365.out 1
            have hfz23_2 := blk_frozen BK365.out 2
            have hcz24_0 := bc_ BK366.out 0 (.int .i64 a2_0) rfl
            have hcz24_1 := bc_ BK366.out 1 (.int .i64 a2_1) rfl
            have hfz24_0 := blk_frozen BK366.out 0
            have hfz24_1 := blk_frozen BK366.out 1
            go_wp2_with (first | ((with_reducible refine gate_callee (f := 21) rfl ?_); refine goesL_ (some 43) rfl rfl Try.func21 (by kernel_rfl) rfl #[.agg #[.int .i64 a2_0, .int .i64 a2_1], .int .i64 a3] rfl arr_ ?_; (with_reducible refine (spec_MostTime.calls k1 a2_0 a2_1 a3 t371 t372 _ A20.out).mono ?_); rintro e w25 ⟨rfl, hb⟩; refine ⟨_, rfl, ?_⟩; have n0_ := am_ (bb_ BK365.out hb); have n1_ := am_ (bb_ BK366.out hb); have n2_ := am_ (below_step (hb2_ HB.out GE365.out GE366.out) hb); clear BK365; clear BK366; clear HB; have BK365 := n0_; have BK366 := n1_; have HB := n2_; clear n0_ n1_ n2_; (try clear hb); (try clear hb2); (try clear hk); (try clear hi)))
            go_ret2
            exact ⟨er_, hb2_ HB.out GE365.out GE366.out⟩
          · rw [if_neg c21] at H
            have c21b0 : (x10_1 == 0) = false := beq_eq_false_iff_ne.mpr c21
            have c21b1 : (x10_1 != 0) = true := bne_iff_ne.mpr c21
            by_cases c26 : a3 < 1
            · rw [if_pos c26] at H
              have c26b0 : decide (a3 < 1) = true := decide_eq_true c26
              clear c26
              simp only [Option.some.injEq, Prod.mk.injEq] at H
              obtain ⟨rfl, rfl⟩ := H
              have hnb27 := NB365_366.out
              have hnc27 := NB366_365.out
              have hcz28_0 := bc_ BK365.out 0 (.int .i64 a0_0) rfl
              have hcz28_1 := bc_ BK365.out 1 (.int .i64 a0_1) rfl
              have hcz28_2 := bc_ BK365.out 2 (.slice A0_2 l0_2.length c0_2) rfl
              have hfz28_0 := blk_frozen BK365.out 0
              have hfz28_1 := blk_frozen BK365.out 1
              have hfz28_2 := blk_frozen BK365.out 2
              have hcz29_0 := bc_ BK366.out 0 (.int .i64 a2_0) rfl
              have hcz29_1 := bc_ BK366.out 1 (.int .i64 a2_1) rfl
              have hfz29_0 := blk_frozen BK366.out 0
              have hfz29_1 := blk_frozen BK366.out 1
              go_wp2_with (first | ((with_reducible refine gate_callee (f := 21) rfl ?_); refine goesL_ (some 43) rfl rfl Try.func21 (by kernel_rfl) rfl #[.agg #[.int .i64 a2_0, .int .i64 a2_1], .int .i64 a3] rfl arr_ ?_; (with_reducible refine (spec_MostTime.calls k1 a2_0 a2_1 a3 t371 t372 _ A20.out).mono ?_); rintro e w30 ⟨rfl, hb⟩; refine ⟨_, rfl, ?_⟩; have n0_ := am_ (bb_ BK365.out hb); have n1_ := am_ (bb_ BK366.out hb); have n2_ := am_ (below_step (hb2_ HB.out GE365.out GE366.out) hb); clear BK365; clear BK366; clear HB; have BK365 := n0_; have BK366 := n1_; have HB := n2_; clear n0_ n1_ n2_; (try clear hb); (try clear hb2); (try clear hk); (try clear hi)))
              go_ret2
              exact ⟨er_, hb2_ HB.out GE365.out GE366.out⟩
            · rw [if_neg c26] at H
              have c26b0 : decide (a3 < 1) = false := decide_eq_false c26
              clear c26
              by_cases c31 : t372 = true
              · subst c31
                have H1 : (if x10_1 < t371 then (some (0, false)) else (some (wrap64 (x10_1 - t371), true))) = some (r1, r2) := by rw [if_pos rfl] at H; exact H
                clear H
                have H := H1
                clear H1
                by_cases c32 : x10_1 < t371
                · rw [if_pos c32] at H
                  have c32b0 : decide (x10_1 < t371) = true := decide_eq_true c32
                  clear c32
                  simp only [Option.some.injEq, Prod.mk.injEq] at H
                  obtain ⟨rfl, rfl⟩ := H
                  have hnb33 := NB365_366.out
                  have hnc33 := NB366_365.out
                  have hcz34_0 := bc_ BK365.out 0 (.int .i64 a0_0) rfl
                  have hcz34_1 := bc_ BK365.out 1 (.int .i64 a0_1) rfl
                  have hcz34_2 := bc_ BK365.out 2 (.slice A0_2 l0_2.length c0_2) rfl
                  have hfz34_0 := blk_frozen BK365.out 0
                  have hfz34_1 := blk_frozen BK365.out 1
                  have hfz34_2 := blk_frozen BK365.out 2
                  have hcz35_0 := bc_ BK366.out 0 (.int .i64 a2_0) rfl
                  have hcz35_1 := bc_ BK366.out 1 (.int .i64 a2_1) rfl
                  have hfz35_0 := blk_frozen BK366.out 0
                  have hfz35_1 := blk_frozen BK366.out 1
                  go_wp2_with (first | ((with_reducible refine gate_callee (f := 21) rfl ?_); refine goesL_ (some 43) rfl rfl Try.func21 (by kernel_rfl) rfl #[.agg #[.int .i64 a2_0, .int .i64 a2_1], .int .i64 a3] rfl arr_ ?_; (with_reducible refine (spec_MostTime.calls k1 a2_0 a2_1 a3 t371 true _ A20.out).mono ?_); rintro e w36 ⟨rfl, hb⟩; refine ⟨_, rfl, ?_⟩; have n0_ := am_ (bb_ BK365.out hb); have n1_ := am_ (bb_ BK366.out hb); have n2_ := am_ (below_step (hb2_ HB.out GE365.out GE366.out) hb); clear BK365; clear BK366; clear HB; have BK365 := n0_; have BK366 := n1_; have HB := n2_; clear n0_ n1_ n2_; (try clear hb); (try clear hb2); (try clear hk); (try clear hi)))
                  go_ret2
                  exact ⟨er_, hb2_ HB.out GE365.out GE366.out⟩
                · rw [if_neg c32] at H
                  have c32b0 : decide (x10_1 < t371) = false := decide_eq_false c32
                  clear c32
                  simp only [Option.some.injEq, Prod.mk.injEq] at H
                  obtain ⟨rfl, rfl⟩ := H
                  have hnb37 := NB365_366.out
                  have hnc37 := NB366_365.out
                  have hcz38_0 := bc_ BK365.out 0 (.int .i64 a0_0) rfl
                  have hcz38_1 := bc_ BK365.out 1 (.int .i64 a0_1) rfl
                  have hcz38_2 := bc_ BK365.out 2 (.slice A0_2 l0_2.length c0_2) rfl
                  have hfz38_0 := blk_frozen BK365.out 0
                  have hfz38_1 := blk_frozen BK365.out 1
                  have hfz38_2 := blk_frozen BK365.out 2
                  have hcz39_0 := bc_ BK366.out 0 (.int .i64 a2_0) rfl
                  have hcz39_1 := bc_ BK366.out 1 (.int .i64 a2_1) rfl
                  have hfz39_0 := blk_frozen BK366.out 0
                  have hfz39_1 := blk_frozen BK366.out 1
                  go_wp2_with (first | ((with_reducible refine gate_callee (f := 21) rfl ?_); refine goesL_ (some 43) rfl rfl Try.func21 (by kernel_rfl) rfl #[.agg #[.int .i64 a2_0, .int .i64 a2_1], .int .i64 a3] rfl arr_ ?_; (with_reducible refine (spec_MostTime.calls k1 a2_0 a2_1 a3 t371 true _ A20.out).mono ?_); rintro e w40 ⟨rfl, hb⟩; refine ⟨_, rfl, ?_⟩; have n0_ := am_ (bb_ BK365.out hb); have n1_ := am_ (bb_ BK366.out hb); have n2_ := am_ (below_step (hb2_ HB.out GE365.out GE366.out) hb); clear BK365; clear BK366; clear HB; have BK365 := n0_; have BK366 := n1_; have HB := n2_; clear n0_ n1_ n2_; (try clear hb); (try clear hb2); (try clear hk); (try clear hi)))
                  go_ret2
                  exact ⟨er_, hb2_ HB.out GE365.out GE366.out⟩
              · replace c31 := Bool.eq_false_iff.mpr c31
                subst c31
                have H1 : (some (0, false)) = some (r1, r2) := by rw [if_neg (show ¬ (false = true) by decide)] at H; exact H
                clear H
                have H := H1
                clear H1
                simp only [Option.some.injEq, Prod.mk.injEq] at H
                obtain ⟨rfl, rfl⟩ := H
                have hnb41 := NB365_366.out
                have hnc41 := NB366_365.out
                have hcz42_0 := bc_ BK365.out 0 (.int .i64 a0_0) rfl
                have hcz42_1 := bc_ BK365.out 1 (.int .i64 a0_1) rfl
                have hcz42_2 := bc_ BK365.out 2 (.slice A0_2 l0_2.length c0_2) rfl
                have hfz42_0 := blk_frozen BK365.out 0
                have hfz42_1 := blk_frozen BK365.out 1
                have hfz42_2 := blk_frozen BK365.out 2
                have hcz43_0 := bc_ BK366.out 0 (.int .i64 a2_0) rfl
                have hcz43_1 := bc_ BK366.out 1 (.int .i64 a2_1) rfl
                have hfz43_0 := blk_frozen BK366.out 0
                have hfz43_1 := blk_frozen BK366.out 1
                go_wp2_with (first | ((with_reducible refine gate_callee (f := 21) rfl ?_); refine goesL_ (some 43) rfl rfl Try.func21 (by kernel_rfl) rfl #[.agg #[.int .i64 a2_0, .int .i64 a2_1], .int .i64 a3] rfl arr_ ?_; (with_reducible refine (spec_MostTime.calls k1 a2_0 a2_1 a3 t371 false _ A20.out).mono ?_); rintro e w44 ⟨rfl, hb⟩; refine ⟨_, rfl, ?_⟩; have n0_ := am_ (bb_ BK365.out hb); have n1_ := am_ (bb_ BK366.out hb); have n2_ := am_ (below_step (hb2_ HB.out GE365.out GE366.out) hb); clear BK365; clear BK366; clear HB; have BK365 := n0_; have BK366 := n1_; have HB := n2_; clear n0_ n1_ n2_; (try clear hb); (try clear hb2); (try clear hk); (try clear hi)))
                go_ret2
                exact ⟨er_, hb2_ HB.out GE365.out GE366.out⟩
  · replace c6 := Bool.eq_false_iff.mpr c6
    subst c6
    have H1 : (some (0, false)) = some (r1, r2) := by rw [if_neg (show ¬ (false = true) by decide)] at H; exact H
    clear H
    have H := H1
    clear H1
    simp only [Option.some.injEq, Prod.mk.injEq] at H
    obtain ⟨rfl, rfl⟩ := H
    go_enter Try.func16, Try.ntmps16
    go_wp2_with (first | ((with_reducible refine gate_dst (N := 4) rfl ?_); refine box_event ?hg (N := 4) ?hd (cs := #[.int .i64 a0_0, .int .i64 a0_1, .slice A0_2 l0_2.length c0_2]) (t := 38) ?hr ?_; (case hd => rfl); (case hg => rfl); (case hr => first|(go_simp;done)|(go_simp;rfl)); intro gb365 hg w45 hbox hb; have n0_ := am_ (below_step (hb_ HB.out) hb); have n1_ := am_ (hbox); have n2_ := am_ (hy_ hg (hb_ HB.out) : w.heap.size ≤ gb365); have n3_ := am_ (hy_ hg (hb_ HB.out) : w.heap.size ≤ gb365); clear HB; have HB := n0_; have BK365 := n1_; have GW365 := n2_; have GE365 := n3_; clear n0_ n1_ n2_ n3_; clear hb hbox hg) | ((with_reducible refine gate_dst (N := 6) rfl ?_); refine box_event ?hg (N := 6) ?hd (cs := #[.int .i64 a2_0, .int .i64 a2_1]) (t := 34) ?hr ?_; (case hd => rfl); (case hg => rfl); (case hr => first|(go_simp;done)|(go_simp;rfl)); intro gb366 hg w46 hbox hb; have n0_ := am_ (bb_ BK365.out hb); have n1_ := am_ (below_step (hb1_ HB.out GE365.out) hb); have n2_ := am_ (hbox); have n3_ := am_ (hy_ hg (hb1_ HB.out GE365.out) : w.heap.size ≤ gb366); have n4_ := am_ (hy_ hg (hb1_ HB.out GE365.out) : w.heap.size ≤ gb366); have n5_ := am_ ((bl_ hg BK365.out : gb365 ≠ gb366)); have n6_ := am_ ((bg_ hg BK365.out : gb366 ≠ gb365)); clear BK365; clear HB; have BK365 := n0_; have HB := n1_; have BK366 := n2_; have GW366 := n3_; have GE366 := n4_; have NB365_366 := n5_; have NB366_365 := n6_; clear n0_ n1_ n2_ n3_ n4_ n5_ n6_; clear hb hbox hg; have hnb47 := NB365_366.out; have hnc47 := NB366_365.out; have hcz48_0 := bc_ BK365.out 0 (.int .i64 a0_0) rfl; have hcz48_1 := bc_ BK365.out 1 (.int .i64 a0_1) rfl; have hcz48_2 := bc_ BK365.out 2 (.slice A0_2 l0_2.length c0_2) rfl; have hfz48_0 := blk_frozen BK365.out 0; have hfz48_1 := blk_frozen BK365.out 1; have hfz48_2 := blk_frozen BK365.out 2) | ((with_reducible refine gate_callee (f := 39) rfl ?_); refine goesL_ (some 15) rfl rfl Try.func39 (by kernel_rfl) rfl #[.agg #[.int .i64 a0_0, .int .i64 a0_1, .slice A0_2 l0_2.length c0_2]] rfl arr_ ?_; (with_reducible refine (spec_PlanOk.calls k a0_0 a0_1 _ _ l0_2 false _ ?side1 ?side2 A5.out).mono ?_); (case side1 => exact kc_ (Kd.C_below HR0_2.out HB.out)); (case side2 => exact HC0_2.out); rintro e w49 ⟨rfl, hb⟩; refine ⟨_, rfl, ?_⟩; have n0_ := am_ (bb_ BK365.out hb); have n1_ := am_ (bb_ BK366.out hb); have n2_ := am_ (below_step (hb2_ HB.out GE365.out GE366.out) hb); clear BK365; clear BK366; clear HB; have BK365 := n0_; have BK366 := n1_; have HB := n2_; clear n0_ n1_ n2_; (try clear hb); (try clear hb2); (try clear hk); (try clear hi)))
    go_ret2
    exact ⟨er_, hb2_ HB.out GE365.out GE366.out⟩
end Go.Proofs.Ytejohmompmjhnaa.P
namespace Go.Proofs.Ytejohmompmjhnaa.P
open Go.RowKit Go.Proofs.YtejohmompmjhnaaW.PrintWords Go.Proofs.YtejohmompmjhnaaW.PrintLast Go.Proofs.YtejohmompmjhnaaW.PrintMore
attribute [local go_sem] max2_int min2_int max_two min_two max_three min_three max_four min_four
set_option linter.unusedVariables false
set_option linter.unusedSimpArgs false
mutual
def impl_GateBudget.j0 : Nat → Int → Int → Bool → Int → Int → List (S55) → Option (Int × Bool)
  | 0, _, _, _, _, _, _ => none
  | k + 1, x1, x10, x31, x374000, x374001, x374002 => if x31 = true then (some (0, false)) else (impl_GateBudget.l0 k x1 x10 0 x374002 (x374002.length : Int) 0)
def impl_GateBudget.l0 : Nat → Int → Int → Int → List (S55) → Int → Int → Option (Int × Bool)
  | 0, _, _, _, _, _, _ => none
  | k + 1, x1, x10, x12, x33, x34, x35 => if x35 < x34 then (if 0 ≤ x35 then (if x35 < (x33.length : Int) then (if ((rd_T55 x33 x35).f0) = x1 then (impl_GateBudget.l0 k x1 x10 (mx x12 ((rd_T55 x33 x35).f1)) x33 x34 (wrap64 (x35 + 1))) else (impl_GateBudget.l0 k x1 x10 x12 x33 x34 (wrap64 (x35 + 1)))) else (none)) else (none)) else (if x12 = 0 then (some (0, false)) else (if x12 < x10 then (some (0, false)) else (some (wrap64 (x12 - x10), true))))
end
def impl_GateBudget.f (k : Nat) (a0_0 : Int) (a0_1 : Int) (l0_2 : List (S55)) (a1 : Int) (a2_0 : Int) (a2_1 : Int) (a3 : Int) : Option (Int × Bool) := (impl_MostTime.f a2_0 a2_1 a3).bind fun bt375 => ((impl_PlanOk.f k a0_0 a0_1 l0_2).bind fun t377 => (if t377 = true then (if bt375.2 = true then (impl_GateBudget.j0 k a1 bt375.1 (decide (a3 < 1)) a0_0 a0_1 l0_2) else (impl_GateBudget.j0 k a1 bt375.1 true a0_0 a0_1 l0_2)) else (impl_GateBudget.j0 k a1 bt375.1 true a0_0 a0_1 l0_2)))
theorem impl_GateBudget.mono_l : ∀ k, (∀ y0 y1 y2 y3 y4 y5, LeO (impl_GateBudget.j0 k y0 y1 y2 y3 y4 y5) (impl_GateBudget.j0 (k + 1) y0 y1 y2 y3 y4 y5)) ∧ (∀ y0 y1 y2 y3 y4 y5, LeO (impl_GateBudget.l0 k y0 y1 y2 y3 y4 y5) (impl_GateBudget.l0 (k + 1) y0 y1 y2 y3 y4 y5))
  | 0 => ⟨fun _ _ _ _ _ _ r h => by simp [impl_GateBudget.j0] at h, fun _ _ _ _ _ _ r h => by simp [impl_GateBudget.l0] at h⟩
  | k + 1 => by
    obtain ⟨ih0, ih1⟩ := impl_GateBudget.mono_l k
    refine ⟨?_, ?_⟩
    · intro y0 y1 y2 y3 y4 y5
      unfold impl_GateBudget.j0
      repeat' first
      | (with_reducible exact ih0 _ _ _ _ _ _)
      | (with_reducible exact ih1 _ _ _ _ _ _)
      | (with_reducible exact impl_PlanOk.mono _ _ _ _)
      | (with_reducible exact LeO.refl _)
      | (with_reducible exact LeO.none _)
      | (with_reducible refine LeO.ite ?_ ?_)
      | (with_reducible refine LeO.bind ?_ (fun _ => ?_))
      | exact ih0 _ _ _ _ _ _
      | exact ih1 _ _ _ _ _ _
      | exact impl_PlanOk.mono _ _ _ _
      | exact LeO.none _
      | refine LeO.ite ?_ ?_
      | refine LeO.bind ?_ (fun _ => ?_)
    · intro y0 y1 y2 y3 y4 y5
      unfold impl_GateBudget.l0
      repeat' first
      | (with_reducible exact ih0 _ _ _ _ _ _)
      | (with_reducible exact ih1 _ _ _ _ _ _)
      | (with_reducible exact impl_PlanOk.mono _ _ _ _)
      | (with_reducible exact LeO.refl _)
      | (with_reducible exact LeO.none _)
      | (with_reducible refine LeO.ite ?_ ?_)
      | (with_reducible refine LeO.bind ?_ (fun _ => ?_))
      | exact ih0 _ _ _ _ _ _
      | exact ih1 _ _ _ _ _ _
      | exact impl_PlanOk.mono _ _ _ _
      | exact LeO.none _
      | refine LeO.ite ?_ ?_
      | refine LeO.bind ?_ (fun _ => ?_)
theorem impl_GateBudget.mono : ∀ a0 a1 a2 a3 a4 a5 a6 k, LeO (impl_GateBudget.f k a0 a1 a2 a3 a4 a5 a6) (impl_GateBudget.f (k + 1) a0 a1 a2 a3 a4 a5 a6) := by
  intro a0 a1 a2 a3 a4 a5 a6 k
  obtain ⟨ih0, ih1⟩ := impl_GateBudget.mono_l k
  unfold impl_GateBudget.f
  repeat' first
      | (with_reducible exact ih0 _ _ _ _ _ _)
      | (with_reducible exact ih1 _ _ _ _ _ _)
      | (with_reducible exact impl_PlanOk.mono _ _ _ _)
      | (with_reducible exact LeO.refl _)
      | (with_reducible exact LeO.none _)
      | (with_reducible refine LeO.ite ?_ ?_)
      | (with_reducible refine LeO.bind ?_ (fun _ => ?_))
      | exact ih0 _ _ _ _ _ _
      | exact ih1 _ _ _ _ _ _
      | exact impl_PlanOk.mono _ _ _ _
      | exact LeO.none _
      | refine LeO.ite ?_ ?_
      | refine LeO.bind ?_ (fun _ => ?_)
set_option maxHeartbeats 8000000 in
set_option maxRecDepth 100000 in
theorem impl_GateBudget.calls (k : Nat) (a0_0 : Int) (a0_1 : Int) (A0_2 : Option Addr) (c0_2 : Nat) (l0_2 : List (S55)) (a1 : Int) (a2_0 : Int) (a2_1 : Int) (a3 : Int) (r1 : Int) (r2 : Bool) (w : World) (hr0_2 : Kd.C k55 w A0_2 l0_2.length l0_2) (hc0_2 : l0_2.length ≤ c0_2) (h : impl_GateBudget.f k a0_0 a0_1 l0_2 a1 a2_0 a2_1 a3 = some (r1, r2)) :
    Calls Try.prog 17 #[.agg #[.int .i64 a0_0, .int .i64 a0_1, .slice A0_2 l0_2.length c0_2], .int .i64 a1, .agg #[.int .i64 a2_0, .int .i64 a2_1], .int .i64 a3] w fun e w' => e = .returned (.tuple #[.int .i64 r1, .bool r2]) ∧ Below w.heap.size w w' := by
  have hu38 := Try.underlying38
  have hu34 := Try.underlying34
  have hu55 := Try.underlying55
  have HR0_2 := Aside0.mk hr0_2
  have HC0_2 := Aside0.mk hc0_2
  clear hr0_2 hc0_2
  have HB := am_ (Below.refl w.heap.size w)
  have H : ((impl_MostTime.f a2_0 a2_1 a3).bind fun bt375 => ((impl_PlanOk.f k a0_0 a0_1 l0_2).bind fun t377 => (if t377 = true then (if bt375.2 = true then (impl_GateBudget.j0 k a1 bt375.1 (decide (a3 < 1)) a0_0 a0_1 l0_2) else (impl_GateBudget.j0 k a1 bt375.1 true a0_0 a0_1 l0_2)) else (impl_GateBudget.j0 k a1 bt375.1 true a0_0 a0_1 l0_2)))) = some (r1, r2) := h
  clear h
  replace H := Option.bind_eq_some_iff.mp H
  obtain ⟨⟨t375, t376⟩, A50, H⟩ := H
  replace H : ((impl_PlanOk.f k a0_0 a0_1 l0_2).bind fun t377 => (if t377 = true then (if t376 = true then (impl_GateBudget.j0 k a1 t375 (decide (a3 < 1)) a0_0 a0_1 l0_2) else (impl_GateBudget.j0 k a1 t375 true a0_0 a0_1 l0_2)) else (impl_GateBudget.j0 k a1 t375 true a0_0 a0_1 l0_2))) = some (r1, r2) := H
  have A5 := Aside0.mk A50
  clear A50
  have HC6 := Aside0.mk H
  clear H
  go_enter Try.func17, Try.ntmps17
  go_upto_region 2 with (first | ((with_reducible refine gate_dst (N := 4) rfl ?_); refine box_event ?hg (N := 4) ?hd (cs := #[.int .i64 a0_0, .int .i64 a0_1, .slice A0_2 l0_2.length c0_2]) (t := 38) ?hr ?_; (case hd => rfl); (case hg => rfl); (case hr => first|(go_simp;done)|(go_simp;rfl)); intro gb373 hg w7 hbox hb; have n0_ := am_ (below_step (hb_ HB.out) hb); have n1_ := am_ (hbox); have n2_ := am_ (hy_ hg (hb_ HB.out) : w.heap.size ≤ gb373); have n3_ := am_ (hy_ hg (hb_ HB.out) : w.heap.size ≤ gb373); clear HB; have HB := n0_; have BK373 := n1_; have GW373 := n2_; have GE373 := n3_; clear n0_ n1_ n2_ n3_; clear hb hbox hg) | ((with_reducible refine gate_dst (N := 6) rfl ?_); refine box_event ?hg (N := 6) ?hd (cs := #[.int .i64 a2_0, .int .i64 a2_1]) (t := 34) ?hr ?_; (case hd => rfl); (case hg => rfl); (case hr => first|(go_simp;done)|(go_simp;rfl)); intro gb374 hg w8 hbox hb; have n0_ := am_ (bb_ BK373.out hb); have n1_ := am_ (below_step (hb1_ HB.out GE373.out) hb); have n2_ := am_ (hbox); have n3_ := am_ (hy_ hg (hb1_ HB.out GE373.out) : w.heap.size ≤ gb374); have n4_ := am_ (hy_ hg (hb1_ HB.out GE373.out) : w.heap.size ≤ gb374); have n5_ := am_ ((bl_ hg BK373.out : gb373 ≠ gb374)); have n6_ := am_ ((bg_ hg BK373.out : gb374 ≠ gb373)); clear BK373; clear HB; have BK373 := n0_; have HB := n1_; have BK374 := n2_; have GW374 := n3_; have GE374 := n4_; have NB373_374 := n5_; have NB374_373 := n6_; clear n0_ n1_ n2_ n3_ n4_ n5_ n6_; clear hb hbox hg; have hnb9 := NB374_373.out; have hnc9 := NB373_374.out; have hcz10_0 := bc_ BK374.out 0 (.int .i64 a2_0) rfl; have hcz10_1 := bc_ BK374.out 1 (.int .i64 a2_1) rfl; have hfz10_0 := blk_frozen BK374.out 0; have hfz10_1 := blk_frozen BK374.out 1) | ((with_reducible refine gate_callee (f := 52) rfl ?_); refine goesL_ (some 18) rfl rfl Try.func52 (by kernel_rfl) rfl #[.agg #[.int .i64 a2_0, .int .i64 a2_1], .int .i64 a3] rfl arr_ ?_; (with_reducible refine (impl_MostTime.calls a2_0 a2_1 a3 t375 t376 _ A5.out).mono ?_); rintro e w11 ⟨rfl, hb⟩; refine ⟨_, rfl, ?_⟩; have n0_ := am_ (bb_ BK373.out hb); have n1_ := am_ (bb_ BK374.out hb); have n2_ := am_ (below_step (hb2_ HB.out GE373.out GE374.out) hb); clear BK373; clear BK374; clear HB; have BK373 := n0_; have BK374 := n1_; have HB := n2_; clear n0_ n1_ n2_; (try clear hb); (try clear hb2); (try clear hk); (try clear hi)))
  (try simp only [Act.put, List.setIfInBounds_toArray, List.set_cons_zero, List.set_cons_succ])
  go_cut [31] (fun v31 wc => ∃ (kq : Nat) (x31_5 : Bool), v31 = .bool x31_5 ∧ Aside0 (impl_GateBudget.j0 kq a1 t375 x31_5 a0_0 a0_1 l0_2 = some (r1, r2)) ∧ Aside0 (kq ≤ k) ∧ Aside0 (wc.heap[gb373]? = some (.cells #[.int .i64 a0_0, .int .i64 a0_1, (.slice A0_2 l0_2.length c0_2)] 38 (0, 0))) ∧ Aside0 (wc.heap[gb374]? = some (.cells #[.int .i64 a2_0, .int .i64 a2_1] 34 (0, 0))) ∧ Aside0 (Below w.heap.size w wc))
  case first =>
    have H := HC6.out
    clear HC6
    replace H := Option.bind_eq_some_iff.mp H
    obtain ⟨t377, A120, H⟩ := H
    replace H : (if t377 = true then (if t376 = true then (impl_GateBudget.j0 k a1 t375 (decide (a3 < 1)) a0_0 a0_1 l0_2) else (impl_GateBudget.j0 k a1 t375 true a0_0 a0_1 l0_2)) else (impl_GateBudget.j0 k a1 t375 true a0_0 a0_1 l0_2)) = some (r1, r2) := H
    have A12 := Aside0.mk A120
    clear A120
    by_cases c13 : t377 = true
    · subst c13
      have H1 : (if t376 = true then (impl_GateBudget.j0 k a1 t375 (decide (a3 < 1)) a0_0 a0_1 l0_2) else (impl_GateBudget.j0 k a1 t375 true a0_0 a0_1 l0_2)) = some (r1, r2) := by rw [if_pos rfl] at H; exact H
      clear H
      have H := H1
      clear H1
      by_cases c14 : t376 = true
      · subst c14
        have H1 : (impl_GateBudget.j0 k a1 t375 (decide (a3 < 1)) a0_0 a0_1 l0_2) = some (r1, r2) := by rw [if_pos rfl] at H; exact H
        clear H
        have H := H1
        clear H1
        have H' := Aside0.mk H
        clear H
        have hnb15 := NB373_374.out
        have hnc15 := NB374_373.out
        have hcz16_0 := bc_ BK373.out 0 (.int .i64 a0_0) rfl
        have hcz16_1 := bc_ BK373.out 1 (.int .i64 a0_1) rfl
        have hcz16_2 := bc_ BK373.out 2 (.slice A0_2 l0_2.length c0_2) rfl
        have hfz16_0 := blk_frozen BK373.out 0
        have hfz16_1 := blk_frozen BK373.out 1
        have hfz16_2 := blk_frozen BK373.out 2
        go_wp2_with (first | ((with_reducible refine gate_callee (f := 46) rfl ?_); refine goesL_ (some 22) rfl rfl Try.func46 (by kernel_rfl) rfl #[.agg #[.int .i64 a0_0, .int .i64 a0_1, .slice A0_2 l0_2.length c0_2]] rfl arr_ ?_; (with_reducible refine (impl_PlanOk.calls k a0_0 a0_1 _ _ l0_2 true _ ?side1 ?side2 A12.out).mono ?_); (case side1 => exact kc_ (Kd.C_below HR0_2.out HB.out)); (case side2 => exact HC0_2.out); rintro e w17 ⟨rfl, hb⟩; refine ⟨_, rfl, ?_⟩; have n0_ := am_ (bb_ BK373.out hb); have n1_ := am_ (bb_ BK374.out hb); have n2_ := am_ (below_step (hb2_ HB.out GE373.out GE374.out) hb); clear BK373; clear BK374; clear HB; have BK373 := n0_; have BK374 := n1_; have HB := n2_; clear n0_ n1_ n2_; (try clear hb); (try clear hb2); (try clear hk); (try clear hi)))
        go_meet
        case rel => exact ⟨_, (decide (a3 < 1)), (by first | rfl | (simp; done) | (simp [*]; done)), H', ⟨by first | omega | exact Nat.le_refl _⟩, ⟨bk_ BK373.out⟩, ⟨bk_ BK374.out⟩, ⟨hb2_ HB.out GE373.out GE374.out⟩⟩
      · replace c14 := Bool.eq_false_iff.mpr c14
        subst c14
        have H1 : (impl_GateBudget.j0 k a1 t375 true a0_0 a0_1 l0_2) = some (r1, r2) := by rw [if_neg (show ¬ (false = true) by decide)] at H; exact H
        clear H
        have H := H1
        clear H1
        have H' := Aside0.mk H
        clear H
        have hnb18 := NB373_374.out
        have hnc18 := NB374_373.out
        have hcz19_0 := bc_ BK373.out 0 (.int .i64 a0_0) rfl
        have hcz19_1 := bc_ BK373.out 1 (.int .i64 a0_1) rfl
        have hcz19_2 := bc_ BK373.out 2 (.slice A0_2 l0_2.length c0_2) rfl
        have hfz19_0 := blk_frozen BK373.out 0
        have hfz19_1 := blk_frozen BK373.out 1
        have hfz19_2 := blk_frozen BK373.out 2
        go_wp2_with (first | ((with_reducible refine gate_callee (f := 46) rfl ?_); refine goesL_ (some 22) rfl rfl Try.func46 (by kernel_rfl) rfl #[.agg #[.int .i64 a0_0, .int .i64 a0_1, .slice A0_2 l0_2.length c0_2]] rfl arr_ ?_; (with_reducible refine (impl_PlanOk.calls k a0_0 a0_1 _ _ l0_2 true _ ?side1 ?side2 A12.out).mono ?_); (case side1 => exact kc_ (Kd.C_below HR0_2.out HB.out)); (case side2 => exact HC0_2.out); rintro e w20 ⟨rfl, hb⟩; refine ⟨_, rfl, ?_⟩; have n0_ := am_ (bb_ BK373.out hb); have n1_ := am_ (bb_ BK374.out hb); have n2_ := am_ (below_step (hb2_ HB.out GE373.out GE374.out) hb); clear BK373; clear BK374; clear HB; have BK373 := n0_; have BK374 := n1_; have HB := n2_; clear n0_ n1_ n2_; (try clear hb); (try clear hb2); (try clear hk); (try clear hi)))
        go_meet
        case rel => exact ⟨_, (true), (by first | rfl | (simp; done) | (simp [*]; done)), H', ⟨by first | omega | exact Nat.le_refl _⟩, ⟨bk_ BK373.out⟩, ⟨bk_ BK374.out⟩, ⟨hb2_ HB.out GE373.out GE374.out⟩⟩
    · replace c13 := Bool.eq_false_iff.mpr c13
      subst c13
      have H1 : (impl_GateBudget.j0 k a1 t375 true a0_0 a0_1 l0_2) = some (r1, r2) := by rw [if_neg (show ¬ (false = true) by decide)] at H; exact H
      clear H
      have H := H1
      clear H1
      have H' := Aside0.mk H
      clear H
      have hnb21 := NB373_374.out
      have hnc21 := NB374_373.out
      have hcz22_0 := bc_ BK373.out 0 (.int .i64 a0_0) rfl
      have hcz22_1 := bc_ BK373.out 1 (.int .i64 a0_1) rfl
      have hcz22_2 := bc_ BK373.out 2 (.slice A0_2 l0_2.length c0_2) rfl
      have hfz22_0 := blk_frozen BK373.out 0
      have hfz22_1 := blk_frozen BK373.out 1
      have hfz22_2 := blk_frozen BK373.out 2
      go_wp2_with (first | ((with_reducible refine gate_callee (f := 46) rfl ?_); refine goesL_ (some 22) rfl rfl Try.func46 (by kernel_rfl) rfl #[.agg #[.int .i64 a0_0, .int .i64 a0_1, .slice A0_2 l0_2.length c0_2]] rfl arr_ ?_; (with_reducible refine (impl_PlanOk.calls k a0_0 a0_1 _ _ l0_2 false _ ?side1 ?side2 A12.out).mono ?_); (case side1 => exact kc_ (Kd.C_below HR0_2.out HB.out)); (case side2 => exact HC0_2.out); rintro e w23 ⟨rfl, hb⟩; refine ⟨_, rfl, ?_⟩; have n0_ := am_ (bb_ BK373.out hb); have n1_ := am_ (bb_ BK374.out hb); have n2_ := am_ (below_step (hb2_ HB.out GE373.out GE374.out) hb); clear BK373; clear BK374; clear HB; have BK373 := n0_; have BK374 := n1_; have HB := n2_; clear n0_ n1_ n2_; (try clear hb); (try clear hb2); (try clear hk); (try clear hi)))
      go_meet
      case rel => exact ⟨_, (true), (by first | rfl | (simp; done) | (simp [*]; done)), H', ⟨by first | omega | exact Nat.le_refl _⟩, ⟨bk_ BK373.out⟩, ⟨bk_ BK374.out⟩, ⟨hb2_ HB.out GE373.out GE374.out⟩⟩
  case rest =>
    clear HC6
    try clear c1
    try clear c2
    try clear p2
    try clear c4
    try clear c5
    try clear c9
    try clear c13
    try clear c14
    try clear c15
    try clear c17
    try clear c18
    try clear c21
    try clear hcz10_0
    try clear hcz10_1
    try clear hcz16_0
    try clear hcz16_1
    try clear hcz16_2
    try clear hcz19_0
    try clear hcz19_1
    try clear hcz19_2
    try clear hcz22_0
    try clear hcz22_1
    try clear hcz22_2
    try clear hfz10_0
    try clear hfz10_1
    try clear hfz16_0
    try clear hfz16_1
    try clear hfz16_2
    try clear hfz19_0
    try clear hfz19_1
    try clear hfz19_2
    try clear hfz22_0
    try clear hfz22_1
    try clear hfz22_2
    obtain ⟨kq, x31_5, rfl, HA, HJ5, BK373, BK374, HB⟩ := hcut
    cases kq with
    | zero => exact absurd HA.out (by simp [impl_GateBudget.j0])
    | succ kj5 =>
      have H := HA.out
      clear HA
      simp only [impl_GateBudget.j0] at H
      by_cases c24 : x31_5 = true
      · subst c24
        have H1 : (some (0, false)) = some (r1, r2) := by rw [if_pos rfl] at H; exact H
        clear H
        have H := H1
        clear H1
        simp only [Option.some.injEq, Prod.mk.injEq] at H
        obtain ⟨rfl, rfl⟩ := H
        go_wp2
        go_ret2
        exact ⟨er_, hb2_ HB.out GE373.out GE374.out⟩
      · replace c24 := Bool.eq_false_iff.mpr c24
        subst c24
        have H1 : (impl_GateBudget.l0 kj5 a1 t375 0 l0_2 (l0_2.length : Int) 0) = some (r1, r2) := by rw [if_neg (show ¬ (false = true) by decide)] at H; exact H
        clear H
        have H := H1
        clear H1
        have H' := Aside0.mk H
        clear H
        have hnb25 := NB373_374.out
        have hnc25 := NB374_373.out
        have hcz26_0 := bc_ BK373.out 0 (.int .i64 a0_0) rfl
        have hcz26_1 := bc_ BK373.out 1 (.int .i64 a0_1) rfl
        have hcz26_2 := bc_ BK373.out 2 (.slice A0_2 l0_2.length c0_2) rfl
        have hfz26_0 := blk_frozen BK373.out 0
        have hfz26_1 := blk_frozen BK373.out 1
        have hfz26_2 := blk_frozen BK373.out 2
        go_wp2
        go_loopg [12, 35] kj5 (fun kq v12 v35 w' => ∃ (x12_2 : Int) (x35_2 : Int), v12 = .int .i64 x12_2 ∧ v35 = .int .i64 x35_2 ∧ Aside0 (impl_GateBudget.l0 kq a1 t375 x12_2 l0_2 (l0_2.length : Int) x35_2 = some (r1, r2)) ∧ Aside0 (kq ≤ kj5) ∧ Aside0 (w'.heap[gb373]? = some (.cells #[.int .i64 a0_0, .int .i64 a0_1, (.slice A0_2 l0_2.length c0_2)] 38 (0, 0))) ∧ Aside0 (w'.heap[gb374]? = some (.cells #[.int .i64 a2_0, .int .i64 a2_1] 34 (0, 0))) ∧ Aside0 (Below w.heap.size w w'))
        case atStart => exact ⟨(0), (0), (by first | rfl | (simp; done) | (simp [*]; done)), (by first | rfl | (simp; done) | (simp [*]; done)), H', ⟨Nat.le_refl _⟩, ⟨bk_ BK373.out⟩, ⟨bk_ BK374.out⟩, ⟨hb2_ HB.out GE373.out GE374.out⟩⟩
        case round =>
          clear H'
          try clear c1
          try clear c2
          try clear p2
          try clear c4
          try clear c5
          try clear c9
          try clear c13
          try clear c14
          try clear c15
          try clear c17
          try clear c18
          try clear c21
          try clear c24
          try clear c25
          try clear hcz10_0
          try clear hcz10_1
          try clear hcz16_0
          try clear hcz16_1
          try clear hcz16_2
          try clear hcz19_0
          try clear hcz19_1
          try clear hcz19_2
          try clear hcz22_0
          try clear hcz22_1
          try clear hcz22_2
          try clear hcz26_0
          try clear hcz26_1
          try clear hcz26_2
          try clear hfz10_0
          try clear hfz10_1
          try clear hfz16_0
          try clear hfz16_1
          try clear hfz16_2
          try clear hfz19_0
          try clear hfz19_1
          try clear hfz19_2
          try clear hfz22_0
          try clear hfz22_1
          try clear hfz22_2
          try clear hfz26_0
          try clear hfz26_1
          try clear hfz26_2
          try clear p2
          obtain ⟨x12_2, x35_2, rfl, rfl, HA, HK2, BK373, BK374, HB⟩ := hrel
          cases gk with
          | zero => exact absurd HA.out (by simp [impl_GateBudget.l0])
          | succ k2 =>
            have H := HA.out
            clear HA
            simp only [impl_GateBudget.l0] at H
            by_cases c27 : x35_2 < (l0_2.length : Int)
            · rw [if_pos c27] at H
              have c27b0 : decide (x35_2 < (l0_2.length : Int)) = true := decide_eq_true c27
              clear c27
              by_cases c28 : 0 ≤ x35_2
              · rw [if_pos c28] at H
                have c28b0 : decide (0 ≤ x35_2) = true := decide_eq_true c28
                clear c28
                by_cases c29 : x35_2 < (l0_2.length : Int)
                · rw [if_pos c29] at H
                  have c29b0 : decide (x35_2 < (l0_2.length : Int)) = true := decide_eq_true c29
                  clear c29
                  by_cases c30 : ((rd_T55 l0_2 x35_2).f0) = a1
                  · rw [if_pos c30] at H
                    have c30b0 : (((rd_T55 l0_2 x35_2).f0) == a1) = true := beq_iff_eq.mpr c30
                    have c30b1 : (((rd_T55 l0_2 x35_2).f0) != a1) = false := bne_eq_false_iff_eq.mpr c30
                    clear c30
                    obtain ⟨ji31, hji31⟩ : ∃ j_ : Int, (mx x12_2 ((rd_T55 l0_2 x35_2).f1)) = j_ := ⟨_, rfl⟩
                    replace H : (impl_GateBudget.l0 k2 a1 t375 ji31 l0_2 (l0_2.length : Int) (wrap64 (x35_2 + 1))) = some (r1, r2) := by first | (rw [hji31] at H; exact H) | (simp only [hji31] at H ⊢; exact H)
                    have hji31_ : (if x12_2 < ((rd_T55 l0_2 x35_2).f1) then ((rd_T55 l0_2 x35_2).f1) else x12_2) = ji31 := hji31
                    have H' := Aside0.mk H
                    clear H
                    have p378 : 0 ≤ (x35_2 : Int) := of_decide_eq_true (by first | (with_reducible assumption) | assumption)
                    have q378 : x35_2 < (l0_2.length : Int) := of_decide_eq_true (by first | (with_reducible assumption) | assumption)
                    obtain ⟨ad378, e378, hx378_0, hx378_1⟩ := at_T55 HR0_2.out x35_2 p378 q378
                    cases e378
                    replace hx378_0 := (HB.out.cell (World.block_lt_of_cell? w _ hx378_0)).trans hx378_0
                    replace hx378_1 := (HB.out.cell (World.block_lt_of_cell? w _ hx378_1)).trans hx378_1
                    replace p378 := eq_true p378
                    replace q378 := eq_true q378
                    go_wp2_with (first | ((with_reducible refine gate_dst (N := 14) rfl ?_); refine box_event ?hg (N := 14) ?hd (cs := #[.int .i64 0, .int .i64 0]) (t := 55) ?hr ?_; (case hd => rfl); (case hg => rfl); (case hr => first|(go_simp;done)|(go_simp;rfl)); intro gb379 hg w32 hbox hb; have n0_ := am_ (bb_ BK373.out hb); have n1_ := am_ (bb_ BK374.out hb); have n2_ := am_ (below_step (hb2_ HB.out GE373.out GE374.out) hb); have n3_ := am_ (hbox); have n4_ := am_ (hy_ hg (hb2_ HB.out GE373.out GE374.out) : w.heap.size ≤ gb379); have n5_ := am_ (hy_ hg (hb2_ HB.out GE373.out GE374.out) : w.heap.size ≤ gb379); have n6_ := am_ ((bl_ hg BK373.out : gb373 ≠ gb379)); have n7_ := am_ ((bg_ hg BK373.out : gb379 ≠ gb373)); have n8_ := am_ ((bl_ hg BK374.out : gb374 ≠ gb379)); have n9_ := am_ ((bg_ hg BK374.out : gb379 ≠ gb374)); clear BK373; clear BK374; clear HB; have BK373 := n0_; have BK374 := n1_; have HB := n2_; have BK379 := n3_; have GW379 := n4_; have GE379 := n5_; have NB373_379 := n6_; have NB379_373 := n7_; have NB374_379 := n8_; have NB379_374 := n9_; clear n0_ n1_ n2_ n3_ n4_ n5_ n6_ n7_ n8_ n9_; clear hb hbox hg; have hnb33 := NB379_373.out; have hnc33 := NB373_379.out; have hnb34 := NB379_374.out; have hnc34 := NB374_379.out; have hcz35_0 := bc_ BK379.out 0 (.int .i64 0) rfl; have hcz35_1 := bc_ BK379.out 1 (.int .i64 0) rfl; have hfz35_0 := blk_frozen BK379.out 0; have hfz35_1 := blk_frozen BK379.out 1))
                    go_roundg k2
                    case measure => have := HJ5.out; have := HK2.out; omega
                    case rel => exact ⟨(ji31), (wrap64 (x35_2 + 1)), (by first | rfl | (simp; done) | (simp only [← hji31] <;> (first | rfl | simp)) | (simp [*]; done)), (by first | rfl | (simp; done) | (simp [*]; done)), H', ⟨by have := HJ5.out; have := HK2.out; omega⟩, ⟨by (with_reducible repeat (first | refine blk_drewN ?_ _ | refine blk_drew ?_ | refine blk_alloc ?_ _)); refine blk_far ?_ NB373_379.out _; (with_reducible repeat (first | refine blk_drewN ?_ _ | refine blk_drew ?_ | refine blk_alloc ?_ _)); refine blk_far ?_ NB373_379.out _; (with_reducible repeat (first | refine blk_drewN ?_ _ | refine blk_drew ?_ | refine blk_alloc ?_ _)); exact BK373.out⟩, ⟨by (with_reducible repeat (first | refine blk_drewN ?_ _ | refine blk_drew ?_ | refine blk_alloc ?_ _)); refine blk_far ?_ NB374_379.out _; (with_reducible repeat (first | refine blk_drewN ?_ _ | refine blk_drew ?_ | refine blk_alloc ?_ _)); refine blk_far ?_ NB374_379.out _; (with_reducible repeat (first | refine blk_drewN ?_ _ | refine blk_drew ?_ | refine blk_alloc ?_ _)); exact BK374.out⟩, ⟨hb3_ HB.out GE373.out GE374.out GE379.out⟩⟩
                  · rw [if_neg c30] at H
                    have c30b0 : (((rd_T55 l0_2 x35_2).f0) == a1) = false := beq_eq_false_iff_ne.mpr c30
                    have c30b1 : (((rd_T55 l0_2 x35_2).f0) != a1) = true := bne_iff_ne.mpr c30
                    have H' := Aside0.mk H
                    clear H
                    have p378 : 0 ≤ (x35_2 : Int) := of_decide_eq_true (by first | (with_reducible assumption) | assumption)
                    have q378 : x35_2 < (l0_2.length : Int) := of_decide_eq_true (by first | (with_reducible assumption) | assumption)
                    obtain ⟨ad378, e378, hx378_0, hx378_1⟩ := at_T55 HR0_2.out x35_2 p378 q378
                    cases e378
                    replace hx378_0 := (HB.out.cell (World.block_lt_of_cell? w _ hx378_0)).trans hx378_0
                    replace hx378_1 := (HB.out.cell (World.block_lt_of_cell? w _ hx378_1)).trans hx378_1
                    replace p378 := eq_true p378
                    replace q378 := eq_true q378
                    go_wp2_with (first | ((with_reducible refine gate_dst (N := 14) rfl ?_); refine box_event ?hg (N := 14) ?hd (cs := #[.int .i64 0, .int .i64 0]) (t := 55) ?hr ?_; (case hd => rfl); (case hg => rfl); (case hr => first|(go_simp;done)|(go_simp;rfl)); intro gb379 hg w36 hbox hb; have n0_ := am_ (bb_ BK373.out hb); have n1_ := am_ (bb_ BK374.out hb); have n2_ := am_ (below_step (hb2_ HB.out GE373.out GE374.out) hb); have n3_ := am_ (hbox); have n4_ := am_ (hy_ hg (hb2_ HB.out GE373.out GE374.out) : w.heap.size ≤ gb379); have n5_ := am_ (hy_ hg (hb2_ HB.out GE373.out GE374.out) : w.heap.size ≤ gb379); have n6_ := am_ ((bl_ hg BK373.out : gb373 ≠ gb379)); have n7_ := am_ ((bg_ hg BK373.out : gb379 ≠ gb373)); have n8_ := am_ ((bl_ hg BK374.out : gb374 ≠ gb379)); have n9_ := am_ ((bg_ hg BK374.out : gb379 ≠ gb374)); clear BK373; clear BK374; clear HB; have BK373 := n0_; have BK374 := n1_; have HB := n2_; have BK379 := n3_; have GW379 := n4_; have GE379 := n5_; have NB373_379 := n6_; have NB379_373 := n7_; have NB374_379 := n8_; have NB379_374 := n9_; clear n0_ n1_ n2_ n3_ n4_ n5_ n6_ n7_ n8_ n9_; clear hb hbox hg; have hnb37 := NB379_373.out; have hnc37 := NB373_379.out; have hnb38 := NB379_374.out; have hnc38 := NB374_379.out; have hcz39_0 := bc_ BK379.out 0 (.int .i64 0) rfl; have hcz39_1 := bc_ BK379.out 1 (.int .i64 0) rfl; have hfz39_0 := blk_frozen BK379.out 0; have hfz39_1 := blk_frozen BK379.out 1))
                    go_roundg k2
                    case measure => have := HJ5.out; have := HK2.out; omega
                    case rel => exact ⟨(x12_2), (wrap64 (x35_2 + 1)), (by first | rfl | (simp; done) | (simp [*]; done)), (by first | rfl | (simp; done) | (simp [*]; done)), H', ⟨by have := HJ5.out; have := HK2.out; omega⟩, ⟨by (with_reducible repeat (first | refine blk_drewN ?_ _ | refine blk_drew ?_ | refine blk_alloc ?_ _)); refine blk_far ?_ NB373_379.out _; (with_reducible repeat (first | refine blk_drewN ?_ _ | refine blk_drew ?_ | refine blk_alloc ?_ _)); refine blk_far ?_ NB373_379.out _; (with_reducible repeat (first | refine blk_drewN ?_ _ | refine blk_drew ?_ | refine blk_alloc ?_ _)); exact BK373.out⟩, ⟨by (with_reducible repeat (first | refine blk_drewN ?_ _ | refine blk_drew ?_ | refine blk_alloc ?_ _)); refine blk_far ?_ NB374_379.out _; (with_reducible repeat (first | refine blk_drewN ?_ _ | refine blk_drew ?_ | refine blk_alloc ?_ _)); refine blk_far ?_ NB374_379.out _; (with_reducible repeat (first | refine blk_drewN ?_ _ | refine blk_drew ?_ | refine blk_alloc ?_ _)); exact BK374.out⟩, ⟨hb3_ HB.out GE373.out GE374.out GE379.out⟩⟩
                · rw [if_neg c29] at H
                  exact absurd H (by simp)
              · rw [if_neg c28] at H
                exact absurd H (by simp)
            · rw [if_neg c27] at H
              have c27b0 : decide (x35_2 < (l0_2.length : Int)) = false := decide_eq_false c27
              clear c27
              by_cases c40 : x12_2 = 0
              · rw [if_pos c40] at H
                have c40b0 : (x12_2 == 0) = true := beq_iff_eq.mpr c40
                have c40b1 : (x12_2 != 0) = false := bne_eq_false_iff_eq.mpr c40
                clear c40
                simp only [Option.some.injEq, Prod.mk.injEq] at H
                obtain ⟨rfl, rfl⟩ := H
                go_wp2
                go_ret2
                exact ⟨er_, hb2_ HB.out GE373.out GE374.out⟩
              · rw [if_neg c40] at H
                have c40b0 : (x12_2 == 0) = false := beq_eq_false_iff_ne.mpr c40
                have c40b1 : (x12_2 != 0) = true := bne_iff_ne.mpr c40
                by_cases c41 : x12_2 < t375
                · rw [if_pos c41] at H
                  have c41b0 : decide (x12_2 < t375) = true := decide_eq_true c41
                  clear c41
                  simp only [Option.some.injEq, Prod.mk.injEq] at H
                  obtain ⟨rfl, rfl⟩ := H
                  go_wp2
                  go_ret2
                  exact ⟨er_, hb2_ HB.out GE373.out GE374.out⟩
                · rw [if_neg c41] at H
                  have c41b0 : decide (x12_2 < t375) = false := decide_eq_false c41
                  clear c41
                  simp only [Option.some.injEq, Prod.mk.injEq] at H
                  obtain ⟨rfl, rfl⟩ := H
                  go_wp2
                  go_ret2
                  exact ⟨er_, hb2_ HB.out GE373.out GE374.out⟩
end Go.Proofs.Ytejohmompmjhnaa.P

namespace Go.Proofs.Ytejohmompmjhnaa.C
open Go.RowKit Go.Proofs.Ytejohmompmjhnaa.P Go.Proofs.Ytejohmompmjhnaa.G Go.Proofs.YtejohmompmjhnaaW.PrintWords
def gateOk (a b : Int) (kn : Bool) (n d x st gap : Int) (l : List Sl) (own : Int) : Bool := (!kn || ivalOk a b) && driftOk n d && decide (1 ≤ x ∧ x ≤ 1000000000000) && planOk st gap l && decide (0 ≤ own ∧ own ≤ 7)
def gateIn (a b : Int) (kn : Bool) (n d x st gap : Int) (l : List Sl) (own : Int) : Int × Int × Int :=
  if kn = true ∧ (gateSpan a b n d x).2.2 = true ∧ (inSlot st gap l own (gateSpan a b n d x).1 (gateSpan a b n d x).2.1).2.2 = true
  then ((inSlot st gap l own (gateSpan a b n d x).1 (gateSpan a b n d x).2.1).1, (inSlot st gap l own (gateSpan a b n d x).1 (gateSpan a b n d x).2.1).2.1, 0) else (0, 0, 2)
def gateAsk (a b : Int) (kn : Bool) (n d x st gap : Int) (l : List Sl) (own : Int) : Int × Int × Int :=
  if gateOk a b kn n d x st gap l own = true then gateIn a b kn n d x st gap l own else (0, 0, 1)
theorem sAskJ (a b : Int) (kn bad : Bool) (n d x st gap : Int) (l : List Sl) (hl : l.length ≤ 1048576) (own : Int) (k : Nat) (hk : 1050202 ≤ k) :
    spec_GateAsk.j0 k kn x own bad a b n d st gap l = some (if bad = true then (0, 0, 1) else gateIn a b kn n d x st gap l own) := by
  obtain ⟨k, rfl⟩ : ∃ j, k = j + 2 := ⟨k - 2, by omega⟩
  simp only [spec_GateAsk.j0]
  rw [sGateSpan (k + 1) a b n d x (by omega)]
  simp only [Option.bind_some, spec_GateAsk.j1]
  rw [sInSlot st gap l hl own _ _ k (by omega)]
  simp only [Option.bind_some]
  unfold gateIn
  cases bad with
  | true => simp
  | false =>
    cases kn with
    | false => simp
    | true =>
      cases (gateSpan a b n d x).2.2 with
      | false => simp
      | true =>
        cases (inSlot st gap l own (gateSpan a b n d x).1 (gateSpan a b n d x).2.1).2.2 <;> simp
theorem iAskJ (a b : Int) (kn bad : Bool) (n d x st gap : Int) (l : List Sl) (hl : l.length ≤ 1048576) (own : Int) (k : Nat) (hk : 1050202 ≤ k) :
    impl_GateAsk.j0 k kn x own bad a b n d st gap l = some (if bad = true then (0, 0, 1) else gateIn a b kn n d x st gap l own) := by
  obtain ⟨k, rfl⟩ : ∃ j, k = j + 2 := ⟨k - 2, by omega⟩
  simp only [impl_GateAsk.j0]
  rw [iGateSpan a b n d x]
  simp only [Option.bind_some, impl_GateAsk.j1]
  rw [iInSlot st gap l hl own _ _ k (by omega)]
  simp only [Option.bind_some]
  unfold gateIn
  cases bad with
  | true => simp
  | false =>
    cases kn with
    | false => simp
    | true =>
      cases (gateSpan a b n d x).2.2 with
      | false => simp
      | true =>
        cases (inSlot st gap l own (gateSpan a b n d x).1 (gateSpan a b n d x).2.1).2.2 <;> simp
theorem sGateAsk (a b : Int) (kn : Bool) (n d x st gap : Int) (l : List Sl) (hl : l.length ≤ 1048576) (own : Int) (k : Nat) (hk : 1050202 ≤ k) :
    spec_GateAsk.f k a b kn n d x st gap l own = some (gateAsk a b kn n d x st gap l own) := by
  unfold spec_GateAsk.f gateAsk gateOk
  simp only [sIvalOk, sDriftOk, l1In, sPlanOk st gap l hl k (by omega), l4Node, Option.bind_some, sAskJ _ _ _ _ _ _ _ _ _ l hl _ k hk]
  cases kn <;> cases ivalOk a b <;> cases driftOk n d <;> cases decide (1 ≤ x ∧ x ≤ 1000000000000) <;> cases planOk st gap l <;> cases decide (0 ≤ own ∧ own ≤ 7) <;> simp
theorem iGateAsk (a b : Int) (kn : Bool) (n d x st gap : Int) (l : List Sl) (hl : l.length ≤ 1048576) (own : Int) (k : Nat) (hk : 1050202 ≤ k) :
    impl_GateAsk.f k a b kn n d x st gap l own = some (gateAsk a b kn n d x st gap l own) := by
  unfold impl_GateAsk.f gateAsk gateOk
  simp only [iIvalOk, iDriftOk, in_, iPlanOk st gap l hl k (by omega), isNode, Option.bind_some, iAskJ _ _ _ _ _ _ _ _ _ l hl _ k hk]
  cases kn <;> cases ivalOk a b <;> cases driftOk n d <;> cases decide (1 ≤ x ∧ x ≤ 1000000000000) <;> cases planOk st gap l <;> cases decide (0 ≤ own ∧ own ≤ 7) <;> simp
def longest (own : Int) (l : List Sl) : Nat → Int
  | 0 => 0
  | i + 1 => match l[i]? with
    | some x => if x.f0 = own then mx (longest own l i) x.f1 else longest own l i
    | none => longest own l i
theorem longest_succ (own : Int) (l : List Sl) (i : Nat) (h : i < l.length) : longest own l (i + 1) = if l[i].f0 = own then mx (longest own l i) l[i].f1 else longest own l i := by
  rw [longest, List.getElem?_eq_getElem h]
theorem longest_bd {own : Int} {l : List Sl} (h : slotsOk l = true) : ∀ n, n ≤ l.length → 0 ≤ longest own l n ∧ longest own l n ≤ 1000000 := by
  intro n
  induction n with
  | zero => intro _; unfold longest; omega
  | succ n ih =>
    intro hn
    have h1 := ih (by omega)
    have h2 := slotsOk_get h n (by omega)
    rw [longest_succ own l n (by omega)]
    unfold mx
    split
    · split <;> omega
    · omega
theorem l1Max (a b : Int) : spec_l1Max.f a b = some (mx a b) := by
  unfold spec_l1Max.f mx
  split
  · rw [if_neg (by omega)]
  · split
    · rfl
    · congr 1; omega
def budgetOf (m : Int) (t : Int × Bool) : Int × Bool := if m = 0 then (0, false) else if m < t.1 then (0, false) else (m - t.1, true)
def budget (st gap : Int) (l : List Sl) (own n d x : Int) : Int × Bool :=
  if (planOk st gap l && (mostTime n d x).2 && !decide (x < 1)) = true then budgetOf (longest own l l.length) (mostTime n d x) else (0, false)
theorem mostTime_bd (n d x : Int) : 0 ≤ (mostTime n d x).1 ∧ (mostTime n d x).1 ≤ 1000000000000 := by
  unfold mostTime
  split
  · rename_i h
    rw [Bool.and_eq_true, driftOk_iff, timeOk_iff] at h
    have hm := mul_bd h.2 (d := d) (by omega)
    have hq := ediv_bd hm.1 (b := d - n) (by omega)
    split
    · simp only; omega
    · simp
  · simp
theorem sGateBudget (st gap : Int) (l : List Sl) (hl : l.length ≤ 1048576) (own n d x : Int) (k : Nat) (hk : 1050000 ≤ k) : spec_GateBudget.f k st gap l own n d x = some (budget st gap l own n d x) := by
  unfold spec_GateBudget.f budget
  rw [sPlanOk st gap l hl k (by omega)]
  simp only [Option.bind_some]
  cases h : planOk st gap l with
  | false => simp
  | true =>
    have h' := h
    rw [planOk_iff] at h'
    rw [if_pos (by trivial), Bool.true_and]
    refine track_loop0 (n := l.length) (c := 1) (L := fun k s i => spec_GateBudget.l0 k own x s i st gap l n d) (F := fun i => longest own l i) (fun k i hi _ => ?_) (fun k hk => ?_) k (by omega)
    · simp only [spec_GateBudget.l0]
      rw [if_pos (by omega), if_pos (by omega), wrap_succ hi (by omega), rdSl l i hi, l1Max, longest_succ own l i hi]
      simp only [Option.bind_some]
      split <;> rfl
    · simp only [spec_GateBudget.l0]
      rw [if_neg (by omega), sMostTime k n d x hk]
      simp only [Option.bind_some]
      have hb := longest_bd (own := own) h'.2.2.2 l.length (Nat.le_refl _)
      have hm := mostTime_bd n d x
      unfold budgetOf
      rw [wrap_id (by omega) (by omega)]
      generalize longest own l l.length = m
      generalize mostTime n d x = t
      cases t.2 <;> by_cases h1 : x < 1 <;> by_cases h2 : m = 0 <;> by_cases h3 : m < t.1 <;> simp [h1, h2, h3]
theorem iGateBudget (st gap : Int) (l : List Sl) (hl : l.length ≤ 1048576) (own n d x : Int) (k : Nat) (hk : 1050000 ≤ k) : impl_GateBudget.f k st gap l own n d x = some (budget st gap l own n d x) := by
  obtain ⟨k, rfl⟩ : ∃ j, k = j + 1 := ⟨k - 1, by omega⟩
  have hj : impl_GateBudget.j0 (k + 1) own (mostTime n d x).1 true st gap l = some (0, false) := by simp [impl_GateBudget.j0]
  unfold impl_GateBudget.f budget
  rw [iPlanOk st gap l hl _ (by omega), iMostTime]
  simp only [Option.bind_some]
  cases h : planOk st gap l with
  | false => rw [if_neg (by simp), hj]; simp
  | true =>
    cases h2 : (mostTime n d x).2 with
    | false => rw [if_pos (by trivial), if_neg (by simp), hj]; simp
    | true =>
      rw [if_pos (by trivial), if_pos (by trivial)]
      by_cases h3 : x < 1
      · rw [decide_eq_true h3, hj]; simp
      · rw [decide_eq_false h3]
        have h' := h
        rw [planOk_iff] at h'
        simp only [impl_GateBudget.j0]
        rw [if_neg (by decide)]
        have hl0 := track_loop0 (n := l.length) (c := 0) (L := fun k s i => impl_GateBudget.l0 k own (mostTime n d x).1 s l (l.length : Int) i) (F := fun i => longest own l i) (r := budgetOf (longest own l l.length) (mostTime n d x)) (fun k i hi _ => ?_) (fun k _ => ?_) k (by omega)
        · exact hl0
        · simp only [impl_GateBudget.l0]
          rw [if_pos (by omega), if_pos (by omega), if_pos (by omega), wrap_succ hi (by omega), rdSl l i hi, longest_succ own l i hi]
          split <;> rfl
        · simp only [impl_GateBudget.l0]
          rw [if_neg (by omega)]
          have hb := longest_bd (own := own) h'.2.2.2 l.length (Nat.le_refl _)
          have hm := mostTime_bd n d x
          rw [wrap_id (by omega) (by omega)]
          unfold budgetOf
          split
          · rfl
          · split <;> rfl
end Go.Proofs.Ytejohmompmjhnaa.C
namespace Go.Proofs.Ytejohmompmjhnaa.C
open Go.RowKit Go.Proofs.Ytejohmompmjhnaa.P Go.Proofs.Ytejohmompmjhnaa.G
def localOk (kn : Bool) (a b t : Int) : Bool := if kn = true then (ivalOk a b && timeOk t) else ((a == 0 && (b == 0)) && (t == 0))
theorem sLocalOk (kn : Bool) (a b t : Int) : spec_LocalOk.f kn a b t = some (localOk kn a b t) := by
  unfold spec_LocalOk.f localOk; simp only [sIvalOk, l2Time, Option.bind_some]
  cases kn <;> cases ivalOk a b <;> simp [timeOk]
theorem iLocalOk (kn : Bool) (a b t : Int) : impl_LocalOk.f kn a b t = some (localOk kn a b t) := by
  unfold impl_LocalOk.f localOk; simp only [iIvalOk, isTime, Option.bind_some]
  cases kn <;> cases ivalOk a b <;> simp [timeOk]
def between (n d x : Int) : Int × Int × Bool := if (leastTime n d x).2 = true ∧ (mostTime n d x).2 = true then ((leastTime n d x).1, (mostTime n d x).1, true) else (0, 0, false)
theorem sBetween (k : Nat) (n d x : Int) (hk : 1 ≤ k) : spec_Between.f k n d x = some (between n d x) := by
  unfold spec_Between.f between; simp only [sLeastTime k n d x hk, sMostTime k n d x hk, Option.bind_some]
  cases (leastTime n d x).2 <;> cases (mostTime n d x).2 <;> simp
theorem iBetween (n d x : Int) (hx : -9223372036854775808 ≤ x ∧ x ≤ 9223372036854775807) : impl_Between.f n d x = some (between n d x) := by
  unfold impl_Between.f impl_both.f between; simp only [iLeastTime n d x hx, iMostTime n d x, Option.bind_some]
  cases (leastTime n d x).2 <;> cases (mostTime n d x).2 <;> simp
def plusIval (a b c d : Int) : Int × Int × Bool := if (ivalOk a b && ivalOk c d) = true then ivalT (a + c) (b + d) else (0, 0, false)
theorem sPlusIval (a b c d : Int) : spec_PlusIval.f a b c d = some (plusIval a b c d) := by
  unfold spec_PlusIval.f plusIval; simp only [sIvalOk, Option.bind_some]
  cases h1 : ivalOk a b <;> cases h2 : ivalOk c d <;> simp
  rw [ivalOk_iff] at h1 h2
  rw [wrap_id (by omega) (by omega), wrap_id (by omega) (by omega), sTold]; rfl
theorem iPlusIval (a b c d : Int) : impl_PlusIval.f a b c d = some (plusIval a b c d) := by
  unfold impl_PlusIval.f plusIval; simp only [iIvalOk, Option.bind_some]
  cases h1 : ivalOk a b <;> cases h2 : ivalOk c d <;> simp
  rw [ivalOk_iff] at h1 h2
  rw [wrap_id (by omega) (by omega), wrap_id (by omega) (by omega), iIval]; rfl
def carry (a b s n d now : Int) : Int × Int × Int :=
  if now < s then (0, 0, 3) else if (between n d (now - s)).2.2 = true ∧ (plusIval a b (between n d (now - s)).1 (between n d (now - s)).2.1).2.2 = true then ((plusIval a b (between n d (now - s)).1 (between n d (now - s)).2.1).1, (plusIval a b (between n d (now - s)).1 (between n d (now - s)).2.1).2.1, 0) else (0, 0, 4)
def carryOn (kn : Bool) (a b s n d now : Int) : Int × Int × Int :=
  if (localOk kn a b s && driftOk n d && timeOk now) = true then (if kn = true then carry a b s n d now else (0, 0, 2)) else (0, 0, 1)
theorem local_bd {a b s : Int} (h : localOk true a b s = true) : 0 ≤ s ∧ s ≤ 1000000000000 := by
  unfold localOk at h; rw [if_pos rfl, Bool.and_eq_true, timeOk_iff] at h; exact h.2
theorem sCarryOn (kn : Bool) (a b s n d now : Int) (k : Nat) (hk : 2 ≤ k) : spec_CarryOn.f k kn a b s n d now = some (carryOn kn a b s n d now) := by
  obtain ⟨k, rfl⟩ : ∃ j, k = j + 1 := ⟨k - 1, by omega⟩
  have hj : spec_CarryOn.j0 (k + 1) now true kn a b s n d = some (0, 0, 1) := by simp [spec_CarryOn.j0]
  unfold spec_CarryOn.f carryOn
  simp only [sLocalOk, sDriftOk, l2Time, Option.bind_some]
  change (if localOk kn a b s = true then (if driftOk n d = true then spec_CarryOn.j0 (k + 1) now (!timeOk now) kn a b s n d else _) else _) = _
  cases h1 : localOk kn a b s with
  | false => rw [hj]; simp
  | true =>
    cases h2 : driftOk n d with
    | false => rw [hj]; simp
    | true =>
      cases h3 : timeOk now with
      | false => rw [Bool.not_false, hj]; simp
      | true =>
        simp only [Bool.not_true, spec_CarryOn.j0, Bool.false_eq_true, if_false, if_true, Bool.and_self]
        cases kn with
        | false => simp
        | true =>
          have hb := local_bd h1
          rw [timeOk_iff] at h3
          rw [if_pos rfl, if_pos rfl]
          unfold carry
          by_cases h4 : now < s
          · rw [if_pos h4, if_pos h4]
          · rw [if_neg h4, if_neg h4, wrap_id (by omega) (by omega), sBetween k _ _ _ (by omega)]
            simp only [Option.bind_some, sPlusIval]
            cases (between n d (now - s)).2.2 <;> cases (plusIval a b (between n d (now - s)).1 (between n d (now - s)).2.1).2.2 <;> simp
theorem iCarryOn (kn : Bool) (a b s n d now : Int) (k : Nat) (hk : 2 ≤ k) : impl_CarryOn.f k kn a b s n d now = some (carryOn kn a b s n d now) := by
  obtain ⟨k, rfl⟩ : ∃ j, k = j + 1 := ⟨k - 1, by omega⟩
  have hj : impl_CarryOn.j0 (k + 1) now true kn a b s n d = some (0, 0, 1) := by simp [impl_CarryOn.j0]
  unfold impl_CarryOn.f carryOn
  simp only [iLocalOk, iDriftOk, isTime, Option.bind_some]
  change (if localOk kn a b s = true then (if driftOk n d = true then impl_CarryOn.j0 (k + 1) now (!timeOk now) kn a b s n d else _) else _) = _
  cases h1 : localOk kn a b s with
  | false => rw [hj]; simp
  | true =>
    cases h2 : driftOk n d with
    | false => rw [hj]; simp
    | true =>
      cases h3 : timeOk now with
      | false => rw [Bool.not_false, hj]; simp
      | true =>
        simp only [Bool.not_true, impl_CarryOn.j0, Bool.false_eq_true, if_false, if_true, Bool.and_self]
        cases kn with
        | false => simp
        | true =>
          have hb := local_bd h1
          rw [timeOk_iff] at h3
          rw [if_pos rfl, if_pos rfl]
          unfold carry
          by_cases h4 : now < s
          · rw [if_pos h4, if_pos h4]
          · rw [if_neg h4, if_neg h4, wrap_id (by omega) (by omega), iBetween _ _ _ (by omega)]
            simp only [Option.bind_some, iPlusIval]
            cases (between n d (now - s)).2.2 <;> cases (plusIval a b (between n d (now - s)).1 (between n d (now - s)).2.1).2.2 <;> simp
def goes (kn : Bool) (a b s n d x st gap : Int) (l : List Sl) (own now : Int) : Bool :=
  (carryOn kn a b s n d now).2.2 == 0 && (gateAsk (carryOn kn a b s n d now).1 (carryOn kn a b s n d now).2.1 true n d x st gap l own).2.2 == 0
def waitQ (kn : Bool) (a b s n d x st gap : Int) (l : List Sl) (own now : Int) (most : Nat) : Int × Bool :=
  found (fun i => goes kn a b s n d x st gap l own (now + i)) (fun i => ((i : Int), true)) (0, false) (List.range (most + 1))
def gateWait (kn : Bool) (a b s n d x st gap : Int) (l : List Sl) (own now most : Int) : Int × Bool :=
  if (decide (0 ≤ most ∧ most ≤ 400) && timeOk now) = true then waitQ kn a b s n d x st gap l own now most.toNat else (0, false)
theorem sGateWait (kn : Bool) (a b s n d x st gap : Int) (l : List Sl) (hl : l.length ≤ 1048576) (own now most : Int) (k : Nat) (hk : 1051000 ≤ k) :
    spec_GateWait.f k kn a b s n d x st gap l own now most = some (gateWait kn a b s n d x st gap l own now most) := by
  obtain ⟨k, rfl⟩ : ∃ j, k = j + 1 := ⟨k - 1, by omega⟩
  have hj : spec_GateWait.j0 (k + 1) x own now most true kn a b s n d st gap l = some (0, false) := by simp [spec_GateWait.j0]
  unfold spec_GateWait.f gateWait
  simp only [l1In, l2Time, Option.bind_some]
  change (if decide (0 ≤ most ∧ most ≤ 400) = true then spec_GateWait.j0 (k + 1) x own now most (!timeOk now) kn a b s n d st gap l else _) = _
  cases h1 : decide (0 ≤ most ∧ most ≤ 400) with
  | false => rw [hj]; simp
  | true =>
    cases h3 : timeOk now with
    | false => rw [Bool.not_false, hj]; simp
    | true =>
      rw [timeOk_iff] at h3
      have h1 := of_decide_eq_true h1
      obtain ⟨m, rfl⟩ := Int.eq_ofNat_of_zero_le h1.1
      simp only [Bool.not_true, spec_GateWait.j0, Bool.false_eq_true, if_false, if_true, Bool.and_self, Int.toNat_natCast]
      unfold waitQ
      refine find_loop0 (n := m + 1) (c := 1050202) (L := fun k i => spec_GateWait.l0 k x own now (m : Int) i kn a b s n d st gap l) (fun k i hi hk => ?_) (fun k => ?_) k (by omega)
      · simp only [spec_GateWait.l0]
        rw [if_pos (by omega), wrap_id (x := now + (i : Int)) (by omega) (by omega), wrap_succ hi (by omega), sCarryOn _ _ _ _ _ _ _ _ (by omega)]
        simp only [Option.bind_some]
        rw [sGateAsk _ _ _ _ _ _ _ _ l hl _ _ (by omega)]
        simp only [Option.bind_some]
        unfold goes
        by_cases e1 : (carryOn kn a b s n d (now + i)).2.2 = 0
        · rw [if_pos e1, e1]
          by_cases e2 : (gateAsk (carryOn kn a b s n d (now + i)).1 (carryOn kn a b s n d (now + i)).2.1 true n d x st gap l own).2.2 = 0
          · rw [if_pos e2, e2]; simp
          · rw [if_neg e2]; simp [e2]
        · rw [if_neg e1]; simp [e1]
      · simp only [spec_GateWait.l0]
        rw [if_neg (by omega)]
theorem iGateWait (kn : Bool) (a b s n d x st gap : Int) (l : List Sl) (hl : l.length ≤ 1048576) (own now most : Int) (k : Nat) (hk : 1051000 ≤ k) :
    impl_GateWait.f k kn a b s n d x st gap l own now most = some (gateWait kn a b s n d x st gap l own now most) := by
  obtain ⟨k, rfl⟩ : ∃ j, k = j + 1 := ⟨k - 1, by omega⟩
  have hj : impl_GateWait.j0 (k + 1) x own now most true kn a b s n d st gap l = some (0, false) := by simp [impl_GateWait.j0]
  unfold impl_GateWait.f gateWait
  simp only [in_, isTime, Option.bind_some]
  change (if timeOk now = true then impl_GateWait.j0 (k + 1) x own now most (!decide (0 ≤ most ∧ most ≤ 400)) kn a b s n d st gap l else _) = _
  cases h3 : timeOk now with
  | false => rw [hj]; simp
  | true =>
    cases h1 : decide (0 ≤ most ∧ most ≤ 400) with
    | false => rw [Bool.not_false, hj]; simp
    | true =>
      rw [timeOk_iff] at h3
      have h1 := of_decide_eq_true h1
      obtain ⟨m, rfl⟩ := Int.eq_ofNat_of_zero_le h1.1
      simp only [Bool.not_true, impl_GateWait.j0, Bool.false_eq_true, if_false, if_true, Bool.and_self, Int.toNat_natCast]
      rw [wrap_id (x := (m : Int) + 1) (by omega) (by omega)]
      unfold waitQ
      refine find_loop0 (n := m + 1) (c := 1050202) (L := fun k i => impl_GateWait.l0 k x own now ((m : Int) + 1) i kn a b s n d st gap l) (fun k i hi hk => ?_) (fun k => ?_) k (by omega)
      · simp only [impl_GateWait.l0]
        rw [if_pos (by omega), wrap_id (x := now + (i : Int)) (by omega) (by omega), wrap_succ hi (by omega), iCarryOn _ _ _ _ _ _ _ _ (by omega)]
        simp only [Option.bind_some]
        rw [iGateAsk _ _ _ _ _ _ _ _ l hl _ _ (by omega)]
        simp only [Option.bind_some]
        unfold goes
        by_cases e1 : (carryOn kn a b s n d (now + i)).2.2 = 0
        · rw [if_pos e1, e1]
          by_cases e2 : (gateAsk (carryOn kn a b s n d (now + i)).1 (carryOn kn a b s n d (now + i)).2.1 true n d x st gap l own).2.2 = 0
          · rw [if_pos e2, e2]; simp
          · rw [if_neg e2]; simp [e2]
        · rw [if_neg e1]; simp [e1]
      · simp only [impl_GateWait.l0]
        rw [if_neg (by omega)]
end Go.Proofs.Ytejohmompmjhnaa.C
namespace Go.Proofs.Ytejohmompmjhnaa.V
open Go.RowKit Go.Proofs.Ytejohmompmjhnaa.P Go.Proofs.Ytejohmompmjhnaa.C Go.Proofs.Ytejohmompmjhnaa.G
theorem FnExactGateWait : ∀ (a0_0 : Bool) (a0_1 : Int) (a0_2 : Int) (a0_3 : Int) (a1_0 : Int) (a1_1 : Int) (a2 : Int) (a3_0 : Int) (a3_1 : Int) (l3_2 : List (S104)) (a4 : Int) (a5 : Int) (a6 : Int), (Lit.int .i64 a0_1).wf = true → (Lit.int .i64 a0_2).wf = true → (Lit.int .i64 a0_3).wf = true → (Lit.int .i64 a1_0).wf = true → (Lit.int .i64 a1_1).wf = true → (Lit.int .i64 a2).wf = true → (Lit.int .i64 a3_0).wf = true → (Lit.int .i64 a3_1).wf = true → (l3_2.length ≤ 9223372036854775807 ∧ ∀ y ∈ l3_2, ((Lit.int .i64 y.f0).wf = true ∧ (Lit.int .i64 y.f1).wf = true)) → (Lit.int .i64 a4).wf = true → (Lit.int .i64 a5).wf = true → (Lit.int .i64 a6).wf = true → ∃ k, laws_FnExactGateWait.f k a0_0 a0_1 a0_2 a0_3 a1_0 a1_1 a2 a3_0 a3_1 l3_2 a4 a5 a6 = some true := by
  intro kn a b s n d x st gap l own now most _ _ _ _ _ _ _ _ hl0 _ _ _
  obtain ⟨hl, _⟩ := hl0
  refine ⟨2000000, ?_⟩
  unfold laws_FnExactGateWait.f
  rcases szPlan st gap l hl 1048576 (by omega) with h | ⟨h, hs⟩
  · rw [h]; simp
  rw [h]
  simp only [Option.bind_some]
  rw [if_neg (by omega)]
  have hm : (l.map toSl).length = l.length := by simp
  have hj : ∀ k, 1999000 ≤ k → laws_FnExactGateWait.j0 k false st gap l st gap (l.map toSl) = some true := by
    intro k hk
    obtain ⟨k, rfl⟩ : ∃ j, k = j + 1 := ⟨k - 1, by omega⟩
    simp only [laws_FnExactGateWait.j0]
    rw [if_neg (by decide), toPlan st gap l (by omega) _ (by omega)]
    simp only [Option.bind_some]
    rw [eqPlan _ _ _ (by omega) _ (by omega)]
    rfl
  simp only [laws_toLocal.f, laws_toIval.f, laws_toDrift.f, Option.bind_some]
  rw [toPlan st gap l (by omega) _ (by omega)]
  simp only [Option.bind_some]
  rw [sGateWait _ _ _ _ _ _ _ _ _ _ (by omega) _ _ _ _ (by omega), iGateWait _ _ _ _ _ _ _ _ _ _ (by omega) _ _ _ _ (by omega)]
  simp only [Option.bind_some, if_true, bne_self_eq_false]
  exact hj _ (by omega)
end Go.Proofs.Ytejohmompmjhnaa.V
namespace Go.Proofs.Ytejohmompmjhnaa.Args
open Go.ChangeShapes Go.WideShapes Go.Deep Go.Proofs.YtejohmompmjhnaaW.PrintWords
theorem trod_field {H : Type} {enc : TypeId × Value → H} {P : Program} {w : World} {base : Nat} {spare : Nat → Bool} {held : Bool} {fuel : Nat} {t : TypeId} {cs : List Value} {x : DataW H × List MemPlace} {fs : Array Field}
    (ht : P.underlying t = some (.struct fs)) (h : DataW.trod enc P w base spare held fuel t cs = some x) :
    cs.length = P.cellsOf t ∧ ∀ (i : Nat) (f : Field), fs[i]? = some f → ∃ n y, DataW.trod enc P w base spare held n f.type ((cs.drop f.offset).take (P.cellsOf f.type)) = some y := by
  obtain ⟨xs, n, rfl, _, hl, hx, hf⟩ := DataW.trod_struct ht h
  refine ⟨hl, fun i f hi => ⟨n, ?_⟩⟩
  have hi2 : i < fs.size := by
    rcases Nat.lt_or_ge i fs.size with h' | h'
    · exact h'
    · rw [Array.getElem?_eq_none h'] at hi; cases hi
  obtain ⟨y, hy⟩ : ∃ y, xs[i]? = some y := ⟨_, List.getElem?_eq_getElem (by omega)⟩
  exact ⟨y, by rw [hf i f hi, hy]⟩
theorem trod_at {H : Type} {enc : TypeId × Value → H} {P : Program} {w : World} {base : Nat} {spare : Nat → Bool} {held : Bool} {fuel : Nat} {t : TypeId} {cs : List Value} {x : DataW H × List MemPlace} {fs : Array Field}
    (ht : P.underlying t = some (.struct fs)) (h : DataW.trod enc P w base spare held fuel t cs = some x) (i : Nat) (ft : TypeId) (off sz : Nat) (cs' : List Value)
    (hf : ∃ f, fs[i]? = some f ∧ f.type = ft ∧ f.offset = off) (hw : P.cellsOf ft = sz) (hc : (cs.drop off).take sz = cs') : ∃ n y, DataW.trod enc P w base spare held n ft cs' = some y := by
  obtain ⟨f, h1, rfl, rfl⟩ := hf
  subst hw hc
  exact (trod_field ht h).2 i f h1
def Opens (P : Program) (t : TypeId) {α : Type} (d : Kd α) (B : α → Prop) : Prop :=
  ∀ {H : Type} {enc : TypeId × Value → H} {w : World} {base : Nat} {spare : Nat → Bool} {held : Bool} {fuel : Nat} {cs : List Value} {x : DataW H × List MemPlace},
    DataW.trod enc P w base spare held fuel t cs = some x → ∃ a, d.K w a cs ∧ B a
theorem open_row {H : Type} {enc : TypeId × Value → H} {P : Program} {w : World} {base : Nat} {spare : Nat → Bool} {held : Bool} {fuel : Nat} {t e : TypeId} {c : Value} {x : DataW H × List MemPlace} {α : Type} {d : Kd α} {B : α → Prop} (z : α)
    (ht : P.underlying t = some (.slice e)) (hsz : P.cellsOf e = d.sz) (he : Opens P e d B) (h : DataW.trod enc P w base spare held fuel t [c] = some x) :
    ∃ A cap l, c = .slice A l.length cap ∧ Kd.C d w A l.length l ∧ l.length ≤ cap ∧ l.length ≤ 9223372036854775807 ∧ ∀ y ∈ l, B y := by
  haveI : Inhabited α := ⟨z⟩
  rcases open_slice ht h with ⟨hc, _⟩ | ⟨a, len, cap, m, n, D, Pl, hc, _, hl, hm, hmm, _, hx⟩
  · obtain rfl := List.head_eq_of_cons_eq hc
    exact ⟨none, 0, [], rfl, Kd.C_nil _ _, Nat.le_refl _, by simp, fun y hy => by cases hy⟩
  · obtain rfl := List.head_eq_of_cons_eq hc
    have hlm : len ≤ m := by rw [hmm]; split <;> omega
    obtain ⟨f, hf⟩ := choose_lt (α := α) (n := len) (p := fun i y => (∃ c', c'.length = d.sz ∧ d.K w y c' ∧ ∀ k u, c'[k]? = some u → w.cell? (a.add (i * d.sz + k)) = some u) ∧ B y) (fun i hi => by
      obtain ⟨cs', h1, h2⟩ := hx i (by omega)
      obtain ⟨y, hk, hb⟩ := he h2
      refine ⟨y, ⟨cs', d.K_len hk, hk, fun k u hu => ?_⟩, hb⟩
      obtain ⟨_, hlen, hcell⟩ := World.cells?_some h1
      have hk2 : k < cs'.length := (List.getElem?_eq_some_iff.1 hu).1
      have := hcell k (by omega)
      rw [hsz, Addr.add_add] at this
      rw [this, hu])
    have hmax : len ≤ 9223372036854775807 := by unfold maxLen at hm; omega
    refine ⟨some a, cap, (List.range len).map f, by simp, ⟨by simp, by simpa using hmax, fun _ => ⟨a, rfl, fun j p hj => ?_⟩⟩, by simpa using hl, by simpa using hmax, fun y hy => ?_⟩
    · have hj2 : j < len := by simpa using (List.getElem?_eq_some_iff.1 hj).1
      rw [List.getElem?_map, List.getElem?_range hj2] at hj
      obtain rfl := Option.some.inj hj
      exact (hf j hj2).1
    · obtain ⟨j, hj, rfl⟩ := List.mem_map.1 hy
      exact (hf j (List.mem_range.1 hj)).2
theorem opens_int {P : Program} {t : TypeId} {k : IntKind} (ht : P.underlying t = some (.int k)) : Opens P t (Kd.int k) (fun x => (Lit.int k x).wf = true) := by
  intro H enc w base spare held fuel cs x h
  obtain ⟨n, rfl, _, hw⟩ := DataW.trod_int ht h
  exact ⟨n, rfl, hw⟩
theorem opens_bool {P : Program} {t : TypeId} (ht : P.underlying t = some .bool) : Opens P t Kd.bool (fun _ => True) := by
  intro H enc w base spare held fuel cs x h
  obtain ⟨n, rfl, _⟩ := DataW.trod_bool ht h
  exact ⟨n, rfl, trivial⟩
theorem opens_string {P : Program} {t : TypeId} (ht : P.underlying t = some .string) : Opens P t Kd.string (fun s => s.size ≤ 9223372036854775807) := by
  intro H enc w base spare held fuel cs x h
  obtain ⟨s, rfl, _, hs⟩ := DataW.trod_string ht h
  exact ⟨s, rfl, by unfold maxLen at hs; exact hs⟩
theorem opens_slice {P : Program} {t e : TypeId} {α : Type} {d : Kd α} {B : α → Prop} (z : α) (ht : P.underlying t = some (.slice e)) (hsz : P.cellsOf e = d.sz) (hc : P.cellsOf t = 1) (he : Opens P e d B) :
    Opens P t (Kd.slice e d) (fun l => l.length ≤ 9223372036854775807 ∧ ∀ y ∈ l, B y) := by
  intro H enc w base spare held fuel cs x h
  have h1 : ∃ c, cs = [c] := by
    rcases open_slice ht h with ⟨hc, _⟩ | ⟨a, len, cap, m, n, D, Pl, hc, _⟩
    · exact ⟨_, hc⟩
    · exact ⟨_, hc⟩
  obtain ⟨c, rfl⟩ := h1
  obtain ⟨A, cap, l, rfl, h1, h2, h3, h4⟩ := open_row z ht hsz he h
  exact ⟨l, ⟨A, cap, rfl, h2, h1⟩, h3, h4⟩
end Go.Proofs.Ytejohmompmjhnaa.Args
