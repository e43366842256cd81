/- Texts of the seat's proofs, part 8: functions of the program told as plain functions, with their contracts, and what is shown of them. No condition. -/
import Derived.Test.YtknckcakcknbbaaU
import Derived.Test.YtknckcakcknbbaaM1
import Derived.Test.YtknckcakcknbbaaM3
import Derived.Test.YtknckcakcknbbaaM7
import Derived.Test.YtknckcakcknbbaaM5
import Derived.Test.YtknckcakcknbbaaM4
import Derived.Test.YtknckcakcknbbaaM6
import Derived.Deep.Slices
import Derived.ProofKit
import Derived.OpenShut
set_option linter.unusedVariables false
set_option linter.unusedSimpArgs false
namespace Go.Proofs.Ytknckcakcknbbaa.P
open Go.RowKit Go.Proofs.YtknckcakcknbbaaW.PrintWords Go.Proofs.YtknckcakcknbbaaW.PrintLast Go.Proofs.YtknckcakcknbbaaW.PrintMore
attribute [local go_sem] max2_int min2_int max_two min_two max_three min_three max_four min_four
set_option linter.unusedVariables false
set_option linter.unusedSimpArgs false
def spec_HeardLost.l0 : Nat → List Int → List Int → Int → Int → Int → List (S89) → Option (List Int)
  | 0, _, _, _, _, _, _ => none
  | k + 1, x9, x10, x11, x423000, x423001, x423002 => if x11 < (x423002.length : Int) then ((spec_l16Has.f k x10 x11).bind fun t431 => (if t431 = true then (spec_HeardLost.l0 k x9 x10 (wrap64 (x11 + 1)) x423000 x423001 x423002) else (if x9.length < 17592186044416 then (spec_HeardLost.l0 k (x9 ++ [x11]) x10 (wrap64 (x11 + 1)) x423000 x423001 x423002) else (none)))) else (some x9)
def spec_HeardLost.f (k : Nat) (l0 : List (S73)) (a1_0 : Int) (a1_1 : Int) (l1_2 : List (S89)) (a2_0 : Int) (a2_1 : Int) (a3 : Int) : Option (List Int) := (some (([] : List Int) : List Int)).bind fun y424 => ((spec_l16Right.f k l0 a1_0 a1_1 l1_2 a2_0 a2_1 a3).bind fun t427 => (if t427 = true then ((spec_HeardNow.f k l0 a1_0 a1_1 l1_2 a2_0 a2_1 a3).bind fun t428 => (spec_HeardLost.l0 k y424 t428 0 a1_0 a1_1 l1_2)) else (some y424)))
theorem spec_HeardLost.mono_l : ∀ k, (∀ y0 y1 y2 y3 y4 y5, LeO (spec_HeardLost.l0 k y0 y1 y2 y3 y4 y5) (spec_HeardLost.l0 (k + 1) y0 y1 y2 y3 y4 y5))
  | 0 => fun _ _ _ _ _ _ r h => by simp [spec_HeardLost.l0] at h
  | k + 1 => by
    have ih0 := spec_HeardLost.mono_l k
    · intro y0 y1 y2 y3 y4 y5
      unfold spec_HeardLost.l0
      repeat' first
      | (with_reducible exact ih0 _ _ _ _ _ _)
      | (with_reducible exact spec_HeardNow.mono _ _ _ _ _ _ _ _)
      | (with_reducible exact spec_l16Has.mono _ _ _)
      | (with_reducible exact spec_l16Right.mono _ _ _ _ _ _ _ _)
      | (with_reducible exact LeO.refl _)
      | (with_reducible exact LeO.none _)
      | (with_reducible refine LeO.ite ?_ ?_)
      | (with_reducible refine LeO.bind ?_ (fun _ => ?_))
      | exact ih0 _ _ _ _ _ _
      | exact spec_HeardNow.mono _ _ _ _ _ _ _ _
      | exact spec_l16Has.mono _ _ _
      | exact spec_l16Right.mono _ _ _ _ _ _ _ _
      | exact LeO.none _
      | refine LeO.ite ?_ ?_
      | refine LeO.bind ?_ (fun _ => ?_)
theorem spec_HeardLost.mono : ∀ a0 a1 a2 a3 a4 a5 a6 k, LeO (spec_HeardLost.f k a0 a1 a2 a3 a4 a5 a6) (spec_HeardLost.f (k + 1) a0 a1 a2 a3 a4 a5 a6) := by
  intro a0 a1 a2 a3 a4 a5 a6 k
  have ih0 := spec_HeardLost.mono_l k
  unfold spec_HeardLost.f
  repeat' first
      | (with_reducible exact ih0 _ _ _ _ _ _)
      | (with_reducible exact spec_HeardNow.mono _ _ _ _ _ _ _ _)
      | (with_reducible exact spec_l16Has.mono _ _ _)
      | (with_reducible exact spec_l16Right.mono _ _ _ _ _ _ _ _)
      | (with_reducible exact LeO.refl _)
      | (with_reducible exact LeO.none _)
      | (with_reducible refine LeO.ite ?_ ?_)
      | (with_reducible refine LeO.bind ?_ (fun _ => ?_))
      | exact ih0 _ _ _ _ _ _
      | exact spec_HeardNow.mono _ _ _ _ _ _ _ _
      | exact spec_l16Has.mono _ _ _
      | exact spec_l16Right.mono _ _ _ _ _ _ _ _
      | exact LeO.none _
      | refine LeO.ite ?_ ?_
      | refine LeO.bind ?_ (fun _ => ?_)
set_option maxHeartbeats 8000000 in
set_option maxRecDepth 100000 in
theorem spec_HeardLost.calls (k : Nat) (A0 : Option Addr) (c0 : Nat) (l0 : List (S73)) (a1_0 : Int) (a1_1 : Int) (A1_2 : Option Addr) (c1_2 : Nat) (l1_2 : List (S89)) (a2_0 : Int) (a2_1 : Int) (a3 : Int) (r : List Int) (w : World) (hr0 : Kd.C k73 w A0 l0.length l0) (hc0 : l0.length ≤ c0) (hr1_2 : Kd.C k89 w A1_2 l1_2.length l1_2) (hc1_2 : l1_2.length ≤ c1_2) (h : spec_HeardLost.f k l0 a1_0 a1_1 l1_2 a2_0 a2_1 a3 = some r) :
    Calls Try.prog 25 #[.slice A0 l0.length c0, .agg #[.int .i64 a1_0, .int .i64 a1_1, .slice A1_2 l1_2.length c1_2], .agg #[.int .i64 a2_0, .int .i64 a2_1], .int .i64 a3] w fun e w' => ∃ v0_ : Value, e = .returned (v0_) ∧ Kd.R (Kd.int .i64) 3 w' w.heap.size (fun _ => True) v0_ r ∧ Below w.heap.size w w' := by
  have hu42 := Try.underlying42
  have hu44 := Try.underlying44
  have HR0 := Aside0.mk hr0
  have HC0 := Aside0.mk hc0
  clear hr0 hc0
  have HR1_2 := Aside0.mk hr1_2
  have HC1_2 := Aside0.mk hc1_2
  clear hr1_2 hc1_2
  have HB := Aside0.mk (Below.refl w.heap.size w)
  have H : ((some (([] : List Int) : List Int)).bind fun y424 => ((spec_l16Right.f k l0 a1_0 a1_1 l1_2 a2_0 a2_1 a3).bind fun t427 => (if t427 = true then ((spec_HeardNow.f k l0 a1_0 a1_1 l1_2 a2_0 a2_1 a3).bind fun t428 => (spec_HeardLost.l0 k y424 t428 0 a1_0 a1_1 l1_2)) else (some y424)))) = some r := h
  clear h
  obtain ⟨y424, hy424⟩ : ∃ y_ : List Int, y_ = (([] : List Int)) := ⟨_, rfl⟩
  replace H : ((spec_l16Right.f k l0 a1_0 a1_1 l1_2 a2_0 a2_1 a3).bind fun t427 => (if t427 = true then ((spec_HeardNow.f k l0 a1_0 a1_1 l1_2 a2_0 a2_1 a3).bind fun t428 => (spec_HeardLost.l0 k y424 t428 0 a1_0 a1_1 l1_2)) else (some y424))) = some r := by first | (rw [hy424]; with_reducible exact H) | (have H2_ := (Option.bind_some _ _).symm.trans H; rw [hy424]; with_reducible exact H2_) | (have H2_ := (Option.bind_some _ _).symm.trans H; with_reducible exact H2_) | with_reducible exact H | (rw [hy424]; exact H) | exact H
  have Ny424 := Aside0.mk hy424
  clear hy424
  replace H := Option.bind_eq_some_iff.mp H
  obtain ⟨t427, A50, H⟩ := H
  replace H : (if t427 = true then ((spec_HeardNow.f k l0 a1_0 a1_1 l1_2 a2_0 a2_1 a3).bind fun t428 => (spec_HeardLost.l0 k y424 t428 0 a1_0 a1_1 l1_2)) else (some y424)) = some r := H
  have A5 := Aside0.mk A50
  clear A50
  by_cases c6 : t427 = true
  · subst c6
    have H1 : ((spec_HeardNow.f k l0 a1_0 a1_1 l1_2 a2_0 a2_1 a3).bind fun t428 => (spec_HeardLost.l0 k y424 t428 0 a1_0 a1_1 l1_2)) = some r := by rw [if_pos rfl] at H; exact H
    clear H
    have H := H1
    clear H1
    replace H := Option.bind_eq_some_iff.mp H
    obtain ⟨t428, A70, H⟩ := H
    replace H : (spec_HeardLost.l0 k y424 t428 0 a1_0 a1_1 l1_2) = some r := H
    have A7 := Aside0.mk A70
    clear A70
    have H' := Aside0.mk H
    clear H
    go_enter Try.func25, Try.ntmps25
    go_wp2_with (first | ((with_reducible refine gate_dst (N := 5) rfl ?_); refine box_event ?hg (N := 5) ?hd (cs := #[.int .i64 a1_0, .int .i64 a1_1, .slice A1_2 l1_2.length c1_2]) (t := 42) ?hr ?_; (case hd => rfl); (case hg => rfl); (case hr => first | (go_simp; done) | (go_simp; rfl)); intro gb422 hg w8 hbox hb; have n0_ := Aside0.mk (below_step (hb_ HB.out) hb); have n1_ := Aside0.mk (hbox); have n2_ := Aside0.mk ((by rw [hg]; exact (below_size (hb_ HB.out)) : w.heap.size ≤ gb422)); have n3_ := Aside0.mk ((by rw [hg]; exact (below_size (hb_ HB.out)) : w.heap.size ≤ gb422)); clear HB; have HB := n0_; have BK422 := n1_; have GW422 := n2_; have GE422 := n3_; clear n0_ n1_ n2_ n3_; clear hb hbox hg) | ((with_reducible refine gate_dst (N := 6) rfl ?_); refine box_event ?hg (N := 6) ?hd (cs := #[.int .i64 a2_0, .int .i64 a2_1]) (t := 44) ?hr ?_; (case hd => rfl); (case hg => rfl); (case hr => first | (go_simp; done) | (go_simp; rfl)); intro gb423 hg w9 hbox hb; have n0_ := Aside0.mk (bb_ BK422.out hb); have n1_ := Aside0.mk (below_step (hb1_ HB.out GE422.out) hb); have n2_ := Aside0.mk (hbox); have n3_ := Aside0.mk ((by rw [hg]; exact (below_size (hb1_ HB.out GE422.out)) : w.heap.size ≤ gb423)); have n4_ := Aside0.mk ((by rw [hg]; exact (below_size (hb1_ HB.out GE422.out)) : w.heap.size ≤ gb423)); have n5_ := Aside0.mk ((bl_ hg BK422.out : gb422 ≠ gb423)); have n6_ := Aside0.mk ((bg_ hg BK422.out : gb423 ≠ gb422)); clear BK422; clear HB; have BK422 := n0_; have HB := n1_; have BK423 := n2_; have GW423 := n3_; have GE423 := n4_; have NB422_423 := n5_; have NB423_422 := n6_; clear n0_ n1_ n2_ n3_ n4_ n5_ n6_; clear hb hbox hg) | ((with_reducible refine gate_dst (N := 12) rfl ?_); refine Kd.R_lit (Kd.int .i64) _ 3 ?hg (N := 12) ?hd (xs := ([] : List Int)) (inner := []) (ok := fun _ => True) (okp := fun _ => True) ?hr ?hp (fun _ hk => hk) trivial (Below.refl _ _) (Nat.le_refl _) (by simp) ?_; (case hd => rfl); (case hg => rfl); (case hr => first | (go_simp; done) | (go_simp; rfl)); (case hp => exact (Reps.none _ _)); intro v425 w10 ho11 hb hg_ hnew_; clear hg_ hnew_; (first | rw [← Ny424.out] at ho11 | (simp only [Int.reduceToNat] at ho11; rw [← Ny424.out] at ho11)); have n0_ := Aside0.mk (Kd.R_lower ho11 (below_size (hb2_ HB.out GE422.out GE423.out))); have n1_ := Aside0.mk (bb_ BK422.out hb); have n2_ := Aside0.mk (bb_ BK423.out hb); have n3_ := Aside0.mk (below_step (hb2_ HB.out GE422.out GE423.out) hb); clear BK422; clear BK423; clear HB; have HO426 := n0_; have BK422 := n1_; have BK423 := n2_; have HB := n3_; clear n0_ n1_ n2_ n3_; clear hb ho11; have hnb12 := NB422_423.out; have hnc12 := NB423_422.out; have hcz13_0 := bc_ BK422.out 0 (.int .i64 a1_0) rfl; have hcz13_1 := bc_ BK422.out 1 (.int .i64 a1_1) rfl; have hcz13_2 := bc_ BK422.out 2 (.slice A1_2 l1_2.length c1_2) rfl; have hfz13_0 := blk_frozen BK422.out 0; have hfz13_1 := blk_frozen BK422.out 1; have hfz13_2 := blk_frozen BK422.out 2; have hcz14_0 := bc_ BK423.out 0 (.int .i64 a2_0) rfl; have hcz14_1 := bc_ BK423.out 1 (.int .i64 a2_1) rfl; have hfz14_0 := blk_frozen BK423.out 0; have hfz14_1 := blk_frozen BK423.out 1) | ((with_reducible refine gate_callee (f := 49) rfl ?_); refine goesL_ (some 17) rfl rfl Try.func49 (by kernel_rfl) rfl #[.slice A0 l0.length c0, .agg #[.int .i64 a1_0, .int .i64 a1_1, .slice A1_2 l1_2.length c1_2], .agg #[.int .i64 a2_0, .int .i64 a2_1], .int .i64 a3] rfl arr_ ?_; (with_reducible refine (spec_l16Right.calls k _ _ l0 a1_0 a1_1 _ _ l1_2 a2_0 a2_1 a3 true _ ?side1 ?side2 ?side3 ?side4 A5.out).mono ?_); (case side1 => exact kc_ (Kd.C_below HR0.out HB.out)); (case side2 => exact HC0.out); (case side3 => exact kc_ (Kd.C_below HR1_2.out HB.out)); (case side4 => exact HC1_2.out); rintro e w15 ⟨rfl, hb⟩; refine ⟨_, rfl, ?_⟩; have n0_ := Aside0.mk (Kd.R_below (by (with_reducible repeat (first | apply Kd.R_alloc | apply Kd.R_drewN | apply Kd.R_drew)); exact HO426.out) hb); have n1_ := Aside0.mk (bb_ BK422.out hb); have n2_ := Aside0.mk (bb_ BK423.out hb); have n3_ := Aside0.mk (below_step (hb2_ HB.out GE422.out GE423.out) hb); clear HO426; clear BK422; clear BK423; clear HB; have HO426 := n0_; have BK422 := n1_; have BK423 := n2_; have HB := n3_; clear n0_ n1_ n2_ n3_; (try clear hb); (try clear hb2); (try clear hk); (try clear hi); have hcz16_0 := bc_ BK422.out 0 (.int .i64 a1_0) rfl; have hcz16_1 := bc_ BK422.out 1 (.int .i64 a1_1) rfl; have hcz16_2 := bc_ BK422.out 2 (.slice A1_2 l1_2.length c1_2) rfl; have hfz16_0 := blk_frozen BK422.out 0; have hfz16_1 := blk_frozen BK422.out 1; have hfz16_2 := blk_frozen BK422.out 2; have hcz17_0 := bc_ BK423.out 0 (.int .i64 a2_0) rfl; have hcz17_1 := bc_ BK423.out 1 (.int .i64 a2_1) rfl; have hfz17_0 := blk_frozen BK423.out 0; have hfz17_1 := blk_frozen BK423.out 1) | ((with_reducible refine gate_callee (f := 19) rfl ?_); refine goesL_ (some 24) rfl rfl Try.func19 (by kernel_rfl) rfl #[.slice A0 l0.length c0, .agg #[.int .i64 a1_0, .int .i64 a1_1, .slice A1_2 l1_2.length c1_2], .agg #[.int .i64 a2_0, .int .i64 a2_1], .int .i64 a3] rfl arr_ ?_; (with_reducible refine (spec_HeardNow.calls k _ _ l0 a1_0 a1_1 _ _ l1_2 a2_0 a2_1 a3 t428 _ ?side1 ?side2 ?side3 ?side4 A7.out).mono ?_); (case side1 => exact kc_ (Kd.C_below HR0.out HB.out)); (case side2 => exact HC0.out); (case side3 => exact kc_ (Kd.C_below HR1_2.out HB.out)); (case side4 => exact HC1_2.out); rintro e w18 ⟨v429, rfl, ho0, hb⟩; refine ⟨_, rfl, ?_⟩; have n0_ := Aside0.mk (Kd.R_elder' (by (with_reducible repeat (first | apply Kd.R_alloc | apply Kd.R_drewN | apply Kd.R_drew)); exact HO426.out) (Kd.R_base ho0) hb); have n1_ := Aside0.mk (Kd.R_lower (Kd.R_new' ho0 (Kd.R_lt (by (with_reducible repeat (first | apply Kd.R_alloc | apply Kd.R_drewN | apply Kd.R_drew)); exact HO426.out))) (below_size (hb2_ HB.out GE422.out GE423.out))); have n2_ := Aside0.mk (bb_ BK422.out hb); have n3_ := Aside0.mk (bb_ BK423.out hb); have n4_ := Aside0.mk (below_step (hb2_ HB.out GE422.out GE423.out) hb); clear HO426; clear BK422; clear BK423; clear HB; have HO426 := n0_; have HO430 := n1_; have BK422 := n2_; have BK423 := n3_; have HB := n4_; clear n0_ n1_ n2_ n3_ n4_; (try clear hb); (try clear hb2); (try clear hk); (try clear hi); (try clear ho0)))
    go_loopg [9, 11] k (fun kq v9 v11 w' => ∃ (x9_1 : List Int) (x11_1 : Int), v11 = .int .i64 x11_1 ∧ Aside0 (spec_HeardLost.l0 kq x9_1 t428 x11_1 a1_0 a1_1 l1_2 = some r) ∧ Aside0 (kq ≤ k) ∧ Aside0 (Kd.R (Kd.int .i64) 3 w' w.heap.size (fun k_ => some k_ ≠ (v429 : Value).ownBlock) v9 x9_1) ∧ Aside0 (Kd.R (Kd.int .i64) 3 w' w.heap.size (fun k_ => some k_ ≠ (v9 : Value).ownBlock) v429 t428) ∧ Aside0 (w'.heap[gb422]? = some (.cells #[.int .i64 a1_0, .int .i64 a1_1, (.slice A1_2 l1_2.length c1_2)] 42 (0, 0))) ∧ Aside0 (w'.heap[gb423]? = some (.cells #[.int .i64 a2_0, .int .i64 a2_1] 44 (0, 0))) ∧ Aside0 (Below w.heap.size w w'))
    case atStart => exact ⟨(y424), (0), (by first | rfl | (simp; done) | (simp [*]; done)), H', ⟨Nat.le_refl _⟩, ⟨by (with_reducible repeat (first | apply Kd.R_alloc | apply Kd.R_drewN | apply Kd.R_drew)); exact Kd.R_mono HO426.out (fun _ hk => hk.2)⟩, ⟨by (with_reducible repeat (first | apply Kd.R_alloc | apply Kd.R_drewN | apply Kd.R_drew)); exact Kd.R_mono HO430.out (fun _ hk => hk.2)⟩, ⟨bk_ BK422.out⟩, ⟨bk_ BK423.out⟩, ⟨hb2_ HB.out GE422.out GE423.out⟩⟩
    case round =>
      clear H'
      try clear c1
      try clear c2
      try clear p2
      try clear c4
      try clear c6
      try clear c12
      try clear hcz13_0
      try clear hcz13_1
      try clear hcz13_2
      try clear hcz14_0
      try clear hcz14_1
      try clear hcz16_0
      try clear hcz16_1
      try clear hcz16_2
      try clear hcz17_0
      try clear hcz17_1
      try clear hfz13_0
      try clear hfz13_1
      try clear hfz13_2
      try clear hfz14_0
      try clear hfz14_1
      try clear hfz16_0
      try clear hfz16_1
      try clear hfz16_2
      try clear hfz17_0
      try clear hfz17_1
      obtain ⟨x9_1, x11_1, rfl, HA, HK1, HO_9, HO_10, BK422, BK423, HB⟩ := hrel
      cases gk with
      | zero => exact absurd HA.out (by simp [spec_HeardLost.l0])
      | succ k1 =>
        have H := HA.out
        clear HA
        simp only [spec_HeardLost.l0] at H
        by_cases c19 : x11_1 < (l1_2.length : Int)
        · rw [if_pos c19] at H
          have c19b0 : decide (x11_1 < (l1_2.length : Int)) = true := decide_eq_true c19
          clear c19
          replace H := Option.bind_eq_some_iff.mp H
          obtain ⟨t431, A200, H⟩ := H
          replace H : (if t431 = true then (spec_HeardLost.l0 k1 x9_1 t428 (wrap64 (x11_1 + 1)) a1_0 a1_1 l1_2) else (if x9_1.length < 17592186044416 then (spec_HeardLost.l0 k1 (x9_1 ++ [x11_1]) t428 (wrap64 (x11_1 + 1)) a1_0 a1_1 l1_2) else (none))) = some r := H
          have A20 := Aside0.mk A200
          clear A200
          by_cases c21 : t431 = true
          · subst c21
            have H1 : (spec_HeardLost.l0 k1 x9_1 t428 (wrap64 (x11_1 + 1)) a1_0 a1_1 l1_2) = some r := by rw [if_pos rfl] at H; exact H
            clear H
            have H := H1
            clear H1
            have H' := Aside0.mk H
            clear H
            have hnb22 := NB422_423.out
            have hnc22 := NB423_422.out
            have hcz23_0 := bc_ BK422.out 0 (.int .i64 a1_0) rfl
            have hcz23_1 := bc_ BK422.out 1 (.int .i64 a1_1) rfl
            have hcz23_2 := bc_ BK422.out 2 (.slice A1_2 l1_2.length c1_2) rfl
            have hfz23_0 := blk_frozen BK422.out 0
            have hfz23_1 := blk_frozen BK422.out 1
            have hfz23_2 := blk_frozen BK422.out 2
            obtain ⟨Ao24, co24, eo24⟩ := Kd.R_slice HO_10.out
            subst eo24
            go_wp2_with (first | ((with_reducible refine gate_callee (f := 42) rfl ?_); refine goesL_ (some 34) rfl rfl Try.func42 (by kernel_rfl) rfl #[.slice Ao24 t428.length co24, .int .i64 x11_1] rfl arr_ ?_; (with_reducible refine (spec_l16Has.calls k1 _ _ t428 x11_1 true _ ?side1 ?side2 A20.out).mono ?_); (case side1 => repeat (first | exact (Kd.R_reads' HO_10.out).2.2 | (with_reducible refine Kd.C_alloc ?_ _) | (with_reducible refine Kd.C_drewN ?_ _) | (with_reducible refine Kd.C_drew ?_))); (case side2 => exact (Kd.R_reads' HO_10.out).2.1); rintro e w' ⟨rfl, ⟨nd, rfl⟩⟩; refine ⟨_, rfl, ?_⟩))
            go_roundg k1
            case measure => have := HK1.out; omega
            case rel => exact ⟨(x9_1), (wrap64 (x11_1 + 1)), (by first | rfl | (simp; done) | (simp [*]; done)), H', ⟨by have := HK1.out; omega⟩, ⟨by (with_reducible repeat (first | apply Kd.R_alloc | apply Kd.R_drewN | apply Kd.R_drew)); exact HO_9.out⟩, ⟨by (with_reducible repeat (first | apply Kd.R_alloc | apply Kd.R_drewN | apply Kd.R_drew)); exact HO_10.out⟩, ⟨bk_ BK422.out⟩, ⟨bk_ BK423.out⟩, ⟨hb2_ HB.out GE422.out GE423.out⟩⟩
          · replace c21 := Bool.eq_false_iff.mpr c21
            subst c21
            have H1 : (if x9_1.length < 17592186044416 then (spec_HeardLost.l0 k1 (x9_1 ++ [x11_1]) t428 (wrap64 (x11_1 + 1)) a1_0 a1_1 l1_2) else (none)) = some r := by rw [if_neg (show ¬ (false = true) by decide)] at H; exact H
            clear H
            have H := H1
            clear H1
            by_cases c25 : x9_1.length < 17592186044416
            · rw [if_pos c25] at H
              have LMc25 := Aside0.mk c25
              clear c25
              obtain ⟨y432, hy432⟩ : ∃ y_ : List Int, y_ = (x9_1 ++ [x11_1]) := ⟨_, rfl⟩
              replace H : (spec_HeardLost.l0 k1 y432 t428 (wrap64 (x11_1 + 1)) a1_0 a1_1 l1_2) = some r := by first | (rw [hy432]; with_reducible exact H) | (have H2_ := (Option.bind_some _ _).symm.trans H; rw [hy432]; with_reducible exact H2_) | (have H2_ := (Option.bind_some _ _).symm.trans H; with_reducible exact H2_) | with_reducible exact H | (rw [hy432]; exact H) | exact H
              have Ny432 := Aside0.mk hy432
              clear hy432
              have H' := Aside0.mk H
              clear H
              have hnb26 := NB422_423.out
              have hnc26 := NB423_422.out
              have hcz27_0 := bc_ BK422.out 0 (.int .i64 a1_0) rfl
              have hcz27_1 := bc_ BK422.out 1 (.int .i64 a1_1) rfl
              have hcz27_2 := bc_ BK422.out 2 (.slice A1_2 l1_2.length c1_2) rfl
              have hfz27_0 := blk_frozen BK422.out 0
              have hfz27_1 := blk_frozen BK422.out 1
              have hfz27_2 := blk_frozen BK422.out 2
              obtain ⟨Ao28, co28, eo28⟩ := Kd.R_slice HO_10.out
              subst eo28
              go_wp2_with (first | ((with_reducible refine gate_callee (f := 42) rfl ?_); refine goesL_ (some 34) rfl rfl Try.func42 (by kernel_rfl) rfl #[.slice Ao28 t428.length co28, .int .i64 x11_1] rfl arr_ ?_; (with_reducible refine (spec_l16Has.calls k1 _ _ t428 x11_1 false _ ?side1 ?side2 A20.out).mono ?_); (case side1 => repeat (first | exact (Kd.R_reads' HO_10.out).2.2 | (with_reducible refine Kd.C_alloc ?_ _) | (with_reducible refine Kd.C_drewN ?_ _) | (with_reducible refine Kd.C_drew ?_))); (case side2 => exact (Kd.R_reads' HO_10.out).2.1); rintro e w' ⟨rfl, ⟨nd, rfl⟩⟩; refine ⟨_, rfl, ?_⟩) | ((with_reducible refine gate_builtin (b := .append) (xs := #[.tmp 36, .tmp 38]) rfl ?_); at_builtin; refine Kd.R_append (Kd.int .i64) (w0 := w) w.heap.size rfl (.tmp 36) (.tmp 38) 24 3 (.int .i64 0) 8 rfl Try.underlying24 info3 rfl (by decide) (by omega) u9 x9_1 x11_1 [.int .i64 x11_1] (fun k_ => some k_ ≠ (.slice Ao28 t428.length co28 : Value).ownBlock) (fun _ => False) rfl rfl ?aP (fun _ hk => hk.elim) ?aF ?aO ?aB ?aS ?aL ?_; (case aP => exact rfl); (case aB => exact (hb2_ HB.out GE422.out GE423.out)); (case aF => exact (fun k_ hk => Kd.fresh' (Kd.R_lt (by (with_reducible repeat (first | apply Kd.R_alloc | apply Kd.R_drewN | apply Kd.R_drew)); exact HO_10.out)) k_ hk)); (case aO => exact (by (with_reducible repeat (first | apply Kd.R_alloc | apply Kd.R_drewN | apply Kd.R_drew)); exact HO_9.out)); (case aS => exact (below_size (hb2_ HB.out GE422.out GE423.out))); (case aL => have := LMc25.out; omega); intro v433 w29 ho hb hg hat; rw [← Ny432.out] at ho; have n0_ := Aside0.mk (Kd.R_after (ok := (fun _ => True)) (by (with_reducible repeat (first | apply Kd.R_alloc | apply Kd.R_drewN | apply Kd.R_drew)); exact Kd.R_mono HO_10.out (fun _ hk => ⟨trivial, hk⟩)) hg hat); have n1_ := Aside0.mk (blk_grown (g := gb422) (o := .cells #[.int .i64 a1_0, .int .i64 a1_1, .slice A1_2 l1_2.length c1_2] 42 (0, 0)) (bk_ BK422.out) hg (Kd.R_ne HO_9.out BK422.out (by decide))); have n2_ := Aside0.mk (blk_grown (g := gb423) (o := .cells #[.int .i64 a2_0, .int .i64 a2_1] 44 (0, 0)) (bk_ BK423.out) hg (Kd.R_ne HO_9.out BK423.out (by decide))); have n3_ := Aside0.mk (hb); have n4_ := Aside0.mk (ho); clear HO_10; clear BK422; clear BK423; clear HB; clear HO_9; have HO_10 := n0_; have BK422 := n1_; have BK423 := n2_; have HB := n3_; have HO434 := n4_; clear n0_ n1_ n2_ n3_ n4_; clear ho hb hg hat))
              go_roundg k1
              case measure => have := HK1.out; omega
              case rel => exact ⟨(y432), (wrap64 (x11_1 + 1)), (by first | rfl | (simp; done) | (simp [*]; done)), H', ⟨by have := HK1.out; omega⟩, ⟨by (with_reducible repeat (first | apply Kd.R_alloc | apply Kd.R_drewN | apply Kd.R_drew)); exact HO434.out⟩, ⟨by (with_reducible repeat (first | apply Kd.R_alloc | apply Kd.R_drewN | apply Kd.R_drew)); exact Kd.R_mono HO_10.out (fun _ hk => hk.2)⟩, ⟨bk_ BK422.out⟩, ⟨bk_ BK423.out⟩, ⟨hb2_ HB.out GE422.out GE423.out⟩⟩
            · rw [if_neg c25] at H
              exact absurd H (by simp)
        · rw [if_neg c19] at H
          have c19b0 : decide (x11_1 < (l1_2.length : Int)) = false := decide_eq_false c19
          clear c19
          obtain rfl := Option.some.inj H
          have hnb30 := NB422_423.out
          have hnc30 := NB423_422.out
          have hcz31_0 := bc_ BK422.out 0 (.int .i64 a1_0) rfl
          have hcz31_1 := bc_ BK422.out 1 (.int .i64 a1_1) rfl
          have hcz31_2 := bc_ BK422.out 2 (.slice A1_2 l1_2.length c1_2) rfl
          have hfz31_0 := blk_frozen BK422.out 0
          have hfz31_1 := blk_frozen BK422.out 1
          have hfz31_2 := blk_frozen BK422.out 2
          go_wp2
          go_ret
          exact ⟨_, er_, by (with_reducible repeat (first | apply Kd.R_alloc | apply Kd.R_drewN | apply Kd.R_drew)); exact Kd.R_mono HO_9.out (fun _ hk => trivial), hb2_ HB.out GE422.out GE423.out⟩
  · replace c6 := Bool.eq_false_iff.mpr c6
    subst c6
    have H1 : (some y424) = some r := by rw [if_neg (show ¬ (false = true) by decide)] at H; exact H
    clear H
    have H := H1
    clear H1
    obtain rfl := Option.some.inj H
    go_enter Try.func25, Try.ntmps25
    go_wp2_with (first | ((with_reducible refine gate_dst (N := 5) rfl ?_); refine box_event ?hg (N := 5) ?hd (cs := #[.int .i64 a1_0, .int .i64 a1_1, .slice A1_2 l1_2.length c1_2]) (t := 42) ?hr ?_; (case hd => rfl); (case hg => rfl); (case hr => first | (go_simp; done) | (go_simp; rfl)); intro gb422 hg w32 hbox hb; have n0_ := Aside0.mk (below_step (hb_ HB.out) hb); have n1_ := Aside0.mk (hbox); have n2_ := Aside0.mk ((by rw [hg]; exact (below_size (hb_ HB.out)) : w.heap.size ≤ gb422)); have n3_ := Aside0.mk ((by rw [hg]; exact (below_size (hb_ HB.out)) : w.heap.size ≤ gb422)); clear HB; have HB := n0_; have BK422 := n1_; have GW422 := n2_; have GE422 := n3_; clear n0_ n1_ n2_ n3_; clear hb hbox hg) | ((with_reducible refine gate_dst (N := 6) rfl ?_); refine box_event ?hg (N := 6) ?hd (cs := #[.int .i64 a2_0, .int .i64 a2_1]) (t := 44) ?hr ?_; (case hd => rfl); (case hg => rfl); (case hr => first | (go_simp; done) | (go_simp; rfl)); intro gb423 hg w33 hbox hb; have n0_ := Aside0.mk (bb_ BK422.out hb); have n1_ := Aside0.mk (below_step (hb1_ HB.out GE422.out) hb); have n2_ := Aside0.mk (hbox); have n3_ := Aside0.mk ((by rw [hg]; exact (below_size (hb1_ HB.out GE422.out)) : w.heap.size ≤ gb423)); have n4_ := Aside0.mk ((by rw [hg]; exact (below_size (hb1_ HB.out GE422.out)) : w.heap.size ≤ gb423)); have n5_ := Aside0.mk ((bl_ hg BK422.out : gb422 ≠ gb423)); have n6_ := Aside0.mk ((bg_ hg BK422.out : gb423 ≠ gb422)); clear BK422; clear HB; have BK422 := n0_; have HB := n1_; have BK423 := n2_; have GW423 := n3_; have GE423 := n4_; have NB422_423 := n5_; have NB423_422 := n6_; clear n0_ n1_ n2_ n3_ n4_ n5_ n6_; clear hb hbox hg) | ((with_reducible refine gate_dst (N := 12) rfl ?_); refine Kd.R_lit (Kd.int .i64) _ 3 ?hg (N := 12) ?hd (xs := ([] : List Int)) (inner := []) (ok := fun _ => True) (okp := fun _ => True) ?hr ?hp (fun _ hk => hk) trivial (Below.refl _ _) (Nat.le_refl _) (by simp) ?_; (case hd => rfl); (case hg => rfl); (case hr => first | (go_simp; done) | (go_simp; rfl)); (case hp => exact (Reps.none _ _)); intro v425 w34 ho35 hb hg_ hnew_; clear hg_ hnew_; (first | rw [← Ny424.out] at ho35 | (simp only [Int.reduceToNat] at ho35; rw [← Ny424.out] at ho35)); have n0_ := Aside0.mk (Kd.R_lower ho35 (below_size (hb2_ HB.out GE422.out GE423.out))); have n1_ := Aside0.mk (bb_ BK422.out hb); have n2_ := Aside0.mk (bb_ BK423.out hb); have n3_ := Aside0.mk (below_step (hb2_ HB.out GE422.out GE423.out) hb); clear BK422; clear BK423; clear HB; have HO426 := n0_; have BK422 := n1_; have BK423 := n2_; have HB := n3_; clear n0_ n1_ n2_ n3_; clear hb ho35; have hnb36 := NB422_423.out; have hnc36 := NB423_422.out; have hcz37_0 := bc_ BK422.out 0 (.int .i64 a1_0) rfl; have hcz37_1 := bc_ BK422.out 1 (.int .i64 a1_1) rfl; have hcz37_2 := bc_ BK422.out 2 (.slice A1_2 l1_2.length c1_2) rfl; have hfz37_0 := blk_frozen BK422.out 0; have hfz37_1 := blk_frozen BK422.out 1; have hfz37_2 := blk_frozen BK422.out 2; have hcz38_0 := bc_ BK423.out 0 (.int .i64 a2_0) rfl; have hcz38_1 := bc_ BK423.out 1 (.int .i64 a2_1) rfl; have hfz38_0 := blk_frozen BK423.out 0; have hfz38_1 := blk_frozen BK423.out 1) | ((with_reducible refine gate_callee (f := 49) rfl ?_); refine goesL_ (some 17) rfl rfl Try.func49 (by kernel_rfl) rfl #[.slice A0 l0.length c0, .agg #[.int .i64 a1_0, .int .i64 a1_1, .slice A1_2 l1_2.length c1_2], .agg #[.int .i64 a2_0, .int .i64 a2_1], .int .i64 a3] rfl arr_ ?_; (with_reducible refine (spec_l16Right.calls k _ _ l0 a1_0 a1_1 _ _ l1_2 a2_0 a2_1 a3 false _ ?side1 ?side2 ?side3 ?side4 A5.out).mono ?_); (case side1 => exact kc_ (Kd.C_below HR0.out HB.out)); (case side2 => exact HC0.out); (case side3 => exact kc_ (Kd.C_below HR1_2.out HB.out)); (case side4 => exact HC1_2.out); rintro e w39 ⟨rfl, hb⟩; refine ⟨_, rfl, ?_⟩; have n0_ := Aside0.mk (Kd.R_below (by (with_reducible repeat (first | apply Kd.R_alloc | apply Kd.R_drewN | apply Kd.R_drew)); exact HO426.out) hb); have n1_ := Aside0.mk (bb_ BK422.out hb); have n2_ := Aside0.mk (bb_ BK423.out hb); have n3_ := Aside0.mk (below_step (hb2_ HB.out GE422.out GE423.out) hb); clear HO426; clear BK422; clear BK423; clear HB; have HO426 := n0_; have BK422 := n1_; have BK423 := n2_; have HB := n3_; clear n0_ n1_ n2_ n3_; (try clear hb); (try clear hb2); (try clear hk); (try clear hi)))
    go_ret
    exact ⟨_, er_, by (with_reducible repeat (first | apply Kd.R_alloc | apply Kd.R_drewN | apply Kd.R_drew)); exact HO426.out, hb2_ HB.out GE422.out GE423.out⟩
def impl_HeardLost.l0 : Nat → List Int → List Int → Int → Int → Option (List Int)
  | 0, _, _, _, _ => none
  | k + 1, x9, x10, x26, x27 => if x27 < x26 then ((slices_Contains_int.f k x9 x27).bind fun t444 => (if t444 = true then (impl_HeardLost.l0 k x9 x10 x26 (wrap64 (x27 + 1))) else (if x10.length < 17592186044416 then (impl_HeardLost.l0 k x9 (x10 ++ [x27]) x26 (wrap64 (x27 + 1))) else (none)))) else (some x10)
def impl_HeardLost.f (k : Nat) (l0 : List (S73)) (a1_0 : Int) (a1_1 : Int) (l1_2 : List (S89)) (a2_0 : Int) (a2_1 : Int) (a3 : Int) : Option (List Int) := (impl_heardOk.f k l0 a1_0 a1_1 l1_2 a2_0 a2_1 a3).bind fun t437 => (if t437 = true then ((impl_HeardNow.f k l0 a1_0 a1_1 l1_2 a2_0 a2_1 a3).bind fun t438 => (impl_HeardLost.l0 k t438 (([] : List Int)) (l1_2.length : Int) 0)) else (some ([] : List Int)))
theorem impl_HeardLost.mono_l : ∀ k, (∀ y0 y1 y2 y3, LeO (impl_HeardLost.l0 k y0 y1 y2 y3) (impl_HeardLost.l0 (k + 1) y0 y1 y2 y3))
  | 0 => fun _ _ _ _ r h => by simp [impl_HeardLost.l0] at h
  | k + 1 => by
    have ih0 := impl_HeardLost.mono_l k
    · intro y0 y1 y2 y3
      unfold impl_HeardLost.l0
      repeat' first
      | (with_reducible exact ih0 _ _ _ _)
      | (with_reducible exact impl_HeardNow.mono _ _ _ _ _ _ _ _)
      | (with_reducible exact impl_heardOk.mono _ _ _ _ _ _ _ _)
      | (with_reducible exact slices_Contains_int.mono _ _ _)
      | (with_reducible exact LeO.refl _)
      | (with_reducible exact LeO.none _)
      | (with_reducible refine LeO.ite ?_ ?_)
      | (with_reducible refine LeO.bind ?_ (fun _ => ?_))
      | exact ih0 _ _ _ _
      | exact impl_HeardNow.mono _ _ _ _ _ _ _ _
      | exact impl_heardOk.mono _ _ _ _ _ _ _ _
      | exact slices_Contains_int.mono _ _ _
      | exact LeO.none _
      | refine LeO.ite ?_ ?_
      | refine LeO.bind ?_ (fun _ => ?_)
theorem impl_HeardLost.mono : ∀ a0 a1 a2 a3 a4 a5 a6 k, LeO (impl_HeardLost.f k a0 a1 a2 a3 a4 a5 a6) (impl_HeardLost.f (k + 1) a0 a1 a2 a3 a4 a5 a6) := by
  intro a0 a1 a2 a3 a4 a5 a6 k
  have ih0 := impl_HeardLost.mono_l k
  unfold impl_HeardLost.f
  repeat' first
      | (with_reducible exact ih0 _ _ _ _)
      | (with_reducible exact impl_HeardNow.mono _ _ _ _ _ _ _ _)
      | (with_reducible exact impl_heardOk.mono _ _ _ _ _ _ _ _)
      | (with_reducible exact slices_Contains_int.mono _ _ _)
      | (with_reducible exact LeO.refl _)
      | (with_reducible exact LeO.none _)
      | (with_reducible refine LeO.ite ?_ ?_)
      | (with_reducible refine LeO.bind ?_ (fun _ => ?_))
      | exact ih0 _ _ _ _
      | exact impl_HeardNow.mono _ _ _ _ _ _ _ _
      | exact impl_heardOk.mono _ _ _ _ _ _ _ _
      | exact slices_Contains_int.mono _ _ _
      | exact LeO.none _
      | refine LeO.ite ?_ ?_
      | refine LeO.bind ?_ (fun _ => ?_)
set_option maxHeartbeats 8000000 in
set_option maxRecDepth 100000 in
theorem impl_HeardLost.calls (k : Nat) (A0 : Option Addr) (c0 : Nat) (l0 : List (S73)) (a1_0 : Int) (a1_1 : Int) (A1_2 : Option Addr) (c1_2 : Nat) (l1_2 : List (S89)) (a2_0 : Int) (a2_1 : Int) (a3 : Int) (r : List Int) (w : World) (hr0 : Kd.C k73 w A0 l0.length l0) (hc0 : l0.length ≤ c0) (hr1_2 : Kd.C k89 w A1_2 l1_2.length l1_2) (hc1_2 : l1_2.length ≤ c1_2) (h : impl_HeardLost.f k l0 a1_0 a1_1 l1_2 a2_0 a2_1 a3 = some r) :
    Calls Try.prog 26 #[.slice A0 l0.length c0, .agg #[.int .i64 a1_0, .int .i64 a1_1, .slice A1_2 l1_2.length c1_2], .agg #[.int .i64 a2_0, .int .i64 a2_1], .int .i64 a3] w fun e w' => ∃ v0_ : Value, e = .returned (v0_) ∧ Kd.R (Kd.int .i64) 3 w' w.heap.size (fun _ => True) v0_ r ∧ Below w.heap.size w w' := by
  have hu42 := Try.underlying42
  have hu44 := Try.underlying44
  have HR0 := Aside0.mk hr0
  have HC0 := Aside0.mk hc0
  clear hr0 hc0
  have HR1_2 := Aside0.mk hr1_2
  have HC1_2 := Aside0.mk hc1_2
  clear hr1_2 hc1_2
  have HB := Aside0.mk (Below.refl w.heap.size w)
  have H : ((impl_heardOk.f k l0 a1_0 a1_1 l1_2 a2_0 a2_1 a3).bind fun t437 => (if t437 = true then ((impl_HeardNow.f k l0 a1_0 a1_1 l1_2 a2_0 a2_1 a3).bind fun t438 => (impl_HeardLost.l0 k t438 (([] : List Int)) (l1_2.length : Int) 0)) else (some ([] : List Int)))) = some r := h
  clear h
  replace H := Option.bind_eq_some_iff.mp H
  obtain ⟨t437, A50, H⟩ := H
  replace H : (if t437 = true then ((impl_HeardNow.f k l0 a1_0 a1_1 l1_2 a2_0 a2_1 a3).bind fun t438 => (impl_HeardLost.l0 k t438 (([] : List Int)) (l1_2.length : Int) 0)) else (some ([] : List Int))) = some r := H
  have A5 := Aside0.mk A50
  clear A50
  by_cases c6 : t437 = true
  · subst c6
    have H1 : ((impl_HeardNow.f k l0 a1_0 a1_1 l1_2 a2_0 a2_1 a3).bind fun t438 => (impl_HeardLost.l0 k t438 (([] : List Int)) (l1_2.length : Int) 0)) = some r := by rw [if_pos rfl] at H; exact H
    clear H
    have H := H1
    clear H1
    replace H := Option.bind_eq_some_iff.mp H
    obtain ⟨t438, A70, H⟩ := H
    replace H : (impl_HeardLost.l0 k t438 (([] : List Int)) (l1_2.length : Int) 0) = some r := H
    have A7 := Aside0.mk A70
    clear A70
    obtain ⟨y441, hy441⟩ : ∃ y_ : List Int, y_ = (([] : List Int)) := ⟨_, rfl⟩
    replace H : (impl_HeardLost.l0 k t438 y441 (l1_2.length : Int) 0) = some r := by first | (rw [hy441]; with_reducible exact H) | (have H2_ := (Option.bind_some _ _).symm.trans H; rw [hy441]; with_reducible exact H2_) | (have H2_ := (Option.bind_some _ _).symm.trans H; with_reducible exact H2_) | with_reducible exact H | (rw [hy441]; exact H) | exact H
    have Ny441 := Aside0.mk hy441
    clear hy441
    have H' := Aside0.mk H
    clear H
    go_enter Try.func26, Try.ntmps26
    go_wp2_with (first | ((with_reducible refine gate_dst (N := 5) rfl ?_); refine box_event ?hg (N := 5) ?hd (cs := #[.int .i64 a1_0, .int .i64 a1_1, .slice A1_2 l1_2.length c1_2]) (t := 42) ?hr ?_; (case hd => rfl); (case hg => rfl); (case hr => first | (go_simp; done) | (go_simp; rfl)); intro gb435 hg w8 hbox hb; have n0_ := Aside0.mk (below_step (hb_ HB.out) hb); have n1_ := Aside0.mk (hbox); have n2_ := Aside0.mk ((by rw [hg]; exact (below_size (hb_ HB.out)) : w.heap.size ≤ gb435)); have n3_ := Aside0.mk ((by rw [hg]; exact (below_size (hb_ HB.out)) : w.heap.size ≤ gb435)); clear HB; have HB := n0_; have BK435 := n1_; have GW435 := n2_; have GE435 := n3_; clear n0_ n1_ n2_ n3_; clear hb hbox hg) | ((with_reducible refine gate_dst (N := 6) rfl ?_); refine box_event ?hg (N := 6) ?hd (cs := #[.int .i64 a2_0, .int .i64 a2_1]) (t := 44) ?hr ?_; (case hd => rfl); (case hg => rfl); (case hr => first | (go_simp; done) | (go_simp; rfl)); intro gb436 hg w9 hbox hb; have n0_ := Aside0.mk (bb_ BK435.out hb); have n1_ := Aside0.mk (below_step (hb1_ HB.out GE435.out) hb); have n2_ := Aside0.mk (hbox); have n3_ := Aside0.mk ((by rw [hg]; exact (below_size (hb1_ HB.out GE435.out)) : w.heap.size ≤ gb436)); have n4_ := Aside0.mk ((by rw [hg]; exact (below_size (hb1_ HB.out GE435.out)) : w.heap.size ≤ gb436)); have n5_ := Aside0.mk ((bl_ hg BK435.out : gb435 ≠ gb436)); have n6_ := Aside0.mk ((bg_ hg BK435.out : gb436 ≠ gb435)); clear BK435; clear HB; have BK435 := n0_; have HB := n1_; have BK436 := n2_; have GW436 := n3_; have GE436 := n4_; have NB435_436 := n5_; have NB436_435 := n6_; clear n0_ n1_ n2_ n3_ n4_ n5_ n6_; clear hb hbox hg; have hnb10 := NB435_436.out; have hnc10 := NB436_435.out; have hcz11_0 := bc_ BK435.out 0 (.int .i64 a1_0) rfl; have hcz11_1 := bc_ BK435.out 1 (.int .i64 a1_1) rfl; have hcz11_2 := bc_ BK435.out 2 (.slice A1_2 l1_2.length c1_2) rfl; have hfz11_0 := blk_frozen BK435.out 0; have hfz11_1 := blk_frozen BK435.out 1; have hfz11_2 := blk_frozen BK435.out 2; have hcz12_0 := bc_ BK436.out 0 (.int .i64 a2_0) rfl; have hcz12_1 := bc_ BK436.out 1 (.int .i64 a2_1) rfl; have hfz12_0 := blk_frozen BK436.out 0; have hfz12_1 := blk_frozen BK436.out 1) | ((with_reducible refine gate_callee (f := 53) rfl ?_); refine goesL_ (some 16) rfl rfl Try.func53 (by kernel_rfl) rfl #[.slice A0 l0.length c0, .agg #[.int .i64 a1_0, .int .i64 a1_1, .slice A1_2 l1_2.length c1_2], .agg #[.int .i64 a2_0, .int .i64 a2_1], .int .i64 a3] rfl arr_ ?_; (with_reducible refine (impl_heardOk.calls k _ _ l0 a1_0 a1_1 _ _ l1_2 a2_0 a2_1 a3 true _ ?side1 ?side2 ?side3 ?side4 A5.out).mono ?_); (case side1 => exact kc_ (Kd.C_below HR0.out HB.out)); (case side2 => exact HC0.out); (case side3 => exact kc_ (Kd.C_below HR1_2.out HB.out)); (case side4 => exact HC1_2.out); rintro e w13 ⟨rfl, hb⟩; refine ⟨_, rfl, ?_⟩; have n0_ := Aside0.mk (bb_ BK435.out hb); have n1_ := Aside0.mk (bb_ BK436.out hb); have n2_ := Aside0.mk (below_step (hb2_ HB.out GE435.out GE436.out) hb); clear BK435; clear BK436; clear HB; have BK435 := n0_; have BK436 := n1_; have HB := n2_; clear n0_ n1_ n2_; (try clear hb); (try clear hb2); (try clear hk); (try clear hi); have hcz14_0 := bc_ BK435.out 0 (.int .i64 a1_0) rfl; have hcz14_1 := bc_ BK435.out 1 (.int .i64 a1_1) rfl; have hcz14_2 := bc_ BK435.out 2 (.slice A1_2 l1_2.length c1_2) rfl; have hfz14_0 := blk_frozen BK435.out 0; have hfz14_1 := blk_frozen BK435.out 1; have hfz14_2 := blk_frozen BK435.out 2; have hcz15_0 := bc_ BK436.out 0 (.int .i64 a2_0) rfl; have hcz15_1 := bc_ BK436.out 1 (.int .i64 a2_1) rfl; have hfz15_0 := blk_frozen BK436.out 0; have hfz15_1 := blk_frozen BK436.out 1) | ((with_reducible refine gate_callee (f := 22) rfl ?_); refine goesL_ (some 22) rfl rfl Try.func22 (by kernel_rfl) rfl #[.slice A0 l0.length c0, .agg #[.int .i64 a1_0, .int .i64 a1_1, .slice A1_2 l1_2.length c1_2], .agg #[.int .i64 a2_0, .int .i64 a2_1], .int .i64 a3] rfl arr_ ?_; (with_reducible refine (impl_HeardNow.calls k _ _ l0 a1_0 a1_1 _ _ l1_2 a2_0 a2_1 a3 t438 _ ?side1 ?side2 ?side3 ?side4 A7.out).mono ?_); (case side1 => exact kc_ (Kd.C_below HR0.out HB.out)); (case side2 => exact HC0.out); (case side3 => exact kc_ (Kd.C_below HR1_2.out HB.out)); (case side4 => exact HC1_2.out); rintro e w16 ⟨v439, rfl, ho0, hb⟩; refine ⟨_, rfl, ?_⟩; have n0_ := Aside0.mk (Kd.R_lower ho0 (below_size (hb2_ HB.out GE435.out GE436.out))); have n1_ := Aside0.mk (bb_ BK435.out hb); have n2_ := Aside0.mk (bb_ BK436.out hb); have n3_ := Aside0.mk (below_step (hb2_ HB.out GE435.out GE436.out) hb); clear BK435; clear BK436; clear HB; have HO440 := n0_; have BK435 := n1_; have BK436 := n2_; have HB := n3_; clear n0_ n1_ n2_ n3_; (try clear hb); (try clear hb2); (try clear hk); (try clear hi); (try clear ho0)) | ((with_reducible refine gate_dst (N := 23) rfl ?_); refine Kd.R_lit (Kd.int .i64) _ 3 ?hg (N := 23) ?hd (xs := ([] : List Int)) (inner := []) (ok := fun _ => True) (okp := fun _ => True) ?hr ?hp (fun _ hk => hk) trivial (Below.refl _ _) (Nat.le_refl _) (by simp) ?_; (case hd => rfl); (case hg => rfl); (case hr => first | (go_simp; done) | (go_simp; rfl)); (case hp => exact (Reps.none _ _)); intro v442 w17 ho18 hb hg_ hnew_; clear hg_ hnew_; (first | rw [← Ny441.out] at ho18 | (simp only [Int.reduceToNat] at ho18; rw [← Ny441.out] at ho18)); have n0_ := Aside0.mk (Kd.R_elder' (by (with_reducible repeat (first | apply Kd.R_alloc | apply Kd.R_drewN | apply Kd.R_drew)); exact HO440.out) (Kd.R_base ho18) hb); have n1_ := Aside0.mk (Kd.R_lower (Kd.R_new' ho18 (Kd.R_lt (by (with_reducible repeat (first | apply Kd.R_alloc | apply Kd.R_drewN | apply Kd.R_drew)); exact HO440.out))) (below_size (hb2_ HB.out GE435.out GE436.out))); have n2_ := Aside0.mk (bb_ BK435.out hb); have n3_ := Aside0.mk (bb_ BK436.out hb); have n4_ := Aside0.mk (below_step (hb2_ HB.out GE435.out GE436.out) hb); clear HO440; clear BK435; clear BK436; clear HB; have HO440 := n0_; have HO443 := n1_; have BK435 := n2_; have BK436 := n3_; have HB := n4_; clear n0_ n1_ n2_ n3_ n4_; clear hb ho18; have hcz19_0 := bc_ BK435.out 0 (.int .i64 a1_0) rfl; have hcz19_1 := bc_ BK435.out 1 (.int .i64 a1_1) rfl; have hcz19_2 := bc_ BK435.out 2 (.slice A1_2 l1_2.length c1_2) rfl; have hfz19_0 := blk_frozen BK435.out 0; have hfz19_1 := blk_frozen BK435.out 1; have hfz19_2 := blk_frozen BK435.out 2))
    go_loopg [10, 27] k (fun kq v10 v27 w' => ∃ (x10_1 : List Int) (x27_1 : Int), v27 = .int .i64 x27_1 ∧ Aside0 (impl_HeardLost.l0 kq t438 x10_1 (l1_2.length : Int) x27_1 = some r) ∧ Aside0 (kq ≤ k) ∧ Aside0 (Kd.R (Kd.int .i64) 3 w' w.heap.size (fun k_ => some k_ ≠ (v10 : Value).ownBlock) v439 t438) ∧ Aside0 (Kd.R (Kd.int .i64) 3 w' w.heap.size (fun k_ => some k_ ≠ (v439 : Value).ownBlock) v10 x10_1) ∧ Aside0 (w'.heap[gb435]? = some (.cells #[.int .i64 a1_0, .int .i64 a1_1, (.slice A1_2 l1_2.length c1_2)] 42 (0, 0))) ∧ Aside0 (w'.heap[gb436]? = some (.cells #[.int .i64 a2_0, .int .i64 a2_1] 44 (0, 0))) ∧ Aside0 (Below w.heap.size w w'))
    case atStart => exact ⟨(y441), (0), (by first | rfl | (simp; done) | (simp [*]; done)), H', ⟨Nat.le_refl _⟩, ⟨by (with_reducible repeat (first | apply Kd.R_alloc | apply Kd.R_drewN | apply Kd.R_drew)); exact Kd.R_mono HO440.out (fun _ hk => hk.2)⟩, ⟨by (with_reducible repeat (first | apply Kd.R_alloc | apply Kd.R_drewN | apply Kd.R_drew)); exact Kd.R_mono HO443.out (fun _ hk => hk.2)⟩, ⟨bk_ BK435.out⟩, ⟨bk_ BK436.out⟩, ⟨hb2_ HB.out GE435.out GE436.out⟩⟩
    case round =>
      clear H'
      try clear c1
      try clear c2
      try clear p2
      try clear c5
      try clear c6
      try clear c10
      try clear hcz11_0
      try clear hcz11_1
      try clear hcz11_2
      try clear hcz12_0
      try clear hcz12_1
      try clear hcz14_0
      try clear hcz14_1
      try clear hcz14_2
      try clear hcz15_0
      try clear hcz15_1
      try clear hcz19_0
      try clear hcz19_1
      try clear hcz19_2
      try clear hfz11_0
      try clear hfz11_1
      try clear hfz11_2
      try clear hfz12_0
      try clear hfz12_1
      try clear hfz14_0
      try clear hfz14_1
      try clear hfz14_2
      try clear hfz15_0
      try clear hfz15_1
      try clear hfz19_0
      try clear hfz19_1
      try clear hfz19_2
      obtain ⟨x10_1, x27_1, rfl, HA, HK1, HO_9, HO_10, BK435, BK436, HB⟩ := hrel
      cases gk with
      | zero => exact absurd HA.out (by simp [impl_HeardLost.l0])
      | succ k1 =>
        have H := HA.out
        clear HA
        simp only [impl_HeardLost.l0] at H
        by_cases c20 : x27_1 < (l1_2.length : Int)
        · rw [if_pos c20] at H
          have c20b0 : decide (x27_1 < (l1_2.length : Int)) = true := decide_eq_true c20
          clear c20
          replace H := Option.bind_eq_some_iff.mp H
          obtain ⟨t444, A210, H⟩ := H
          replace H : (if t444 = true then (impl_HeardLost.l0 k1 t438 x10_1 (l1_2.length : Int) (wrap64 (x27_1 + 1))) else (if x10_1.length < 17592186044416 then (impl_HeardLost.l0 k1 t438 (x10_1 ++ [x27_1]) (l1_2.length : Int) (wrap64 (x27_1 + 1))) else (none))) = some r := H
          have A21 := Aside0.mk A210
          clear A210
          by_cases c22 : t444 = true
          · subst c22
            have H1 : (impl_HeardLost.l0 k1 t438 x10_1 (l1_2.length : Int) (wrap64 (x27_1 + 1))) = some r := by rw [if_pos rfl] at H; exact H
            clear H
            have H := H1
            clear H1
            have H' := Aside0.mk H
            clear H
            obtain ⟨Ao23, co23, eo23⟩ := Kd.R_slice HO_9.out
            subst eo23
            go_wp2_with (first | ((with_reducible refine gate_callee (f := 46) rfl ?_); refine goesL_ (some 32) rfl rfl Try.func46 (by kernel_rfl) rfl #[.slice Ao23 t438.length co23, .int .i64 x27_1] rfl arr_ ?_; (with_reducible refine (slices_Contains_int.calls k1 _ _ t438 x27_1 true _ ?side1 ?side2 A21.out).mono ?_); (case side1 => repeat (first | exact (Kd.R_reads' HO_9.out).2.2 | (with_reducible refine Kd.C_alloc ?_ _) | (with_reducible refine Kd.C_drewN ?_ _) | (with_reducible refine Kd.C_drew ?_))); (case side2 => exact (Kd.R_reads' HO_9.out).2.1); rintro e w' ⟨rfl, ⟨nd, rfl⟩⟩; refine ⟨_, rfl, ?_⟩))
            go_roundg k1
            case measure => have := HK1.out; omega
            case rel => exact ⟨(x10_1), (wrap64 (x27_1 + 1)), (by first | rfl | (simp; done) | (simp [*]; done)), H', ⟨by have := HK1.out; omega⟩, ⟨by (with_reducible repeat (first | apply Kd.R_alloc | apply Kd.R_drewN | apply Kd.R_drew)); exact HO_9.out⟩, ⟨by (with_reducible repeat (first | apply Kd.R_alloc | apply Kd.R_drewN | apply Kd.R_drew)); exact HO_10.out⟩, ⟨bk_ BK435.out⟩, ⟨bk_ BK436.out⟩, ⟨hb2_ HB.out GE435.out GE436.out⟩⟩
          · replace c22 := Bool.eq_false_iff.mpr c22
            subst c22
            have H1 : (if x10_1.length < 17592186044416 then (impl_HeardLost.l0 k1 t438 (x10_1 ++ [x27_1]) (l1_2.length : Int) (wrap64 (x27_1 + 1))) else (none)) = some r := by rw [if_neg (show ¬ (false = true) by decide)] at H; exact H
            clear H
            have H := H1
            clear H1
            by_cases c24 : x10_1.length < 17592186044416
            · rw [if_pos c24] at H
              have LMc24 := Aside0.mk c24
              clear c24
              obtain ⟨y445, hy445⟩ : ∃ y_ : List Int, y_ = (x10_1 ++ [x27_1]) := ⟨_, rfl⟩
              replace H : (impl_HeardLost.l0 k1 t438 y445 (l1_2.length : Int) (wrap64 (x27_1 + 1))) = some r := by first | (rw [hy445]; with_reducible exact H) | (have H2_ := (Option.bind_some _ _).symm.trans H; rw [hy445]; with_reducible exact H2_) | (have H2_ := (Option.bind_some _ _).symm.trans H; with_reducible exact H2_) | with_reducible exact H | (rw [hy445]; exact H) | exact H
              have Ny445 := Aside0.mk hy445
              clear hy445
              have H' := Aside0.mk H
              clear H
              obtain ⟨Ao25, co25, eo25⟩ := Kd.R_slice HO_9.out
              subst eo25
              go_wp2_with (first | ((with_reducible refine gate_callee (f := 46) rfl ?_); refine goesL_ (some 32) rfl rfl Try.func46 (by kernel_rfl) rfl #[.slice Ao25 t438.length co25, .int .i64 x27_1] rfl arr_ ?_; (with_reducible refine (slices_Contains_int.calls k1 _ _ t438 x27_1 false _ ?side1 ?side2 A21.out).mono ?_); (case side1 => repeat (first | exact (Kd.R_reads' HO_9.out).2.2 | (with_reducible refine Kd.C_alloc ?_ _) | (with_reducible refine Kd.C_drewN ?_ _) | (with_reducible refine Kd.C_drew ?_))); (case side2 => exact (Kd.R_reads' HO_9.out).2.1); rintro e w' ⟨rfl, ⟨nd, rfl⟩⟩; refine ⟨_, rfl, ?_⟩) | ((with_reducible refine gate_builtin (b := .append) (xs := #[.tmp 34, .tmp 36]) rfl ?_); at_builtin; refine Kd.R_append (Kd.int .i64) (w0 := w) w.heap.size rfl (.tmp 34) (.tmp 36) 24 3 (.int .i64 0) 8 rfl Try.underlying24 info3 rfl (by decide) (by omega) u10 x10_1 x27_1 [.int .i64 x27_1] (fun k_ => some k_ ≠ (.slice Ao25 t438.length co25 : Value).ownBlock) (fun _ => False) rfl rfl ?aP (fun _ hk => hk.elim) ?aF ?aO ?aB ?aS ?aL ?_; (case aP => exact rfl); (case aB => exact (hb2_ HB.out GE435.out GE436.out)); (case aF => exact (fun k_ hk => Kd.fresh' (Kd.R_lt (by (with_reducible repeat (first | apply Kd.R_alloc | apply Kd.R_drewN | apply Kd.R_drew)); exact HO_9.out)) k_ hk)); (case aO => exact (by (with_reducible repeat (first | apply Kd.R_alloc | apply Kd.R_drewN | apply Kd.R_drew)); exact HO_10.out)); (case aS => exact (below_size (hb2_ HB.out GE435.out GE436.out))); (case aL => have := LMc24.out; omega); intro v446 w26 ho hb hg hat; rw [← Ny445.out] at ho; have n0_ := Aside0.mk (Kd.R_after (ok := (fun _ => True)) (by (with_reducible repeat (first | apply Kd.R_alloc | apply Kd.R_drewN | apply Kd.R_drew)); exact Kd.R_mono HO_9.out (fun _ hk => ⟨trivial, hk⟩)) hg hat); have n1_ := Aside0.mk (blk_grown (g := gb435) (o := .cells #[.int .i64 a1_0, .int .i64 a1_1, .slice A1_2 l1_2.length c1_2] 42 (0, 0)) (bk_ BK435.out) hg (Kd.R_ne HO_10.out BK435.out (by decide))); have n2_ := Aside0.mk (blk_grown (g := gb436) (o := .cells #[.int .i64 a2_0, .int .i64 a2_1] 44 (0, 0)) (bk_ BK436.out) hg (Kd.R_ne HO_10.out BK436.out (by decide))); have n3_ := Aside0.mk (hb); have n4_ := Aside0.mk (ho); clear HO_9; clear BK435; clear BK436; clear HB; clear HO_10; have HO_9 := n0_; have BK435 := n1_; have BK436 := n2_; have HB := n3_; have HO447 := n4_; clear n0_ n1_ n2_ n3_ n4_; clear ho hb hg hat))
              go_roundg k1
              case measure => have := HK1.out; omega
              case rel => exact ⟨(y445), (wrap64 (x27_1 + 1)), (by first | rfl | (simp; done) | (simp [*]; done)), H', ⟨by have := HK1.out; omega⟩, ⟨by (with_reducible repeat (first | apply Kd.R_alloc | apply Kd.R_drewN | apply Kd.R_drew)); exact Kd.R_mono HO_9.out (fun _ hk => hk.2)⟩, ⟨by (with_reducible repeat (first | apply Kd.R_alloc | apply Kd.R_drewN | apply Kd.R_drew)); exact HO447.out⟩, ⟨bk_ BK435.out⟩, ⟨bk_ BK436.out⟩, ⟨hb2_ HB.out GE435.out GE436.out⟩⟩
            · rw [if_neg c24] at H
              exact absurd H (by simp)
        · rw [if_neg c20] at H
          have c20b0 : decide (x27_1 < (l1_2.length : Int)) = false := decide_eq_false c20
          clear c20
          obtain rfl := Option.some.inj H
          go_wp2
          go_ret
          exact ⟨_, er_, by (with_reducible repeat (first | apply Kd.R_alloc | apply Kd.R_drewN | apply Kd.R_drew)); exact Kd.R_mono HO_10.out (fun _ hk => trivial), hb2_ HB.out GE435.out GE436.out⟩
  · replace c6 := Bool.eq_false_iff.mpr c6
    subst c6
    have H1 : (some ([] : List Int)) = some r := by rw [if_neg (show ¬ (false = true) by decide)] at H; exact H
    clear H
    have H := H1
    clear H1
    obtain rfl := Option.some.inj H
    go_enter Try.func26, Try.ntmps26
    go_wp2_with (first | ((with_reducible refine gate_dst (N := 5) rfl ?_); refine box_event ?hg (N := 5) ?hd (cs := #[.int .i64 a1_0, .int .i64 a1_1, .slice A1_2 l1_2.length c1_2]) (t := 42) ?hr ?_; (case hd => rfl); (case hg => rfl); (case hr => first | (go_simp; done) | (go_simp; rfl)); intro gb435 hg w27 hbox hb; have n0_ := Aside0.mk (below_step (hb_ HB.out) hb); have n1_ := Aside0.mk (hbox); have n2_ := Aside0.mk ((by rw [hg]; exact (below_size (hb_ HB.out)) : w.heap.size ≤ gb435)); have n3_ := Aside0.mk ((by rw [hg]; exact (below_size (hb_ HB.out)) : w.heap.size ≤ gb435)); clear HB; have HB := n0_; have BK435 := n1_; have GW435 := n2_; have GE435 := n3_; clear n0_ n1_ n2_ n3_; clear hb hbox hg) | ((with_reducible refine gate_dst (N := 6) rfl ?_); refine box_event ?hg (N := 6) ?hd (cs := #[.int .i64 a2_0, .int .i64 a2_1]) (t := 44) ?hr ?_; (case hd => rfl); (case hg => rfl); (case hr => first | (go_simp; done) | (go_simp; rfl)); intro gb436 hg w28 hbox hb; have n0_ := Aside0.mk (bb_ BK435.out hb); have n1_ := Aside0.mk (below_step (hb1_ HB.out GE435.out) hb); have n2_ := Aside0.mk (hbox); have n3_ := Aside0.mk ((by rw [hg]; exact (below_size (hb1_ HB.out GE435.out)) : w.heap.size ≤ gb436)); have n4_ := Aside0.mk ((by rw [hg]; exact (below_size (hb1_ HB.out GE435.out)) : w.heap.size ≤ gb436)); have n5_ := Aside0.mk ((bl_ hg BK435.out : gb435 ≠ gb436)); have n6_ := Aside0.mk ((bg_ hg BK435.out : gb436 ≠ gb435)); clear BK435; clear HB; have BK435 := n0_; have HB := n1_; have BK436 := n2_; have GW436 := n3_; have GE436 := n4_; have NB435_436 := n5_; have NB436_435 := n6_; clear n0_ n1_ n2_ n3_ n4_ n5_ n6_; clear hb hbox hg; have hnb29 := NB435_436.out; have hnc29 := NB436_435.out; have hcz30_0 := bc_ BK435.out 0 (.int .i64 a1_0) rfl; have hcz30_1 := bc_ BK435.out 1 (.int .i64 a1_1) rfl; have hcz30_2 := bc_ BK435.out 2 (.slice A1_2 l1_2.length c1_2) rfl; have hfz30_0 := blk_frozen BK435.out 0; have hfz30_1 := blk_frozen BK435.out 1; have hfz30_2 := blk_frozen BK435.out 2; have hcz31_0 := bc_ BK436.out 0 (.int .i64 a2_0) rfl; have hcz31_1 := bc_ BK436.out 1 (.int .i64 a2_1) rfl; have hfz31_0 := blk_frozen BK436.out 0; have hfz31_1 := blk_frozen BK436.out 1) | ((with_reducible refine gate_callee (f := 53) rfl ?_); refine goesL_ (some 16) rfl rfl Try.func53 (by kernel_rfl) rfl #[.slice A0 l0.length c0, .agg #[.int .i64 a1_0, .int .i64 a1_1, .slice A1_2 l1_2.length c1_2], .agg #[.int .i64 a2_0, .int .i64 a2_1], .int .i64 a3] rfl arr_ ?_; (with_reducible refine (impl_heardOk.calls k _ _ l0 a1_0 a1_1 _ _ l1_2 a2_0 a2_1 a3 false _ ?side1 ?side2 ?side3 ?side4 A5.out).mono ?_); (case side1 => exact kc_ (Kd.C_below HR0.out HB.out)); (case side2 => exact HC0.out); (case side3 => exact kc_ (Kd.C_below HR1_2.out HB.out)); (case side4 => exact HC1_2.out); rintro e w32 ⟨rfl, hb⟩; refine ⟨_, rfl, ?_⟩; have n0_ := Aside0.mk (bb_ BK435.out hb); have n1_ := Aside0.mk (bb_ BK436.out hb); have n2_ := Aside0.mk (below_step (hb2_ HB.out GE435.out GE436.out) hb); clear BK435; clear BK436; clear HB; have BK435 := n0_; have BK436 := n1_; have HB := n2_; clear n0_ n1_ n2_; (try clear hb); (try clear hb2); (try clear hk); (try clear hi)))
    go_ret
    exact ⟨_, er_, by first | exact Kd.R_nil _ _ _ _ _ | exact Kd.N_nil _ _ _ _ _ | exact Kd.V_nil _ _ _ _ _ | exact Kd.Q_nil _ _ _ _ _ | exact Kd.S_nil _ _ _ _ _, hb2_ HB.out GE435.out GE436.out⟩
end Go.Proofs.Ytknckcakcknbbaa.P
namespace Go.Proofs.Ytknckcakcknbbaa.C
open Go.RowKit Go.Proofs.Ytknckcakcknbbaa.P Go.Proofs.Ytknckcakcknbbaa.G Go.Proofs.YtknckcakcknbbaaW.PrintWords
def rightH (l : List H) (st gap : Int) (p : List Sl) (n d t : Int) : Bool := heardOk l && (planOk st gap p && (driftOk n d && timeOk t))
theorem sRight (l : List H) (hl : l.length ≤ 1048576) (st gap : Int) (p : List Sl) (hp : p.length ≤ 1048576) (n d t : Int) (k : Nat) (hk : 1050000 ≤ k) : spec_l16Right.f k l st gap p n d t = some (rightH l st gap p n d t) := by
  unfold spec_l16Right.f rightH
  rw [sHeardOk l hl k (by omega), sPlanOk st gap p hp k (by omega), sDriftOk, l2Time]
  simp only [Option.bind_some]
  cases heardOk l <;> cases planOk st gap p <;> cases driftOk n d <;> simp [timeOk]
theorem iRight (l : List H) (hl : l.length ≤ 1048576) (st gap : Int) (p : List Sl) (hp : p.length ≤ 1048576) (n d t : Int) (k : Nat) (hk : 1050000 ≤ k) : impl_heardOk.f k l st gap p n d t = some (rightH l st gap p n d t) := by
  unfold impl_heardOk.f rightH
  rw [iHeardOk l hl k (by omega), iPlanOk st gap p hp k (by omega), iDriftOk, isTime]
  simp only [Option.bind_some]
  cases heardOk l <;> cases planOk st gap p <;> cases driftOk n d <;> simp [timeOk]
def near (gap : Int) (p : List Sl) (n d t : Int) (x : H) : Bool := (leastTime n d (t - x.f1)).2 && decide ((leastTime n d (t - x.f1)).1 ≤ round gap p)
def nowF (l : List H) (gap : Int) (p : List Sl) (n d t : Int) : Nat → List Int
  | 0 => []
  | i + 1 => match l[i]? with
    | some x => if near gap p n d t x = true then nowF l gap p n d t i ++ [x.f0] else nowF l gap p n d t i
    | none => nowF l gap p n d t i
theorem nowF_succ (l : List H) (gap : Int) (p : List Sl) (n d t : Int) (i : Nat) (h : i < l.length) : nowF l gap p n d t (i + 1) = if near gap p n d t l[i] = true then nowF l gap p n d t i ++ [l[i].f0] else nowF l gap p n d t i := by
  rw [nowF, List.getElem?_eq_getElem h]
theorem nowF_len (l : List H) (gap : Int) (p : List Sl) (n d t : Int) : ∀ i, i ≤ l.length → (nowF l gap p n d t i).length ≤ i := by
  intro i
  induction i with
  | zero => intro _; simp [nowF]
  | succ i ih => intro h; have := ih (by omega); rw [nowF_succ l gap p n d t i (by omega)]; split <;> (try simp) <;> omega
def heardNow (l : List H) (st gap : Int) (p : List Sl) (n d t : Int) : List Int := if rightH l st gap p n d t = true then nowF l gap p n d t l.length else []
theorem right_parts {l : List H} {st gap : Int} {p : List Sl} {n d t : Int} (h : rightH l st gap p n d t = true) : heardOk l = true ∧ planOk st gap p = true ∧ driftOk n d = true ∧ timeOk t = true := by
  unfold rightH at h; simpa using h
theorem heard_at {l : List H} (h : heardOk l = true) (i : Nat) (hi : i < l.length) : 0 ≤ l[i].f1 ∧ l[i].f1 ≤ 1000000000000 ∧ 0 ≤ l[i].f0 ∧ l[i].f0 ≤ 15 := by
  unfold heardOk at h; rw [all_iff] at h
  have := h i hi; rw [hq_eq l i hi] at this; simp at this; omega
theorem least_neg (n d x : Int) (h : x < 0) : leastTime n d x = (0, false) := by
  unfold leastTime; rw [if_neg]; rw [Bool.and_eq_true, timeOk_iff]; omega
theorem sHeardNow (l : List H) (hl : l.length ≤ 1048576) (st gap : Int) (p : List Sl) (hp : p.length ≤ 1048576) (n d t : Int) (k : Nat) (hk : 1050000 ≤ k) : spec_HeardNow.f k l st gap p n d t = some (heardNow l st gap p n d t) := by
  unfold spec_HeardNow.f heardNow
  rw [Option.bind_some, sRight l hl st gap p hp n d t k hk, Option.bind_some]
  split
  · rename_i h
    obtain ⟨h1, h2, h3, h4⟩ := right_parts h
    rw [timeOk_iff] at h4
    refine track_loop0 (n := l.length) (c := 20) (L := fun k s i => spec_HeardNow.l0 k l t s i st gap p n d) (F := fun i => nowF l gap p n d t i) (fun k i hi hk => ?_) (fun k _ => ?_) k (by omega)
    · simp only [spec_HeardNow.l0]
      have hb := heard_at h1 i hi
      have hn := nowF_len l gap p n d t i (by omega)
      rw [if_pos (by omega), if_pos (by omega), rdH l i hi, wrap_succ hi (by omega), wrap_id (x := t - l[i].f1) (by omega) (by omega), sLeastTime k n d _ (by omega), sRoundOf' h2 k (by omega), Option.bind_some, Option.bind_some, nowF_succ l gap p n d t i hi]
      unfold near
      by_cases hc : t < l[i].f1
      · rw [if_pos hc, least_neg n d _ (by omega)]; simp
      · rw [if_neg hc]
        cases (leastTime n d (t - l[i].f1)).2 with
        | false => simp
        | true =>
          rw [if_pos rfl, Bool.true_and]
          by_cases hr : (leastTime n d (t - l[i].f1)).1 ≤ round gap p
          · rw [if_pos hr, if_pos (by omega), decide_eq_true hr, if_pos rfl]
          · rw [if_neg hr, decide_eq_false hr, if_neg (by decide)]
    · simp only [spec_HeardNow.l0]
      rw [if_neg (by omega)]
  · rfl
theorem iHeardNow (l : List H) (hl : l.length ≤ 1048576) (st gap : Int) (p : List Sl) (hp : p.length ≤ 1048576) (n d t : Int) (k : Nat) (hk : 1050000 ≤ k) : impl_HeardNow.f k l st gap p n d t = some (heardNow l st gap p n d t) := by
  unfold impl_HeardNow.f heardNow
  rw [iRight l hl st gap p hp n d t k hk, Option.bind_some]
  split
  · rename_i h
    obtain ⟨h1, h2, h3, h4⟩ := right_parts h
    rw [timeOk_iff] at h4
    refine track_loop0 (n := l.length) (c := 20) (L := fun k s i => impl_HeardNow.l0 k t s l (l.length : Int) i st gap p n d) (F := fun i => nowF l gap p n d t i) (fun k i hi hk => ?_) (fun k _ => ?_) k (by omega)
    · simp only [impl_HeardNow.l0]
      have hb := heard_at h1 i hi
      have hn := nowF_len l gap p n d t i (by omega)
      rw [if_pos (by omega), if_pos (by omega), if_pos (by omega), rdH l i hi, wrap_succ hi (by omega), wrap_id (x := t - l[i].f1) (by omega) (by omega), iLeastTime n d _ (by omega), iRound h2 k (by omega), Option.bind_some, Option.bind_some, nowF_succ l gap p n d t i hi]
      unfold near
      cases (leastTime n d (t - l[i].f1)).2 with
      | false => simp
      | true =>
        rw [if_pos rfl, Bool.true_and]
        by_cases hr : (leastTime n d (t - l[i].f1)).1 ≤ round gap p
        · rw [if_pos hr, if_pos (by omega), decide_eq_true hr, if_pos rfl]
        · rw [if_neg hr, decide_eq_false hr, if_neg (by decide)]
    · simp only [impl_HeardNow.l0]
      rw [if_neg (by omega)]
  · rfl
theorem now_len (l : List H) (st gap : Int) (p : List Sl) (n d t : Int) : (heardNow l st gap p n d t).length ≤ l.length := by
  unfold heardNow; split
  · exact nowF_len l gap p n d t l.length (Nat.le_refl _)
  · simp
def lostF (now : List Int) : Nat → List Int
  | 0 => []
  | i + 1 => if hasI now i = true then lostF now i else lostF now i ++ [(i : Int)]
theorem lostF_len (now : List Int) : ∀ i, (lostF now i).length ≤ i := by
  intro i
  induction i with
  | zero => simp [lostF]
  | succ i ih => rw [lostF]; split <;> (try simp) <;> omega
def heardLost (l : List H) (st gap : Int) (p : List Sl) (n d t : Int) : List Int := if rightH l st gap p n d t = true then lostF (heardNow l st gap p n d t) p.length else []
theorem lost_len (l : List H) (st gap : Int) (p : List Sl) (n d t : Int) : (heardLost l st gap p n d t).length ≤ p.length := by
  unfold heardLost; split
  · exact lostF_len _ _
  · simp
theorem sHeardLost (l : List H) (hl : l.length ≤ 1048576) (st gap : Int) (p : List Sl) (hp : p.length ≤ 1048576) (n d t : Int) (k : Nat) (hk : 2200000 ≤ k) : spec_HeardLost.f k l st gap p n d t = some (heardLost l st gap p n d t) := by
  unfold spec_HeardLost.f heardLost
  rw [Option.bind_some, sRight l hl st gap p hp n d t k (by omega), Option.bind_some]
  split
  · rw [sHeardNow l hl st gap p hp n d t k (by omega), Option.bind_some]
    have hnl := now_len l st gap p n d t
    refine track_loop0 (n := p.length) (c := 1048600) (L := fun k s i => spec_HeardLost.l0 k s (heardNow l st gap p n d t) i st gap p) (F := fun i => lostF (heardNow l st gap p n d t) i) (fun k i hi hk => ?_) (fun k _ => ?_) k (by omega)
    · simp only [spec_HeardLost.l0]
      have hn := lostF_len (heardNow l st gap p n d t) i
      rw [if_pos (by omega), sHas _ (by omega) _ _ (by omega), Option.bind_some, wrap_succ hi (by omega), lostF]
      split
      · rfl
      · rw [if_pos (by omega)]
    · simp only [spec_HeardLost.l0]
      rw [if_neg (by omega)]
  · rfl
theorem iHeardLost (l : List H) (hl : l.length ≤ 1048576) (st gap : Int) (p : List Sl) (hp : p.length ≤ 1048576) (n d t : Int) (k : Nat) (hk : 2200000 ≤ k) : impl_HeardLost.f k l st gap p n d t = some (heardLost l st gap p n d t) := by
  unfold impl_HeardLost.f heardLost
  rw [iRight l hl st gap p hp n d t k (by omega), Option.bind_some]
  split
  · rw [iHeardNow l hl st gap p hp n d t k (by omega), Option.bind_some]
    have hnl := now_len l st gap p n d t
    refine track_loop0 (n := p.length) (c := 1048600) (L := fun k s i => impl_HeardLost.l0 k (heardNow l st gap p n d t) s (p.length : Int) i) (F := fun i => lostF (heardNow l st gap p n d t) i) (fun k i hi hk => ?_) (fun k _ => ?_) k (by omega)
    · simp only [impl_HeardLost.l0]
      have hn := lostF_len (heardNow l st gap p n d t) i
      rw [if_pos (by omega), iHas _ (by omega) _ _ (by omega), Option.bind_some, wrap_succ hi (by omega), lostF]
      split
      · rfl
      · rw [if_pos (by omega)]
    · simp only [impl_HeardLost.l0]
      rw [if_neg (by omega)]
  · rfl
theorem markHeardS (l : List H) (hl : l.length ≤ 2000000) (a : Int) (ha : 0 ≤ a ∧ a ≤ 1000000000) (k : Nat) (hk : l.length < k) : laws_markHeardS.f k l a = some (a + 2 * l.length, (List.range l.length).map fun (i : Nat) => (⟨a + 2 * i, a + 2 * i + 1⟩ : H)) := by
  unfold laws_markHeardS.f
  have := mark_loop0 (l := l) (f := fun i => (⟨a + 2 * i, a + 2 * i + 1⟩ : H)) (w := fun i => a + 2 * i) (c := 0) (L := fun k acc w i => laws_markHeardS.l0 k acc w i) (fin := fun acc => (a + 2 * l.length, acc)) (fun k i acc hi hacc _ => ?_) (fun k acc hacc => ?_) k (by omega)
  · simp only [Int.natCast_zero, Int.mul_zero, Int.add_zero] at this; exact this
  · simp only [laws_markHeardS.l0, Option.bind_some]
    rw [if_pos (by omega), if_pos (by omega), wrap_succ hi (by omega), Int.toNat_natCast, rdH (acc.set i _) i (by simp; omega), List.getElem_set_self, List.set_set, wrap_id (x := a + 2 * (i : Int) + 1) (by omega) (by omega), wrap_id (x := a + 2 * (i : Int) + 1 + 1) (by omega) (by omega)]
    congr 1; omega
  · simp only [laws_markHeardS.l0]
    rw [if_neg (by omega)]
theorem markSlotS (l : List Sl) (hl : l.length ≤ 2000000) (a : Int) (ha : 0 ≤ a ∧ a ≤ 1000000000) (k : Nat) (hk : l.length < k) : laws_markSlotS.f k l a = some (a + 2 * l.length, (List.range l.length).map fun (i : Nat) => (⟨a + 2 * i, a + 2 * i + 1⟩ : Sl)) := by
  unfold laws_markSlotS.f
  have := mark_loop0 (l := l) (f := fun i => (⟨a + 2 * i, a + 2 * i + 1⟩ : Sl)) (w := fun i => a + 2 * i) (c := 0) (L := fun k acc w i => laws_markSlotS.l0 k acc w i) (fin := fun acc => (a + 2 * l.length, acc)) (fun k i acc hi hacc _ => ?_) (fun k acc hacc => ?_) k (by omega)
  · simp only [Int.natCast_zero, Int.mul_zero, Int.add_zero] at this; exact this
  · simp only [laws_markSlotS.l0, Option.bind_some]
    rw [if_pos (by omega), if_pos (by omega), wrap_succ hi (by omega), Int.toNat_natCast, rdSl (acc.set i _) i (by simp; omega), List.getElem_set_self, List.set_set, wrap_id (x := a + 2 * (i : Int) + 1) (by omega) (by omega), wrap_id (x := a + 2 * (i : Int) + 1 + 1) (by omega) (by omega)]
    congr 1; omega
  · simp only [laws_markSlotS.l0]
    rw [if_neg (by omega)]
theorem markPlan (x y : Int) (l : List Sl) (hl : l.length ≤ 2000000) (a : Int) (ha : 0 ≤ a ∧ a ≤ 1000000000) (k : Nat) (hk : l.length < k) : laws_markPlan.f k x y l a = some (a + 2 * l.length, (List.range l.length).map fun (i : Nat) => (⟨a + 2 * i, a + 2 * i + 1⟩ : Sl)) := by
  unfold laws_markPlan.f; rw [markSlotS l hl a ha k hk]; rfl
end Go.Proofs.Ytknckcakcknbbaa.C
namespace Go.Proofs.Ytknckcakcknbbaa.V
open Go.RowKit Go.Proofs.Ytknckcakcknbbaa.P Go.Proofs.Ytknckcakcknbbaa.C Go.Proofs.Ytknckcakcknbbaa.G
theorem FnExactHeardNow : ∀ (l0 : List (S75)) (a1_0 : Int) (a1_1 : Int) (l1_2 : List (S110)) (a2_0 : Int) (a2_1 : Int) (a3 : Int), (l0.length ≤ 9223372036854775807 ∧ ∀ y ∈ l0, ((Lit.int .i64 y.f0).wf = true ∧ (Lit.int .i64 y.f1).wf = true)) → (Lit.int .i64 a1_0).wf = true → (Lit.int .i64 a1_1).wf = true → (l1_2.length ≤ 9223372036854775807 ∧ ∀ y ∈ l1_2, ((Lit.int .i64 y.f0).wf = true ∧ (Lit.int .i64 y.f1).wf = true)) → (Lit.int .i64 a2_0).wf = true → (Lit.int .i64 a2_1).wf = true → (Lit.int .i64 a3).wf = true → ∃ k, laws_FnExactHeardNow.f k l0 a1_0 a1_1 l1_2 a2_0 a2_1 a3 = some true := by
  intro l st gap p n d t ⟨hl, _⟩ _ _ ⟨hl2, _⟩ _ _ _
  refine ⟨2300000, ?_⟩
  unfold laws_FnExactHeardNow.f
  rcases szHeardS l hl 1048576 (by omega) with h | ⟨h, hs⟩
  · rw [h]; simp
  rw [h, Option.bind_some, if_neg (by omega)]
  rcases szPlan st gap p hl2 (1048576 - l.length) (by omega) with h2 | ⟨h2, hs2⟩
  · rw [h2]; simp
  rw [h2, Option.bind_some, if_neg (by omega)]
  have e1 : (l.map toH).length = l.length := by simp
  have e2 : (p.map toSl).length = p.length := by simp
  have hu := now_len (l.map toH) st gap (p.map toSl) n d t
  have hj : ∀ k, 2200000 ≤ k → laws_FnExactHeardNow.j0 k l t (heardNow (l.map toH) st gap (p.map toSl) n d t) (heardNow (l.map toH) st gap (p.map toSl) n d t) false st gap p n d = some true := by
    intro k hk
    obtain ⟨k, rfl⟩ : ∃ j, k = j + 1 := ⟨k - 1, by omega⟩
    simp only [laws_FnExactHeardNow.j0, laws_toDrift.f]
    rw [if_neg (by decide), markIntS _ (by omega) 1 (by omega) k (by omega)]
    simp only [Option.bind_some]
    rw [heldIntS _ (by omega) 1 (by omega) k (by omega)]
    simp only [Option.bind_some]
    rw [if_neg (by omega), if_pos trivial, toHeardS l (by omega) k (by omega), toPlan st gap p (by omega) k (by omega)]
    simp only [Option.bind_some]
    rw [iHeardNow _ (by omega) _ _ _ (by omega) _ _ _ k (by omega)]
    simp only [Option.bind_some]
    rw [eqIntS _ (by omega) k (by omega)]
    simp only [Option.bind_some]
    rw [if_pos (by trivial), if_neg (by omega), if_pos (by trivial)]
  simp only [laws_toDrift.f]
  rw [toHeardS l (by omega) _ (by omega), toPlan st gap p (by omega) _ (by omega)]
  simp only [Option.bind_some]
  rw [sHeardNow _ (by omega) _ _ _ (by omega) _ _ _ _ (by omega), iHeardNow _ (by omega) _ _ _ (by omega) _ _ _ _ (by omega)]
  simp only [Option.bind_some]
  rw [eqIntS _ (by omega) _ (by omega), eqHeardS _ (by omega) _ (by omega), eqPlan _ _ _ (by omega) _ (by omega)]
  simp only [Option.bind_some, if_true]
  rw [markHeardS _ (by omega) 1 (by omega) _ (by omega)]
  simp only [Option.bind_some]
  rw [markPlan _ _ _ (by omega) _ (by omega) _ (by omega)]
  simp only [Option.bind_some, Bool.not_true]
  rw [if_neg (by omega)]
  exact hj _ (by omega)
end Go.Proofs.Ytknckcakcknbbaa.V
namespace Go.Proofs.Ytknckcakcknbbaa.Args
open Go.ChangeShapes Go.WideShapes Go.Deep Go.Proofs.YtknckcakcknbbaaW.PrintWords
theorem trod_field {H : Type} {enc : TypeId × Value → H} {P : Program} {w : World} {base : Nat} {spare : Nat → Bool} {held : Bool} {fuel : Nat} {t : TypeId} {cs : List Value} {x : DataW H × List MemPlace} {fs : Array Field}
    (ht : P.underlying t = some (.struct fs)) (h : DataW.trod enc P w base spare held fuel t cs = some x) :
    cs.length = P.cellsOf t ∧ ∀ (i : Nat) (f : Field), fs[i]? = some f → ∃ n y, DataW.trod enc P w base spare held n f.type ((cs.drop f.offset).take (P.cellsOf f.type)) = some y := by
  obtain ⟨xs, n, rfl, _, hl, hx, hf⟩ := DataW.trod_struct ht h
  refine ⟨hl, fun i f hi => ⟨n, ?_⟩⟩
  have hi2 : i < fs.size := by
    rcases Nat.lt_or_ge i fs.size with h' | h'
    · exact h'
    · rw [Array.getElem?_eq_none h'] at hi; cases hi
  obtain ⟨y, hy⟩ : ∃ y, xs[i]? = some y := ⟨_, List.getElem?_eq_getElem (by omega)⟩
  exact ⟨y, by rw [hf i f hi, hy]⟩
theorem trod_at {H : Type} {enc : TypeId × Value → H} {P : Program} {w : World} {base : Nat} {spare : Nat → Bool} {held : Bool} {fuel : Nat} {t : TypeId} {cs : List Value} {x : DataW H × List MemPlace} {fs : Array Field}
    (ht : P.underlying t = some (.struct fs)) (h : DataW.trod enc P w base spare held fuel t cs = some x) (i : Nat) (ft : TypeId) (off sz : Nat) (cs' : List Value)
    (hf : ∃ f, fs[i]? = some f ∧ f.type = ft ∧ f.offset = off) (hw : P.cellsOf ft = sz) (hc : (cs.drop off).take sz = cs') : ∃ n y, DataW.trod enc P w base spare held n ft cs' = some y := by
  obtain ⟨f, h1, rfl, rfl⟩ := hf
  subst hw hc
  exact (trod_field ht h).2 i f h1
def Opens (P : Program) (t : TypeId) {α : Type} (d : Kd α) (B : α → Prop) : Prop :=
  ∀ {H : Type} {enc : TypeId × Value → H} {w : World} {base : Nat} {spare : Nat → Bool} {held : Bool} {fuel : Nat} {cs : List Value} {x : DataW H × List MemPlace},
    DataW.trod enc P w base spare held fuel t cs = some x → ∃ a, d.K w a cs ∧ B a
theorem open_row {H : Type} {enc : TypeId × Value → H} {P : Program} {w : World} {base : Nat} {spare : Nat → Bool} {held : Bool} {fuel : Nat} {t e : TypeId} {c : Value} {x : DataW H × List MemPlace} {α : Type} {d : Kd α} {B : α → Prop} (z : α)
    (ht : P.underlying t = some (.slice e)) (hsz : P.cellsOf e = d.sz) (he : Opens P e d B) (h : DataW.trod enc P w base spare held fuel t [c] = some x) :
    ∃ A cap l, c = .slice A l.length cap ∧ Kd.C d w A l.length l ∧ l.length ≤ cap ∧ l.length ≤ 9223372036854775807 ∧ ∀ y ∈ l, B y := by
  haveI : Inhabited α := ⟨z⟩
  rcases open_slice ht h with ⟨hc, _⟩ | ⟨a, len, cap, m, n, D, Pl, hc, _, hl, hm, hmm, _, hx⟩
  · obtain rfl := List.head_eq_of_cons_eq hc
    exact ⟨none, 0, [], rfl, Kd.C_nil _ _, Nat.le_refl _, by simp, fun y hy => by cases hy⟩
  · obtain rfl := List.head_eq_of_cons_eq hc
    have hlm : len ≤ m := by rw [hmm]; split <;> omega
    obtain ⟨f, hf⟩ := choose_lt (α := α) (n := len) (p := fun i y => (∃ c', c'.length = d.sz ∧ d.K w y c' ∧ ∀ k u, c'[k]? = some u → w.cell? (a.add (i * d.sz + k)) = some u) ∧ B y) (fun i hi => by
      obtain ⟨cs', h1, h2⟩ := hx i (by omega)
      obtain ⟨y, hk, hb⟩ := he h2
      refine ⟨y, ⟨cs', d.K_len hk, hk, fun k u hu => ?_⟩, hb⟩
      obtain ⟨_, hlen, hcell⟩ := World.cells?_some h1
      have hk2 : k < cs'.length := (List.getElem?_eq_some_iff.1 hu).1
      have := hcell k (by omega)
      rw [hsz, Addr.add_add] at this
      rw [this, hu])
    have hmax : len ≤ 9223372036854775807 := by unfold maxLen at hm; omega
    refine ⟨some a, cap, (List.range len).map f, by simp, ⟨by simp, by simpa using hmax, fun _ => ⟨a, rfl, fun j p hj => ?_⟩⟩, by simpa using hl, by simpa using hmax, fun y hy => ?_⟩
    · have hj2 : j < len := by simpa using (List.getElem?_eq_some_iff.1 hj).1
      rw [List.getElem?_map, List.getElem?_range hj2] at hj
      obtain rfl := Option.some.inj hj
      exact (hf j hj2).1
    · obtain ⟨j, hj, rfl⟩ := List.mem_map.1 hy
      exact (hf j (List.mem_range.1 hj)).2
theorem opens_int {P : Program} {t : TypeId} {k : IntKind} (ht : P.underlying t = some (.int k)) : Opens P t (Kd.int k) (fun x => (Lit.int k x).wf = true) := by
  intro H enc w base spare held fuel cs x h
  obtain ⟨n, rfl, _, hw⟩ := DataW.trod_int ht h
  exact ⟨n, rfl, hw⟩
theorem opens_bool {P : Program} {t : TypeId} (ht : P.underlying t = some .bool) : Opens P t Kd.bool (fun _ => True) := by
  intro H enc w base spare held fuel cs x h
  obtain ⟨n, rfl, _⟩ := DataW.trod_bool ht h
  exact ⟨n, rfl, trivial⟩
theorem opens_string {P : Program} {t : TypeId} (ht : P.underlying t = some .string) : Opens P t Kd.string (fun s => s.size ≤ 9223372036854775807) := by
  intro H enc w base spare held fuel cs x h
  obtain ⟨s, rfl, _, hs⟩ := DataW.trod_string ht h
  exact ⟨s, rfl, by unfold maxLen at hs; exact hs⟩
theorem opens_slice {P : Program} {t e : TypeId} {α : Type} {d : Kd α} {B : α → Prop} (z : α) (ht : P.underlying t = some (.slice e)) (hsz : P.cellsOf e = d.sz) (hc : P.cellsOf t = 1) (he : Opens P e d B) :
    Opens P t (Kd.slice e d) (fun l => l.length ≤ 9223372036854775807 ∧ ∀ y ∈ l, B y) := by
  intro H enc w base spare held fuel cs x h
  have h1 : ∃ c, cs = [c] := by
    rcases open_slice ht h with ⟨hc, _⟩ | ⟨a, len, cap, m, n, D, Pl, hc, _⟩
    · exact ⟨_, hc⟩
    · exact ⟨_, hc⟩
  obtain ⟨c, rfl⟩ := h1
  obtain ⟨A, cap, l, rfl, h1, h2, h3, h4⟩ := open_row z ht hsz he h
  exact ⟨l, ⟨A, cap, rfl, h2, h1⟩, h3, h4⟩
end Go.Proofs.Ytknckcakcknbbaa.Args
