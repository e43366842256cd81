/- Texts of the seat's proofs, part 4: functions of the program told as plain functions, with their contracts, and what is shown of them. No condition. -/
import Derived.Test.YtjlmfnpgcmmdnaaUKFEBP
import Derived.Test.YtjlmfnpgcmmdnaaKFEBP1
import Derived.Test.YtjlmfnpgcmmdnaaKFEBP2
import Derived.Test.YtjlmfnpgcmmdnaaKFEBP3
import Derived.Deep.Slices
import Derived.ProofKit
import Derived.OpenShut
set_option linter.unusedVariables false
set_option linter.unusedSimpArgs false
namespace Go.Proofs.Ytjlmfnpgcmmdnaa.P
open Go.RowKit Go.Proofs.YtjlmfnpgcmmdnaaW.PrintWords Go.Proofs.YtjlmfnpgcmmdnaaW.PrintLast Go.Proofs.YtjlmfnpgcmmdnaaW.PrintMore
attribute [local go_sem] max2_int min2_int max_two min_two max_three min_three max_four min_four
set_option linter.unusedVariables false
set_option linter.unusedSimpArgs false
def laws_heldFrameS.l0 : Nat → List (S33) → Int → Int → Option (Int)
  | 0, _, _, _ => none
  | k + 1, x0, x1, x5 => if x5 < (x0.length : Int) then (if 0 ≤ x5 then (if ((rd_T33 x0 x5).f0) = x1 then (if ((rd_T33 x0 x5).f1) = (wrap64 (x1 + 1)) then (if ((rd_T33 x0 x5).f2) = (wrap64 ((wrap64 (x1 + 1)) + 1)) then (if ((rd_T33 x0 x5).f3) = (wrap64 ((wrap64 ((wrap64 (x1 + 1)) + 1)) + 1)) then (if ((rd_T33 x0 x5).f4) = (wrap64 ((wrap64 ((wrap64 ((wrap64 (x1 + 1)) + 1)) + 1)) + 1)) then ((laws_markText.f k (wrap64 ((wrap64 ((wrap64 ((wrap64 ((wrap64 (x1 + 1)) + 1)) + 1)) + 1)) + 1))).bind fun t468 => (if ((rd_T33 x0 x5).f5).toList = t468.toList then (laws_heldFrameS.l0 k x0 (wrap64 ((wrap64 ((wrap64 ((wrap64 ((wrap64 ((wrap64 (x1 + 1)) + 1)) + 1)) + 1)) + 1)) + 1)) (wrap64 (x5 + 1))) else (some (-1)))) else (some (-1))) else (some (-1))) else (some (-1))) else (some (-1))) else (some (-1))) else (none)) else (some x1)
def laws_heldFrameS.f (k : Nat) (l0 : List (S33)) (a1 : Int) : Option (Int) := laws_heldFrameS.l0 k l0 a1 0
def laws_heldFrameS.T19 : Bool × List (List Nat × List Nat) := (true, [([], []), ([], []), ([0, 1], [0, 1]), ([2], [2]), ([3], [3]), ([], []), ([5], [5]), ([4, 6], [4, 6])])
def laws_heldFrameS.B19 : List Nat := [0, 0, 3, 7, 15, 0, 32, 127]
theorem laws_heldFrameS.tab19 : rtab .any (opsOf Try.f35 19) = laws_heldFrameS.T19 := by kernel_rfl
theorem laws_heldFrameS.bits19 : waitsOk laws_heldFrameS.T19.2 laws_heldFrameS.B19 = true := by kernel_rfl
set_option maxHeartbeats 8000000 in
set_option maxRecDepth 100000 in
theorem laws_heldFrameS.calls (k : Nat) (A0 : Option Addr) (c0 : Nat) (l0 : List (S33)) (a1 : Int) (r : Int) (w : World) (hr0 : Kd.C k33 w A0 l0.length l0) (hc0 : l0.length ≤ c0) (h : laws_heldFrameS.f k l0 a1 = some r) :
    Calls Try.prog 35 #[.slice A0 l0.length c0, .int .i64 a1] w fun e w' => e = .returned (.int .i64 r) ∧ Below w.heap.size w w' := by
  have HR0 := Aside0.mk hr0
  have HC0 := Aside0.mk hc0
  clear hr0 hc0
  have HB := Aside0.mk (Below.refl w.heap.size w)
  have H : (laws_heldFrameS.l0 k l0 a1 0) = some r := h
  clear h
  have H' := Aside0.mk H
  clear H
  go_enter Try.func35, Try.ntmps35
  go_wp2
  go_loopg [1, 5] k (fun kq v1 v5 w' => ∃ (x1_1 : Int) (x5_1 : Int), v1 = .int .i64 x1_1 ∧ v5 = .int .i64 x5_1 ∧ Aside0 (laws_heldFrameS.l0 kq l0 x1_1 x5_1 = some r) ∧ Aside0 (kq ≤ k) ∧ Aside0 (Below w.heap.size w w'))
  case atStart => exact ⟨(a1), (0), (by first | rfl | (simp; done) | (simp [*]; done)), (by first | rfl | (simp; done) | (simp [*]; done)), H', ⟨Nat.le_refl _⟩, ⟨hb_ HB.out⟩⟩
  case round =>
    clear H'
    try clear p2
    obtain ⟨x1_1, x5_1, rfl, rfl, HA, HK1, HB⟩ := hrel
    cases gk with
    | zero => exact absurd HA.out (by simp [laws_heldFrameS.l0])
    | succ k1 =>
      have H := HA.out
      clear HA
      simp only [laws_heldFrameS.l0] at H
      by_cases c3 : x5_1 < (l0.length : Int)
      · rw [if_pos c3] at H
        have c3b0 : decide (x5_1 < (l0.length : Int)) = true := decide_eq_true c3
        clear c3
        by_cases c4 : 0 ≤ x5_1
        · rw [if_pos c4] at H
          have c4b0 : decide (0 ≤ x5_1) = true := decide_eq_true c4
          clear c4
          by_cases c5 : ((rd_T33 l0 x5_1).f0) = x1_1
          · rw [if_pos c5] at H
            have c5b0 : (((rd_T33 l0 x5_1).f0) == x1_1) = true := beq_iff_eq.mpr c5
            have c5b1 : (((rd_T33 l0 x5_1).f0) != x1_1) = false := bne_eq_false_iff_eq.mpr c5
            clear c5
            by_cases c6 : ((rd_T33 l0 x5_1).f1) = (wrap64 (x1_1 + 1))
            · rw [if_pos c6] at H
              have c6b0 : (((rd_T33 l0 x5_1).f1) == (wrap64 (x1_1 + 1))) = true := beq_iff_eq.mpr c6
              have c6b1 : (((rd_T33 l0 x5_1).f1) != (wrap64 (x1_1 + 1))) = false := bne_eq_false_iff_eq.mpr c6
              clear c6
              by_cases c7 : ((rd_T33 l0 x5_1).f2) = (wrap64 ((wrap64 (x1_1 + 1)) + 1))
              · rw [if_pos c7] at H
                have c7b0 : (((rd_T33 l0 x5_1).f2) == (wrap64 ((wrap64 (x1_1 + 1)) + 1))) = true := beq_iff_eq.mpr c7
                have c7b1 : (((rd_T33 l0 x5_1).f2) != (wrap64 ((wrap64 (x1_1 + 1)) + 1))) = false := bne_eq_false_iff_eq.mpr c7
                clear c7
                by_cases c8 : ((rd_T33 l0 x5_1).f3) = (wrap64 ((wrap64 ((wrap64 (x1_1 + 1)) + 1)) + 1))
                · rw [if_pos c8] at H
                  have c8b0 : (((rd_T33 l0 x5_1).f3) == (wrap64 ((wrap64 ((wrap64 (x1_1 + 1)) + 1)) + 1))) = true := beq_iff_eq.mpr c8
                  have c8b1 : (((rd_T33 l0 x5_1).f3) != (wrap64 ((wrap64 ((wrap64 (x1_1 + 1)) + 1)) + 1))) = false := bne_eq_false_iff_eq.mpr c8
                  clear c8
                  by_cases c9 : ((rd_T33 l0 x5_1).f4) = (wrap64 ((wrap64 ((wrap64 ((wrap64 (x1_1 + 1)) + 1)) + 1)) + 1))
                  · rw [if_pos c9] at H
                    have c9b0 : (((rd_T33 l0 x5_1).f4) == (wrap64 ((wrap64 ((wrap64 ((wrap64 (x1_1 + 1)) + 1)) + 1)) + 1))) = true := beq_iff_eq.mpr c9
                    have c9b1 : (((rd_T33 l0 x5_1).f4) != (wrap64 ((wrap64 ((wrap64 ((wrap64 (x1_1 + 1)) + 1)) + 1)) + 1))) = false := bne_eq_false_iff_eq.mpr c9
                    clear c9
                    replace H := Option.bind_eq_some_iff.mp H
                    obtain ⟨t468, A100, H⟩ := H
                    replace H : (if ((rd_T33 l0 x5_1).f5).toList = t468.toList then (laws_heldFrameS.l0 k1 l0 (wrap64 ((wrap64 ((wrap64 ((wrap64 ((wrap64 ((wrap64 (x1_1 + 1)) + 1)) + 1)) + 1)) + 1)) + 1)) (wrap64 (x5_1 + 1))) else (some (-1))) = some r := H
                    have A10 := Aside0.mk A100
                    clear A100
                    by_cases c11 : ((rd_T33 l0 x5_1).f5).toList = t468.toList
                    · rw [if_pos c11] at H
                      have c11b0 : (((rd_T33 l0 x5_1).f5).toList == t468.toList) = true := beq_iff_eq.mpr c11
                      have c11b1 : (((rd_T33 l0 x5_1).f5).toList != t468.toList) = false := bne_eq_false_iff_eq.mpr c11
                      clear c11
                      have H' := Aside0.mk H
                      clear H
                      have p462 : 0 ≤ (x5_1 : Int) := of_decide_eq_true (by first | (with_reducible assumption) | assumption)
                      have q462 : x5_1 < (l0.length : Int) := of_decide_eq_true (by first | (with_reducible assumption) | assumption)
                      obtain ⟨ad462, e462, hx462_0, hx462_1, hx462_2, hx462_3, hx462_4, hx462_5⟩ := at_T33 HR0.out x5_1 p462 q462
                      cases e462
                      replace hx462_0 := (HB.out.cell (World.block_lt_of_cell? w _ hx462_0)).trans hx462_0
                      replace hx462_1 := (HB.out.cell (World.block_lt_of_cell? w _ hx462_1)).trans hx462_1
                      replace hx462_2 := (HB.out.cell (World.block_lt_of_cell? w _ hx462_2)).trans hx462_2
                      replace hx462_3 := (HB.out.cell (World.block_lt_of_cell? w _ hx462_3)).trans hx462_3
                      replace hx462_4 := (HB.out.cell (World.block_lt_of_cell? w _ hx462_4)).trans hx462_4
                      replace hx462_5 := (HB.out.cell (World.block_lt_of_cell? w _ hx462_5)).trans hx462_5
                      replace p462 := eq_true p462
                      replace q462 := eq_true q462
                      have p463 : 0 ≤ (x5_1 : Int) := of_decide_eq_true (by first | (with_reducible assumption) | assumption)
                      have q463 : x5_1 < (l0.length : Int) := of_decide_eq_true (by first | (with_reducible assumption) | assumption)
                      obtain ⟨ad463, e463, hx463_0, hx463_1, hx463_2, hx463_3, hx463_4, hx463_5⟩ := at_T33 HR0.out x5_1 p463 q463
                      obtain rfl : ad462 = ad463 := (by injection e463)
                      replace hx463_0 := (HB.out.cell (World.block_lt_of_cell? w _ hx463_0)).trans hx463_0
                      replace hx463_1 := (HB.out.cell (World.block_lt_of_cell? w _ hx463_1)).trans hx463_1
                      replace hx463_2 := (HB.out.cell (World.block_lt_of_cell? w _ hx463_2)).trans hx463_2
                      replace hx463_3 := (HB.out.cell (World.block_lt_of_cell? w _ hx463_3)).trans hx463_3
                      replace hx463_4 := (HB.out.cell (World.block_lt_of_cell? w _ hx463_4)).trans hx463_4
                      replace hx463_5 := (HB.out.cell (World.block_lt_of_cell? w _ hx463_5)).trans hx463_5
                      replace p463 := eq_true p463
                      replace q463 := eq_true q463
                      have p464 : 0 ≤ (x5_1 : Int) := of_decide_eq_true (by first | (with_reducible assumption) | assumption)
                      have q464 : x5_1 < (l0.length : Int) := of_decide_eq_true (by first | (with_reducible assumption) | assumption)
                      obtain ⟨ad464, e464, hx464_0, hx464_1, hx464_2, hx464_3, hx464_4, hx464_5⟩ := at_T33 HR0.out x5_1 p464 q464
                      obtain rfl : ad462 = ad464 := (by injection e464)
                      replace hx464_0 := (HB.out.cell (World.block_lt_of_cell? w _ hx464_0)).trans hx464_0
                      replace hx464_1 := (HB.out.cell (World.block_lt_of_cell? w _ hx464_1)).trans hx464_1
                      replace hx464_2 := (HB.out.cell (World.block_lt_of_cell? w _ hx464_2)).trans hx464_2
                      replace hx464_3 := (HB.out.cell (World.block_lt_of_cell? w _ hx464_3)).trans hx464_3
                      replace hx464_4 := (HB.out.cell (World.block_lt_of_cell? w _ hx464_4)).trans hx464_4
                      replace hx464_5 := (HB.out.cell (World.block_lt_of_cell? w _ hx464_5)).trans hx464_5
                      replace p464 := eq_true p464
                      replace q464 := eq_true q464
                      have p465 : 0 ≤ (x5_1 : Int) := of_decide_eq_true (by first | (with_reducible assumption) | assumption)
                      have q465 : x5_1 < (l0.length : Int) := of_decide_eq_true (by first | (with_reducible assumption) | assumption)
                      obtain ⟨ad465, e465, hx465_0, hx465_1, hx465_2, hx465_3, hx465_4, hx465_5⟩ := at_T33 HR0.out x5_1 p465 q465
                      obtain rfl : ad462 = ad465 := (by injection e465)
                      replace hx465_0 := (HB.out.cell (World.block_lt_of_cell? w _ hx465_0)).trans hx465_0
                      replace hx465_1 := (HB.out.cell (World.block_lt_of_cell? w _ hx465_1)).trans hx465_1
                      replace hx465_2 := (HB.out.cell (World.block_lt_of_cell? w _ hx465_2)).trans hx465_2
                      replace hx465_3 := (HB.out.cell (World.block_lt_of_cell? w _ hx465_3)).trans hx465_3
                      replace hx465_4 := (HB.out.cell (World.block_lt_of_cell? w _ hx465_4)).trans hx465_4
                      replace hx465_5 := (HB.out.cell (World.block_lt_of_cell? w _ hx465_5)).trans hx465_5
                      replace p465 := eq_true p465
                      replace q465 := eq_true q465
                      have p466 : 0 ≤ (x5_1 : Int) := of_decide_eq_true (by first | (with_reducible assumption) | assumption)
                      have q466 : x5_1 < (l0.length : Int) := of_decide_eq_true (by first | (with_reducible assumption) | assumption)
                      obtain ⟨ad466, e466, hx466_0, hx466_1, hx466_2, hx466_3, hx466_4, hx466_5⟩ := at_T33 HR0.out x5_1 p466 q466
                      obtain rfl : ad462 = ad466 := (by injection e466)
                      replace hx466_0 := (HB.out.cell (World.block_lt_of_cell? w _ hx466_0)).trans hx466_0
                      replace hx466_1 := (HB.out.cell (World.block_lt_of_cell? w _ hx466_1)).trans hx466_1
                      replace hx466_2 := (HB.out.cell (World.block_lt_of_cell? w _ hx466_2)).trans hx466_2
                      replace hx466_3 := (HB.out.cell (World.block_lt_of_cell? w _ hx466_3)).trans hx466_3
                      replace hx466_4 := (HB.out.cell (World.block_lt_of_cell? w _ hx466_4)).trans hx466_4
                      replace hx466_5 := (HB.out.cell (World.block_lt_of_cell? w _ hx466_5)).trans hx466_5
                      replace p466 := eq_true p466
                      replace q466 := eq_true q466
                      try go_wp2
                      have n0_ := Aside0.mk (below_drew1 HB.out)
                      clear HB
                      have HB := n0_
                      clear n0_
                      have p467 : 0 ≤ (x5_1 : Int) := of_decide_eq_true (by first | (with_reducible assumption) | assumption)
                      have q467 : x5_1 < (l0.length : Int) := of_decide_eq_true (by first | (with_reducible assumption) | assumption)
                      obtain ⟨ad467, e467, hx467_0, hx467_1, hx467_2, hx467_3, hx467_4, hx467_5⟩ := at_T33 HR0.out x5_1 p467 q467
                      have hw467_5 := hx467_5
                      have hw467_4 := hx467_4
                      have hw467_3 := hx467_3
                      have hw467_2 := hx467_2
                      have hw467_1 := hx467_1
                      have hw467_0 := hx467_0
                      obtain rfl : ad462 = ad467 := (by injection e467)
                      replace hx467_0 := (HB.out.cell (World.block_lt_of_cell? w _ hx467_0)).trans hx467_0
                      replace hx467_1 := (HB.out.cell (World.block_lt_of_cell? w _ hx467_1)).trans hx467_1
                      replace hx467_2 := (HB.out.cell (World.block_lt_of_cell? w _ hx467_2)).trans hx467_2
                      replace hx467_3 := (HB.out.cell (World.block_lt_of_cell? w _ hx467_3)).trans hx467_3
                      replace hx467_4 := (HB.out.cell (World.block_lt_of_cell? w _ hx467_4)).trans hx467_4
                      replace hx467_5 := (HB.out.cell (World.block_lt_of_cell? w _ hx467_5)).trans hx467_5
                      replace p467 := eq_true p467
                      replace q467 := eq_true q467
                      refine start_ (n := 8) (S := fun w' => w'.cell? (ad462.add ((x5_1).toNat * 6)) = some (.int .i64 ((rd_T33 l0 x5_1).f0)) ∧ w'.cell? ⟨(ad462.add ((x5_1).toNat * 6)).block, (ad462.add ((x5_1).toNat * 6)).off + 1, none⟩ = some (.int .i64 ((rd_T33 l0 x5_1).f1)) ∧ w'.cell? ⟨(ad462.add ((x5_1).toNat * 6)).block, (ad462.add ((x5_1).toNat * 6)).off + 2, none⟩ = some (.int .i64 ((rd_T33 l0 x5_1).f2)) ∧ w'.cell? ⟨(ad462.add ((x5_1).toNat * 6)).block, (ad462.add ((x5_1).toNat * 6)).off + 3, none⟩ = some (.int .i64 ((rd_T33 l0 x5_1).f3)) ∧ w'.cell? ⟨(ad462.add ((x5_1).toNat * 6)).block, (ad462.add ((x5_1).toNat * 6)).off + 4, none⟩ = some (.int .i64 ((rd_T33 l0 x5_1).f4)) ∧ w'.cell? ⟨(ad462.add ((x5_1).toNat * 6)).block, (ad462.add ((x5_1).toNat * 6)).off + 5, none⟩ = some (.string ((rd_T33 l0 x5_1).f5))) (ds := []) #[false, false, false, false, false, false, false, false] (by kernel_rfl) rfl rfl ⟨((HB.out.cell (World.block_lt_of_cell? w _ hw467_0)).trans hw467_0), ((HB.out.cell (World.block_lt_of_cell? w _ hw467_1)).trans hw467_1), ((HB.out.cell (World.block_lt_of_cell? w _ hw467_2)).trans hw467_2), ((HB.out.cell (World.block_lt_of_cell? w _ hw467_3)).trans hw467_3), ((HB.out.cell (World.block_lt_of_cell? w _ hw467_4)).trans hw467_4), ((HB.out.cell (World.block_lt_of_cell? w _ hw467_5)).trans hw467_5)⟩ (fun hHeld => ?_); refine with_tabW laws_heldFrameS.tab19 laws_heldFrameS.bits19 (fun HT_ HW_ => ?_)
                      generalize wr.drew = w12 at HB hx467_0 hx467_1 hx467_2 hx467_3 hx467_4 hx467_5 hHeld ⊢
                      refine pure_ (i := 0) (N := some 57) (v := ?_) (a' := ?_) #[true, false, false, false, false, false, false, false] rfl rfl (any_of HT_.out (by kernel_rfl)) (fun _ _ _ h => h) (Or.inl ⟨by rfl, ?_⟩) ?_ ?_
                      rotate_left
                      · intro w'
                        go_simp
                        with_reducible rfl
                      rotate_left
                      · simp only [Act.put, List.setIfInBounds_toArray, List.set_cons_zero, List.set_cons_succ, i64_w, i32_w]
                        rfl
                      refine pure_ (i := 1) (N := some 58) (v := ?_) (a' := ?_) #[true, true, false, false, false, false, false, false] rfl rfl (any_of HT_.out (by kernel_rfl)) (fun _ _ _ h => h) (Or.inl ⟨by rfl, ?_⟩) ?_ ?_
                      rotate_left
                      · intro w'
                        go_simp
                        with_reducible rfl
                      rotate_left
                      · simp only [Act.put, List.setIfInBounds_toArray, List.set_cons_zero, List.set_cons_succ, i64_w, i32_w]
                        rfl
                      refine pure_ (i := 2) (N := some 59) (v := ?_) (a' := ?_) #[true, true, true, false, false, false, false, false] rfl rfl (any_of HT_.out (by kernel_rfl)) (fun _ _ _ h => h) (Or.inl ⟨by rfl, ?_⟩) ?_ ?_
                      rotate_left
                      · intro w'
                        go_simp
                        with_reducible rfl
                      rotate_left
                      · simp only [Act.put, List.setIfInBounds_toArray, List.set_cons_zero, List.set_cons_succ, i64_w, i32_w]
                        rfl
                      refine pure_ (i := 3) (N := some 60) (v := ?_) (a' := ?_) #[true, true, true, true, false, false, false, false] rfl rfl (any_of HT_.out (by kernel_rfl)) (fun _ _ _ h => h) (Or.inl ⟨by rfl, ?_⟩) ?_ ?_
                      rotate_left
                      · intro w'
                        go_simp
                        with_reducible rfl
                      rotate_left
                      · simp only [Act.put, List.setIfInBounds_toArray, List.set_cons_zero, List.set_cons_succ, i64_w, i32_w]
                        rfl
                      refine pure_ (i := 5) (N := some 62) (v := ?_) (a' := ?_) #[true, true, true, true, false, true, false, false] rfl rfl (any_of HT_.out (by kernel_rfl)) (fun _ _ _ h => h) (Or.inl ⟨by rfl, ?_⟩) ?_ ?_
                      rotate_left
                      · intro w'
                        go_simp
                        with_reducible rfl
                      rotate_left
                      · simp only [Act.put, List.setIfInBounds_toArray, List.set_cons_zero, List.set_cons_succ, i64_w, i32_w]
                        rfl
                      refine take_ (i := 4) (N := some 61) (v := ?_) (a' := ?_) #[true, true, true, true, true, true, false, false] rfl rfl (take_ofW HT_.out HW_.out (by kernel_rfl)) (fun _ _ _ h => h) (Or.inl ⟨by rfl, ?_⟩) hHeld ?_ ?_
                      rotate_left
                      · rintro w' ⟨s0, s1, s2, s3, s4, s5⟩
                        go_simp
                        with_reducible rfl
                      rotate_left
                      · simp only [Act.put, List.setIfInBounds_toArray, List.set_cons_zero, List.set_cons_succ, i64_w, i32_w]
                        rfl
                      refine one_ (i := 6) (N := some 63) #[true, true, true, true, true, true, true, false] rfl rfl (one_of HT_.out (by kernel_rfl)) (by decide) (fun K hK => ?_)
                      refine goes_ Try.func66 (by kernel_rfl) rfl #[.int .i64 (wrap64 ((wrap64 ((wrap64 ((wrap64 ((wrap64 (x1_1 + 1)) + 1)) + 1)) + 1)) + 1))] (by rfl) rfl rfl arr_ ?_
                      with_reducible refine (laws_markText.calls k1 (wrap64 ((wrap64 ((wrap64 ((wrap64 ((wrap64 (x1_1 + 1)) + 1)) + 1)) + 1)) + 1)) t468 _ A10.out).mono ?_
                      rintro e w13 ⟨rfl, hb⟩
                      refine ⟨_, rfl, ?_⟩
                      have n0_ := Aside0.mk (below_step (hb_ HB.out) hb)
                      clear HB
                      have HB := n0_
                      clear n0_
                      (try clear hb)
                      (try clear hb2)
                      (try clear hk)
                      (try clear hi)
                      refine hK.out _ _ ⟨((HB.out.cell (World.block_lt_of_cell? w _ hw467_0)).trans hw467_0), ((HB.out.cell (World.block_lt_of_cell? w _ hw467_1)).trans hw467_1), ((HB.out.cell (World.block_lt_of_cell? w _ hw467_2)).trans hw467_2), ((HB.out.cell (World.block_lt_of_cell? w _ hw467_3)).trans hw467_3), ((HB.out.cell (World.block_lt_of_cell? w _ hw467_4)).trans hw467_4), ((HB.out.cell (World.block_lt_of_cell? w _ hw467_5)).trans hw467_5)⟩ (fun hHeld => ?_)
                      clear hK K
                      refine norm_ (a' := ?_) ?_ ?_
                      rotate_left
                      · show Act.put _ (some 63) _ = _
                        simp only [Act.put, List.setIfInBounds_toArray, List.set_cons_zero, List.set_cons_succ, i64_w, i32_w]
                        rfl
                      refine pure_ (i := 7) (N := some 64) (v := ?_) (a' := ?_) #[true, true, true, true, true, true, true, true] rfl rfl (any_of HT_.out (by kernel_rfl)) (fun _ _ _ h => h) (Or.inl ⟨by rfl, ?_⟩) ?_ ?_
                      rotate_left
                      · intro w'
                        go_simp
                        with_reducible rfl
                      rotate_left
                      · simp only [Act.put, List.setIfInBounds_toArray, List.set_cons_zero, List.set_cons_succ, i64_w, i32_w]
                        rfl
                      refine done_ (done_of HT_.out (by kernel_rfl)) ?_
                      try go_wp2
                      go_roundg k1
                      case measure => have := HK1.out; omega
                      case rel => exact ⟨(wrap64 ((wrap64 ((wrap64 ((wrap64 ((wrap64 ((wrap64 (x1_1 + 1)) + 1)) + 1)) + 1)) + 1)) + 1)), (wrap64 (x5_1 + 1)), (by first | rfl | (simp; done) | (simp [*]; done)), (by first | rfl | (simp; done) | (simp [*]; done)), H', ⟨by have := HK1.out; omega⟩, ⟨hb_ HB.out⟩⟩
                    · rw [if_neg c11] at H
                      have c11b0 : (((rd_T33 l0 x5_1).f5).toList == t468.toList) = false := beq_eq_false_iff_ne.mpr c11
                      have c11b1 : (((rd_T33 l0 x5_1).f5).toList != t468.toList) = true := bne_iff_ne.mpr c11
                      obtain rfl := Option.some.inj H
                      have p462 : 0 ≤ (x5_1 : Int) := of_decide_eq_true (by first | (with_reducible assumption) | assumption)
                      have q462 : x5_1 < (l0.length : Int) := of_decide_eq_true (by first | (with_reducible assumption) | assumption)
                      obtain ⟨ad462, e462, hx462_0, hx462_1, hx462_2, hx462_3, hx462_4, hx462_5⟩ := at_T33 HR0.out x5_1 p462 q462
                      cases e462
                      replace hx462_0 := (HB.out.cell (World.block_lt_of_cell? w _ hx462_0)).trans hx462_0
                      replace hx462_1 := (HB.out.cell (World.block_lt_of_cell? w _ hx462_1)).trans hx462_1
                      replace hx462_2 := (HB.out.cell (World.block_lt_of_cell? w _ hx462_2)).trans hx462_2
                      replace hx462_3 := (HB.out.cell (World.block_lt_of_cell? w _ hx462_3)).trans hx462_3
                      replace hx462_4 := (HB.out.cell (World.block_lt_of_cell? w _ hx462_4)).trans hx462_4
                      replace hx462_5 := (HB.out.cell (World.block_lt_of_cell? w _ hx462_5)).trans hx462_5
                      replace p462 := eq_true p462
                      replace q462 := eq_true q462
                      have p463 : 0 ≤ (x5_1 : Int) := of_decide_eq_true (by first | (with_reducible assumption) | assumption)
                      have q463 : x5_1 < (l0.length : Int) := of_decide_eq_true (by first | (with_reducible assumption) | assumption)
                      obtain ⟨ad463, e463, hx463_0, hx463_1, hx463_2, hx463_3, hx463_4, hx463_5⟩ := at_T33 HR0.out x5_1 p463 q463
                      obtain rfl : ad462 = ad463 := (by injection e463)
                      replace hx463_0 := (HB.out.cell (World.block_lt_of_cell? w _ hx463_0)).trans hx463_0
                      replace hx463_1 := (HB.out.cell (World.block_lt_of_cell? w _ hx463_1)).trans hx463_1
                      replace hx463_2 := (HB.out.cell (World.block_lt_of_cell? w _ hx463_2)).trans hx463_2
                      replace hx463_3 := (HB.out.cell (World.block_lt_of_cell? w _ hx463_3)).trans hx463_3
                      replace hx463_4 := (HB.out.cell (World.block_lt_of_cell? w _ hx463_4)).trans hx463_4
                      replace hx463_5 := (HB.out.cell (World.block_lt_of_cell? w _ hx463_5)).trans hx463_5
                      replace p463 := eq_true p463
                      replace q463 := eq_true q463
                      have p464 : 0 ≤ (x5_1 : Int) := of_decide_eq_true (by first | (with_reducible assumption) | assumption)
                      have q464 : x5_1 < (l0.length : Int) := of_decide_eq_true (by first | (with_reducible assumption) | assumption)
                      obtain ⟨ad464, e464, hx464_0, hx464_1, hx464_2, hx464_3, hx464_4, hx464_5⟩ := at_T33 HR0.out x5_1 p464 q464
                      obtain rfl : ad462 = ad464 := (by injection e464)
                      replace hx464_0 := (HB.out.cell (World.block_lt_of_cell? w _ hx464_0)).trans hx464_0
                      replace hx464_1 := (HB.out.cell (World.block_lt_of_cell? w _ hx464_1)).trans hx464_1
                      replace hx464_2 := (HB.out.cell (World.block_lt_of_cell? w _ hx464_2)).trans hx464_2
                      replace hx464_3 := (HB.out.cell (World.block_lt_of_cell? w _ hx464_3)).trans hx464_3
                      replace hx464_4 := (HB.out.cell (World.block_lt_of_cell? w _ hx464_4)).trans hx464_4
                      replace hx464_5 := (HB.out.cell (World.block_lt_of_cell? w _ hx464_5)).trans hx464_5
                      replace p464 := eq_true p464
                      replace q464 := eq_true q464
                      have p465 : 0 ≤ (x5_1 : Int) := of_decide_eq_true (by first | (with_reducible assumption) | assumption)
                      have q465 : x5_1 < (l0.length : Int) := of_decide_eq_true (by first | (with_reducible assumption) | assumption)
                      obtain ⟨ad465, e465, hx465_0, hx465_1, hx465_2, hx465_3, hx465_4, hx465_5⟩ := at_T33 HR0.out x5_1 p465 q465
                      obtain rfl : ad462 = ad465 := (by injection e465)
                      replace hx465_0 := (HB.out.cell (World.block_lt_of_cell? w _ hx465_0)).trans hx465_0
                      replace hx465_1 := (HB.out.cell (World.block_lt_of_cell? w _ hx465_1)).trans hx465_1
                      replace hx465_2 := (HB.out.cell (World.block_lt_of_cell? w _ hx465_2)).trans hx465_2
                      replace hx465_3 := (HB.out.cell (World.block_lt_of_cell? w _ hx465_3)).trans hx465_3
                      replace hx465_4 := (HB.out.cell (World.block_lt_of_cell? w _ hx465_4)).trans hx465_4
                      replace hx465_5 := (HB.out.cell (World.block_lt_of_cell? w _ hx465_5)).trans hx465_5
                      replace p465 := eq_true p465
                      replace q465 := eq_true q465
                      have p466 : 0 ≤ (x5_1 : Int) := of_decide_eq_true (by first | (with_reducible assumption) | assumption)
                      have q466 : x5_1 < (l0.length : Int) := of_decide_eq_true (by first | (with_reducible assumption) | assumption)
                      obtain ⟨ad466, e466, hx466_0, hx466_1, hx466_2, hx466_3, hx466_4, hx466_5⟩ := at_T33 HR0.out x5_1 p466 q466
                      obtain rfl : ad462 = ad466 := (by injection e466)
                      replace hx466_0 := (HB.out.cell (World.block_lt_of_cell? w _ hx466_0)).trans hx466_0
                      replace hx466_1 := (HB.out.cell (World.block_lt_of_cell? w _ hx466_1)).trans hx466_1
                      replace hx466_2 := (HB.out.cell (World.block_lt_of_cell? w _ hx466_2)).trans hx466_2
                      replace hx466_3 := (HB.out.cell (World.block_lt_of_cell? w _ hx466_3)).trans hx466_3
                      replace hx466_4 := (HB.out.cell (World.block_lt_of_cell? w _ hx466_4)).trans hx466_4
                      replace hx466_5 := (HB.out.cell (World.block_lt_of_cell? w _ hx466_5)).trans hx466_5
                      replace p466 := eq_true p466
                      replace q466 := eq_true q466
                      try go_wp2
                      have n0_ := Aside0.mk (below_drew1 HB.out)
                      clear HB
                      have HB := n0_
                      clear n0_
                      have p467 : 0 ≤ (x5_1 : Int) := of_decide_eq_true (by first | (with_reducible assumption) | assumption)
                      have q467 : x5_1 < (l0.length : Int) := of_decide_eq_true (by first | (with_reducible assumption) | assumption)
                      obtain ⟨ad467, e467, hx467_0, hx467_1, hx467_2, hx467_3, hx467_4, hx467_5⟩ := at_T33 HR0.out x5_1 p467 q467
                      have hw467_5 := hx467_5
                      have hw467_4 := hx467_4
                      have hw467_3 := hx467_3
                      have hw467_2 := hx467_2
                      have hw467_1 := hx467_1
                      have hw467_0 := hx467_0
                      obtain rfl : ad462 = ad467 := (by injection e467)
                      replace hx467_0 := (HB.out.cell (World.block_lt_of_cell? w _ hx467_0)).trans hx467_0
                      replace hx467_1 := (HB.out.cell (World.block_lt_of_cell? w _ hx467_1)).trans hx467_1
                      replace hx467_2 := (HB.out.cell (World.block_lt_of_cell? w _ hx467_2)).trans hx467_2
                      replace hx467_3 := (HB.out.cell (World.block_lt_of_cell? w _ hx467_3)).trans hx467_3
                      replace hx467_4 := (HB.out.cell (World.block_lt_of_cell? w _ hx467_4)).trans hx467_4
                      replace hx467_5 := (HB.out.cell (World.block_lt_of_cell? w _ hx467_5)).trans hx467_5
                      replace p467 := eq_true p467
                      replace q467 := eq_true q467
                      refine start_ (n := 8) (S := fun w' => w'.cell? (ad462.add ((x5_1).toNat * 6)) = some (.int .i64 ((rd_T33 l0 x5_1).f0)) ∧ w'.cell? ⟨(ad462.add ((x5_1).toNat * 6)).block, (ad462.add ((x5_1).toNat * 6)).off + 1, none⟩ = some (.int .i64 ((rd_T33 l0 x5_1).f1)) ∧ w'.cell? ⟨(ad462.add ((x5_1).toNat * 6)).block, (ad462.add ((x5_1).toNat * 6)).off + 2, none⟩ = some (.int .i64 ((rd_T33 l0 x5_1).f2)) ∧ w'.cell? ⟨(ad462.add ((x5_1).toNat * 6)).block, (ad462.add ((x5_1).toNat * 6)).off + 3, none⟩ = some (.int .i64 ((rd_T33 l0 x5_1).f3)) ∧ w'.cell? ⟨(ad462.add ((x5_1).toNat * 6)).block, (ad462.add ((x5_1).toNat * 6)).off + 4, none⟩ = some (.int .i64 ((rd_T33 l0 x5_1).f4)) ∧ w'.cell? ⟨(ad462.add ((x5_1).toNat * 6)).block, (ad462.add ((x5_1).toNat * 6)).off + 5, none⟩ = some (.string ((rd_T33 l0 x5_1).f5))) (ds := []) #[false, false, false, false, false, false, false, false] (by kernel_rfl) rfl rfl ⟨((HB.out.cell (World.block_lt_of_cell? w _ hw467_0)).trans hw467_0), ((HB.out.cell (World.block_lt_of_cell? w _ hw467_1)).trans hw467_1), ((HB.out.cell (World.block_lt_of_cell? w _ hw467_2)).trans hw467_2), ((HB.out.cell (World.block_lt_of_cell? w _ hw467_3)).trans hw467_3), ((HB.out.cell (World.block_lt_of_cell? w _ hw467_4)).trans hw467_4), ((HB.out.cell (World.block_lt_of_cell? w _ hw467_5)).trans hw467_5)⟩ (fun hHeld => ?_); refine with_tabW laws_heldFrameS.tab19 laws_heldFrameS.bits19 (fun HT_ HW_ => ?_)
                      generalize wr.drew = w14 at HB hx467_0 hx467_1 hx467_2 hx467_3 hx467_4 hx467_5 hHeld ⊢
                      refine pure_ (i := 0) (N := some 57) (v := ?_) (a' := ?_) #[true, false, false, false, false, false, false, false] rfl rfl (any_of HT_.out (by kernel_rfl)) (fun _ _ _ h => h) (Or.inl ⟨by rfl, ?_⟩) ?_ ?_
                      rotate_left
                      · intro w'
                        go_simp
                        with_reducible rfl
                      rotate_left
                      · simp only [Act.put, List.setIfInBounds_toArray, List.set_cons_zero, List.set_cons_succ, i64_w, i32_w]
                        rfl
                      refine pure_ (i := 1) (N := some 58) (v := ?_) (a' := ?_) #[true, true, false, false, false, false, false, false] rfl rfl (any_of HT_.out (by kernel_rfl)) (fun _ _ _ h => h) (Or.inl ⟨by rfl, ?_⟩) ?_ ?_
                      rotate_left
                      · intro w'
                        go_simp
                        with_reducible rfl
                      rotate_left
                      · simp only [Act.put, List.setIfInBounds_toArray, List.set_cons_zero, List.set_cons_succ, i64_w, i32_w]
                        rfl
                      refine pure_ (i := 2) (N := some 59) (v := ?_) (a' := ?_) #[true, true, true, false, false, false, false, false] rfl rfl (any_of HT_.out (by kernel_rfl)) (fun _ _ _ h => h) (Or.inl ⟨by rfl, ?_⟩) ?_ ?_
                      rotate_left
                      · intro w'
                        go_simp
                        with_reducible rfl
                      rotate_left
                      · simp only [Act.put, List.setIfInBounds_toArray, List.set_cons_zero, List.set_cons_succ, i64_w, i32_w]
                        rfl
                      refine pure_ (i := 3) (N := some 60) (v := ?_) (a' := ?_) #[true, true, true, true, false, false, false, false] rfl rfl (any_of HT_.out (by kernel_rfl)) (fun _ _ _ h => h) (Or.inl ⟨by rfl, ?_⟩) ?_ ?_
                      rotate_left
                      · intro w'
                        go_simp
                        with_reducible rfl
                      rotate_left
                      · simp only [Act.put, List.setIfInBounds_toArray, List.set_cons_zero, List.set_cons_succ, i64_w, i32_w]
                        rfl
                      refine pure_ (i := 5) (N := some 62) (v := ?_) (a' := ?_) #[true, true, true, true, false, true, false, false] rfl rfl (any_of HT_.out (by kernel_rfl)) (fun _ _ _ h => h) (Or.inl ⟨by rfl, ?_⟩) ?_ ?_
                      rotate_left
                      · intro w'
                        go_simp
                        with_reducible rfl
                      rotate_left
                      · simp only [Act.put, List.setIfInBounds_toArray, List.set_cons_zero, List.set_cons_succ, i64_w, i32_w]
                        rfl
                      refine take_ (i := 4) (N := some 61) (v := ?_) (a' := ?_) #[true, true, true, true, true, true, false, false] rfl rfl (take_ofW HT_.out HW_.out (by kernel_rfl)) (fun _ _ _ h => h) (Or.inl ⟨by rfl, ?_⟩) hHeld ?_ ?_
                      rotate_left
                      · rintro w' ⟨s0, s1, s2, s3, s4, s5⟩
                        go_simp
                        with_reducible rfl
                      rotate_left
                      · simp only [Act.put, List.setIfInBounds_toArray, List.set_cons_zero, List.set_cons_succ, i64_w, i32_w]
                        rfl
                      refine one_ (i := 6) (N := some 63) #[true, true, true, true, true, true, true, false] rfl rfl (one_of HT_.out (by kernel_rfl)) (by decide) (fun K hK => ?_)
                      refine goes_ Try.func66 (by kernel_rfl) rfl #[.int .i64 (wrap64 ((wrap64 ((wrap64 ((wrap64 ((wrap64 (x1_1 + 1)) + 1)) + 1)) + 1)) + 1))] (by rfl) rfl rfl arr_ ?_
                      with_reducible refine (laws_markText.calls k1 (wrap64 ((wrap64 ((wrap64 ((wrap64 ((wrap64 (x1_1 + 1)) + 1)) + 1)) + 1)) + 1)) t468 _ A10.out).mono ?_
                      rintro e w15 ⟨rfl, hb⟩
                      refine ⟨_, rfl, ?_⟩
                      have n0_ := Aside0.mk (below_step (hb_ HB.out) hb)
                      clear HB
                      have HB := n0_
                      clear n0_
                      (try clear hb)
                      (try clear hb2)
                      (try clear hk)
                      (try clear hi)
                      refine hK.out _ _ ⟨((HB.out.cell (World.block_lt_of_cell? w _ hw467_0)).trans hw467_0), ((HB.out.cell (World.block_lt_of_cell? w _ hw467_1)).trans hw467_1), ((HB.out.cell (World.block_lt_of_cell? w _ hw467_2)).trans hw467_2), ((HB.out.cell (World.block_lt_of_cell? w _ hw467_3)).trans hw467_3), ((HB.out.cell (World.block_lt_of_cell? w _ hw467_4)).trans hw467_4), ((HB.out.cell (World.block_lt_of_cell? w _ hw467_5)).trans hw467_5)⟩ (fun hHeld => ?_)
                      clear hK K
                      refine norm_ (a' := ?_) ?_ ?_
                      rotate_left
                      · show Act.put _ (some 63) _ = _
                        simp only [Act.put, List.setIfInBounds_toArray, List.set_cons_zero, List.set_cons_succ, i64_w, i32_w]
                        rfl
                      refine pure_ (i := 7) (N := some 64) (v := ?_) (a' := ?_) #[true, true, true, true, true, true, true, true] rfl rfl (any_of HT_.out (by kernel_rfl)) (fun _ _ _ h => h) (Or.inl ⟨by rfl, ?_⟩) ?_ ?_
                      rotate_left
                      · intro w'
                        go_simp
                        with_reducible rfl
                      rotate_left
                      · simp only [Act.put, List.setIfInBounds_toArray, List.set_cons_zero, List.set_cons_succ, i64_w, i32_w]
                        rfl
                      refine done_ (done_of HT_.out (by kernel_rfl)) ?_
                      try go_wp2
                      go_ret
                      exact ⟨er_, hb_ HB.out⟩
                  · rw [if_neg c9] at H
                    have c9b0 : (((rd_T33 l0 x5_1).f4) == (wrap64 ((wrap64 ((wrap64 ((wrap64 (x1_1 + 1)) + 1)) + 1)) + 1))) = false := beq_eq_false_iff_ne.mpr c9
                    have c9b1 : (((rd_T33 l0 x5_1).f4) != (wrap64 ((wrap64 ((wrap64 ((wrap64 (x1_1 + 1)) + 1)) + 1)) + 1))) = true := bne_iff_ne.mpr c9
                    obtain rfl := Option.some.inj H
                    have p462 : 0 ≤ (x5_1 : Int) := of_decide_eq_true (by first | (with_reducible assumption) | assumption)
                    have q462 : x5_1 < (l0.length : Int) := of_decide_eq_true (by first | (with_reducible assumption) | assumption)
                    obtain ⟨ad462, e462, hx462_0, hx462_1, hx462_2, hx462_3, hx462_4, hx462_5⟩ := at_T33 HR0.out x5_1 p462 q462
                    cases e462
                    replace hx462_0 := (HB.out.cell (World.block_lt_of_cell? w _ hx462_0)).trans hx462_0
                    replace hx462_1 := (HB.out.cell (World.block_lt_of_cell? w _ hx462_1)).trans hx462_1
                    replace hx462_2 := (HB.out.cell (World.block_lt_of_cell? w _ hx462_2)).trans hx462_2
                    replace hx462_3 := (HB.out.cell (World.block_lt_of_cell? w _ hx462_3)).trans hx462_3
                    replace hx462_4 := (HB.out.cell (World.block_lt_of_cell? w _ hx462_4)).trans hx462_4
                    replace hx462_5 := (HB.out.cell (World.block_lt_of_cell? w _ hx462_5)).trans hx462_5
                    replace p462 := eq_true p462
                    replace q462 := eq_true q462
                    have p463 : 0 ≤ (x5_1 : Int) := of_decide_eq_true (by first | (with_reducible assumption) | assumption)
                    have q463 : x5_1 < (l0.length : Int) := of_decide_eq_true (by first | (with_reducible assumption) | assumption)
                    obtain ⟨ad463, e463, hx463_0, hx463_1, hx463_2, hx463_3, hx463_4, hx463_5⟩ := at_T33 HR0.out x5_1 p463 q463
                    obtain rfl : ad462 = ad463 := (by injection e463)
                    replace hx463_0 := (HB.out.cell (World.block_lt_of_cell? w _ hx463_0)).trans hx463_0
                    replace hx463_1 := (HB.out.cell (World.block_lt_of_cell? w _ hx463_1)).trans hx463_1
                    replace hx463_2 := (HB.out.cell (World.block_lt_of_cell? w _ hx463_2)).trans hx463_2
                    replace hx463_3 := (HB.out.cell (World.block_lt_of_cell? w _ hx463_3)).trans hx463_3
                    replace hx463_4 := (HB.out.cell (World.block_lt_of_cell? w _ hx463_4)).trans hx463_4
                    replace hx463_5 := (HB.out.cell (World.block_lt_of_cell? w _ hx463_5)).trans hx463_5
                    replace p463 := eq_true p463
                    replace q463 := eq_true q463
                    have p464 : 0 ≤ (x5_1 : Int) := of_decide_eq_true (by first | (with_reducible assumption) | assumption)
                    have q464 : x5_1 < (l0.length : Int) := of_decide_eq_true (by first | (with_reducible assumption) | assumption)
                    obtain ⟨ad464, e464, hx464_0, hx464_1, hx464_2, hx464_3, hx464_4, hx464_5⟩ := at_T33 HR0.out x5_1 p464 q464
                    obtain rfl : ad462 = ad464 := (by injection e464)
                    replace hx464_0 := (HB.out.cell (World.block_lt_of_cell? w _ hx464_0)).trans hx464_0
                    replace hx464_1 := (HB.out.cell (World.block_lt_of_cell? w _ hx464_1)).trans hx464_1
                    replace hx464_2 := (HB.out.cell (World.block_lt_of_cell? w _ hx464_2)).trans hx464_2
                    replace hx464_3 := (HB.out.cell (World.block_lt_of_cell? w _ hx464_3)).trans hx464_3
                    replace hx464_4 := (HB.out.cell (World.block_lt_of_cell? w _ hx464_4)).trans hx464_4
                    replace hx464_5 := (HB.out.cell (World.block_lt_of_cell? w _ hx464_5)).trans hx464_5
                    replace p464 := eq_true p464
                    replace q464 := eq_true q464
                    have p465 : 0 ≤ (x5_1 : Int) := of_decide_eq_true (by first | (with_reducible assumption) | assumption)
                    have q465 : x5_1 < (l0.length : Int) := of_decide_eq_true (by first | (with_reducible assumption) | assumption)
                    obtain ⟨ad465, e465, hx465_0, hx465_1, hx465_2, hx465_3, hx465_4, hx465_5⟩ := at_T33 HR0.out x5_1 p465 q465
                    obtain rfl : ad462 = ad465 := (by injection e465)
                    replace hx465_0 := (HB.out.cell (World.block_lt_of_cell? w _ hx465_0)).trans hx465_0
                    replace hx465_1 := (HB.out.cell (World.block_lt_of_cell? w _ hx465_1)).trans hx465_1
                    replace hx465_2 := (HB.out.cell (World.block_lt_of_cell? w _ hx465_2)).trans hx465_2
                    replace hx465_3 := (HB.out.cell (World.block_lt_of_cell? w _ hx465_3)).trans hx465_3
                    replace hx465_4 := (HB.out.cell (World.block_lt_of_cell? w _ hx465_4)).trans hx465_4
                    replace hx465_5 := (HB.out.cell (World.block_lt_of_cell? w _ hx465_5)).trans hx465_5
                    replace p465 := eq_true p465
                    replace q465 := eq_true q465
                    have p466 : 0 ≤ (x5_1 : Int) := of_decide_eq_true (by first | (with_reducible assumption) | assumption)
                    have q466 : x5_1 < (l0.length : Int) := of_decide_eq_true (by first | (with_reducible assumption) | assumption)
                    obtain ⟨ad466, e466, hx466_0, hx466_1, hx466_2, hx466_3, hx466_4, hx466_5⟩ := at_T33 HR0.out x5_1 p466 q466
                    obtain rfl : ad462 = ad466 := (by injection e466)
                    replace hx466_0 := (HB.out.cell (World.block_lt_of_cell? w _ hx466_0)).trans hx466_0
                    replace hx466_1 := (HB.out.cell (World.block_lt_of_cell? w _ hx466_1)).trans hx466_1
                    replace hx466_2 := (HB.out.cell (World.block_lt_of_cell? w _ hx466_2)).trans hx466_2
                    replace hx466_3 := (HB.out.cell (World.block_lt_of_cell? w _ hx466_3)).trans hx466_3
                    replace hx466_4 := (HB.out.cell (World.block_lt_of_cell? w _ hx466_4)).trans hx466_4
                    replace hx466_5 := (HB.out.cell (World.block_lt_of_cell? w _ hx466_5)).trans hx466_5
                    replace p466 := eq_true p466
                    replace q466 := eq_true q466
                    go_wp2
                    go_ret
                    exact ⟨er_, hb_ HB.out⟩
                · rw [if_neg c8] at H
                  have c8b0 : (((rd_T33 l0 x5_1).f3) == (wrap64 ((wrap64 ((wrap64 (x1_1 + 1)) + 1)) + 1))) = false := beq_eq_false_iff_ne.mpr c8
                  have c8b1 : (((rd_T33 l0 x5_1).f3) != (wrap64 ((wrap64 ((wrap64 (x1_1 + 1)) + 1)) + 1))) = true := bne_iff_ne.mpr c8
                  obtain rfl := Option.some.inj H
                  have p462 : 0 ≤ (x5_1 : Int) := of_decide_eq_true (by first | (with_reducible assumption) | assumption)
                  have q462 : x5_1 < (l0.length : Int) := of_decide_eq_true (by first | (with_reducible assumption) | assumption)
                  obtain ⟨ad462, e462, hx462_0, hx462_1, hx462_2, hx462_3, hx462_4, hx462_5⟩ := at_T33 HR0.out x5_1 p462 q462
                  cases e462
                  replace hx462_0 := (HB.out.cell (World.block_lt_of_cell? w _ hx462_0)).trans hx462_0
                  replace hx462_1 := (HB.out.cell (World.block_lt_of_cell? w _ hx462_1)).trans hx462_1
                  replace hx462_2 := (HB.out.cell (World.block_lt_of_cell? w _ hx462_2)).trans hx462_2
                  replace hx462_3 := (HB.out.cell (World.block_lt_of_cell? w _ hx462_3)).trans hx462_3
                  replace hx462_4 := (HB.out.cell (World.block_lt_of_cell? w _ hx462_4)).trans hx462_4
                  replace hx462_5 := (HB.out.cell (World.block_lt_of_cell? w _ hx462_5)).trans hx462_5
                  replace p462 := eq_true p462
                  replace q462 := eq_true q462
                  have p463 : 0 ≤ (x5_1 : Int) := of_decide_eq_true (by first | (with_reducible assumption) | assumption)
                  have q463 : x5_1 < (l0.length : Int) := of_decide_eq_true (by first | (with_reducible assumption) | assumption)
                  obtain ⟨ad463, e463, hx463_0, hx463_1, hx463_2, hx463_3, hx463_4, hx463_5⟩ := at_T33 HR0.out x5_1 p463 q463
                  obtain rfl : ad462 = ad463 := (by injection e463)
                  replace hx463_0 := (HB.out.cell (World.block_lt_of_cell? w _ hx463_0)).trans hx463_0
                  replace hx463_1 := (HB.out.cell (World.block_lt_of_cell? w _ hx463_1)).trans hx463_1
                  replace hx463_2 := (HB.out.cell (World.block_lt_of_cell? w _ hx463_2)).trans hx463_2
                  replace hx463_3 := (HB.out.cell (World.block_lt_of_cell? w _ hx463_3)).trans hx463_3
                  replace hx463_4 := (HB.out.cell (World.block_lt_of_cell? w _ hx463_4)).trans hx463_4
                  replace hx463_5 := (HB.out.cell (World.block_lt_of_cell? w _ hx463_5)).trans hx463_5
                  replace p463 := eq_true p463
                  replace q463 := eq_true q463
                  have p464 : 0 ≤ (x5_1 : Int) := of_decide_eq_true (by first | (with_reducible assumption) | assumption)
                  have q464 : x5_1 < (l0.length : Int) := of_decide_eq_true (by first | (with_reducible assumption) | assumption)
                  obtain ⟨ad464, e464, hx464_0, hx464_1, hx464_2, hx464_3, hx464_4, hx464_5⟩ := at_T33 HR0.out x5_1 p464 q464
                  obtain rfl : ad462 = ad464 := (by injection e464)
                  replace hx464_0 := (HB.out.cell (World.block_lt_of_cell? w _ hx464_0)).trans hx464_0
                  replace hx464_1 := (HB.out.cell (World.block_lt_of_cell? w _ hx464_1)).trans hx464_1
                  replace hx464_2 := (HB.out.cell (World.block_lt_of_cell? w _ hx464_2)).trans hx464_2
                  replace hx464_3 := (HB.out.cell (World.block_lt_of_cell? w _ hx464_3)).trans hx464_3
                  replace hx464_4 := (HB.out.cell (World.block_lt_of_cell? w _ hx464_4)).trans hx464_4
                  replace hx464_5 := (HB.out.cell (World.block_lt_of_cell? w _ hx464_5)).trans hx464_5
                  replace p464 := eq_true p464
                  replace q464 := eq_true q464
                  have p465 : 0 ≤ (x5_1 : Int) := of_decide_eq_true (by first | (with_reducible assumption) | assumption)
                  have q465 : x5_1 < (l0.length : Int) := of_decide_eq_true (by first | (with_reducible assumption) | assumption)
                  obtain ⟨ad465, e465, hx465_0, hx465_1, hx465_2, hx465_3, hx465_4, hx465_5⟩ := at_T33 HR0.out x5_1 p465 q465
                  obtain rfl : ad462 = ad465 := (by injection e465)
                  replace hx465_0 := (HB.out.cell (World.block_lt_of_cell? w _ hx465_0)).trans hx465_0
                  replace hx465_1 := (HB.out.cell (World.block_lt_of_cell? w _ hx465_1)).trans hx465_1
                  replace hx465_2 := (HB.out.cell (World.block_lt_of_cell? w _ hx465_2)).trans hx465_2
                  replace hx465_3 := (HB.out.cell (World.block_lt_of_cell? w _ hx465_3)).trans hx465_3
                  replace hx465_4 := (HB.out.cell (World.block_lt_of_cell? w _ hx465_4)).trans hx465_4
                  replace hx465_5 := (HB.out.cell (World.block_lt_of_cell? w _ hx465_5)).trans hx465_5
                  replace p465 := eq_true p465
                  replace q465 := eq_true q465
                  go_wp2
                  go_ret
                  exact ⟨er_, hb_ HB.out⟩
              · rw [if_neg c7] at H
                have c7b0 : (((rd_T33 l0 x5_1).f2) == (wrap64 ((wrap64 (x1_1 + 1)) + 1))) = false := beq_eq_false_iff_ne.mpr c7
                have c7b1 : (((rd_T33 l0 x5_1).f2) != (wrap64 ((wrap64 (x1_1 + 1)) + 1))) = true := bne_iff_ne.mpr c7
                obtain rfl := Option.some.inj H
                have p462 : 0 ≤ (x5_1 : Int) := of_decide_eq_true (by first | (with_reducible assumption) | assumption)
                have q462 : x5_1 < (l0.length : Int) := of_decide_eq_true (by first | (with_reducible assumption) | assumption)
                obtain ⟨ad462, e462, hx462_0, hx462_1, hx462_2, hx462_3, hx462_4, hx462_5⟩ := at_T33 HR0.out x5_1 p462 q462
                cases e462
                replace hx462_0 := (HB.out.cell (World.block_lt_of_cell? w _ hx462_0)).trans hx462_0
                replace hx462_1 := (HB.out.cell (World.block_lt_of_cell? w _ hx462_1)).trans hx462_1
                replace hx462_2 := (HB.out.cell (World.block_lt_of_cell? w _ hx462_2)).trans hx462_2
                replace hx462_3 := (HB.out.cell (World.block_lt_of_cell? w _ hx462_3)).trans hx462_3
                replace hx462_4 := (HB.out.cell (World.block_lt_of_cell? w _ hx462_4)).trans hx462_4
                replace hx462_5 := (HB.out.cell (World.block_lt_of_cell? w _ hx462_5)).trans hx462_5
                replace p462 := eq_true p462
                replace q462 := eq_true q462
                have p463 : 0 ≤ (x5_1 : Int) := of_decide_eq_true (by first | (with_reducible assumption) | assumption)
                have q463 : x5_1 < (l0.length : Int) := of_decide_eq_true (by first | (with_reducible assumption) | assumption)
                obtain ⟨ad463, e463, hx463_0, hx463_1, hx463_2, hx463_3, hx463_4, hx463_5⟩ := at_T33 HR0.out x5_1 p463 q463
                obtain rfl : ad462 = ad463 := (by injection e463)
                replace hx463_0 := (HB.out.cell (World.block_lt_of_cell? w _ hx463_0)).trans hx463_0
                replace hx463_1 := (HB.out.cell (World.block_lt_of_cell? w _ hx463_1)).trans hx463_1
                replace hx463_2 := (HB.out.cell (World.block_lt_of_cell? w _ hx463_2)).trans hx463_2
                replace hx463_3 := (HB.out.cell (World.block_lt_of_cell? w _ hx463_3)).trans hx463_3
                replace hx463_4 := (HB.out.cell (World.block_lt_of_cell? w _ hx463_4)).trans hx463_4
                replace hx463_5 := (HB.out.cell (World.block_lt_of_cell? w _ hx463_5)).trans hx463_5
                replace p463 := eq_true p463
                replace q463 := eq_true q463
                have p464 : 0 ≤ (x5_1 : Int) := of_decide_eq_true (by first | (with_reducible assumption) | assumption)
                have q464 : x5_1 < (l0.length : Int) := of_decide_eq_true (by first | (with_reducible assumption) | assumption)
                obtain ⟨ad464, e464, hx464_0, hx464_1, hx464_2, hx464_3, hx464_4, hx464_5⟩ := at_T33 HR0.out x5_1 p464 q464
                obtain rfl : ad462 = ad464 := (by injection e464)
                replace hx464_0 := (HB.out.cell (World.block_lt_of_cell? w _ hx464_0)).trans hx464_0
                replace hx464_1 := (HB.out.cell (World.block_lt_of_cell? w _ hx464_1)).trans hx464_1
                replace hx464_2 := (HB.out.cell (World.block_lt_of_cell? w _ hx464_2)).trans hx464_2
                replace hx464_3 := (HB.out.cell (World.block_lt_of_cell? w _ hx464_3)).trans hx464_3
                replace hx464_4 := (HB.out.cell (World.block_lt_of_cell? w _ hx464_4)).trans hx464_4
                replace hx464_5 := (HB.out.cell (World.block_lt_of_cell? w _ hx464_5)).trans hx464_5
                replace p464 := eq_true p464
                replace q464 := eq_true q464
                go_wp2
                go_ret
                exact ⟨er_, hb_ HB.out⟩
            · rw [if_neg c6] at H
              have c6b0 : (((rd_T33 l0 x5_1).f1) == (wrap64 (x1_1 + 1))) = false := beq_eq_false_iff_ne.mpr c6
              have c6b1 : (((rd_T33 l0 x5_1).f1) != (wrap64 (x1_1 + 1))) = true := bne_iff_ne.mpr c6
              obtain rfl := Option.some.inj H
              have p462 : 0 ≤ (x5_1 : Int) := of_decide_eq_true (by first | (with_reducible assumption) | assumption)
              have q462 : x5_1 < (l0.length : Int) := of_decide_eq_true (by first | (with_reducible assumption) | assumption)
              obtain ⟨ad462, e462, hx462_0, hx462_1, hx462_2, hx462_3, hx462_4, hx462_5⟩ := at_T33 HR0.out x5_1 p462 q462
              cases e462
              replace hx462_0 := (HB.out.cell (World.block_lt_of_cell? w _ hx462_0)).trans hx462_0
              replace hx462_1 := (HB.out.cell (World.block_lt_of_cell? w _ hx462_1)).trans hx462_1
              replace hx462_2 := (HB.out.cell (World.block_lt_of_cell? w _ hx462_2)).trans hx462_2
              replace hx462_3 := (HB.out.cell (World.block_lt_of_cell? w _ hx462_3)).trans hx462_3
              replace hx462_4 := (HB.out.cell (World.block_lt_of_cell? w _ hx462_4)).trans hx462_4
              replace hx462_5 := (HB.out.cell (World.block_lt_of_cell? w _ hx462_5)).trans hx462_5
              replace p462 := eq_true p462
              replace q462 := eq_true q462
              have p463 : 0 ≤ (x5_1 : Int) := of_decide_eq_true (by first | (with_reducible assumption) | assumption)
              have q463 : x5_1 < (l0.length : Int) := of_decide_eq_true (by first | (with_reducible assumption) | assumption)
              obtain ⟨ad463, e463, hx463_0, hx463_1, hx463_2, hx463_3, hx463_4, hx463_5⟩ := at_T33 HR0.out x5_1 p463 q463
              obtain rfl : ad462 = ad463 := (by injection e463)
              replace hx463_0 := (HB.out.cell (World.block_lt_of_cell? w _ hx463_0)).trans hx463_0
              replace hx463_1 := (HB.out.cell (World.block_lt_of_cell? w _ hx463_1)).trans hx463_1
              replace hx463_2 := (HB.out.cell (World.block_lt_of_cell? w _ hx463_2)).trans hx463_2
              replace hx463_3 := (HB.out.cell (World.block_lt_of_cell? w _ hx463_3)).trans hx463_3
              replace hx463_4 := (HB.out.cell (World.block_lt_of_cell? w _ hx463_4)).trans hx463_4
              replace hx463_5 := (HB.out.cell (World.block_lt_of_cell? w _ hx463_5)).trans hx463_5
              replace p463 := eq_true p463
              replace q463 := eq_true q463
              go_wp2
              go_ret
              exact ⟨er_, hb_ HB.out⟩
          · rw [if_neg c5] at H
            have c5b0 : (((rd_T33 l0 x5_1).f0) == x1_1) = false := beq_eq_false_iff_ne.mpr c5
            have c5b1 : (((rd_T33 l0 x5_1).f0) != x1_1) = true := bne_iff_ne.mpr c5
            obtain rfl := Option.some.inj H
            have p462 : 0 ≤ (x5_1 : Int) := of_decide_eq_true (by first | (with_reducible assumption) | assumption)
            have q462 : x5_1 < (l0.length : Int) := of_decide_eq_true (by first | (with_reducible assumption) | assumption)
            obtain ⟨ad462, e462, hx462_0, hx462_1, hx462_2, hx462_3, hx462_4, hx462_5⟩ := at_T33 HR0.out x5_1 p462 q462
            cases e462
            replace hx462_0 := (HB.out.cell (World.block_lt_of_cell? w _ hx462_0)).trans hx462_0
            replace hx462_1 := (HB.out.cell (World.block_lt_of_cell? w _ hx462_1)).trans hx462_1
            replace hx462_2 := (HB.out.cell (World.block_lt_of_cell? w _ hx462_2)).trans hx462_2
            replace hx462_3 := (HB.out.cell (World.block_lt_of_cell? w _ hx462_3)).trans hx462_3
            replace hx462_4 := (HB.out.cell (World.block_lt_of_cell? w _ hx462_4)).trans hx462_4
            replace hx462_5 := (HB.out.cell (World.block_lt_of_cell? w _ hx462_5)).trans hx462_5
            replace p462 := eq_true p462
            replace q462 := eq_true q462
            go_wp2
            go_ret
            exact ⟨er_, hb_ HB.out⟩
        · rw [if_neg c4] at H
          exact absurd H (by simp)
      · rw [if_neg c3] at H
        have c3b0 : decide (x5_1 < (l0.length : Int)) = false := decide_eq_false c3
        clear c3
        obtain rfl := Option.some.inj H
        go_wp2
        go_ret
        exact ⟨er_, hb_ HB.out⟩
end Go.Proofs.Ytjlmfnpgcmmdnaa.P
namespace Go.Proofs.Ytjlmfnpgcmmdnaa.P
open Go.RowKit Go.Proofs.YtjlmfnpgcmmdnaaW.PrintWords Go.Proofs.YtjlmfnpgcmmdnaaW.PrintLast Go.Proofs.YtjlmfnpgcmmdnaaW.PrintMore
attribute [local go_sem] max2_int min2_int max_two min_two max_three min_three max_four min_four
set_option linter.unusedVariables false
set_option linter.unusedSimpArgs false
mutual
def laws_FnExactBusPut.j0 : Nat → List (S52) → List (S33) → Int → List (S33) → List (S33) → Int → Bool → Int → Int → Int → Int → Int → ByteArray → Option (Bool)
  | 0, _, _, _, _, _, _, _, _, _, _, _, _, _ => none
  | k + 1, x0, x6, x7, x8, x9, x10, x51, x509000, x509001, x509002, x509003, x509004, x509005 => if x51 = true then (some false) else ((laws_toFrameS.f k x0).bind fun t538 => ((laws_eqFrameS.f k x8 t538).bind fun t541 => (if t541 = true then ((laws_markFrameS.f k x8 1).bind fun bt542 => (if bt542.1 < 0 then (laws_FnExactBusPut.j1 k x0 x6 x7 x9 true x509000 x509001 x509002 x509003 x509004 x509005) else ((laws_eqFrameS.f k x9 x6).bind fun t544 => (if t544 = true then (laws_FnExactBusPut.j1 k x0 x6 x7 x9 (x10 != x7) x509000 x509001 x509002 x509003 x509004 x509005) else (laws_FnExactBusPut.j1 k x0 x6 x7 x9 true x509000 x509001 x509002 x509003 x509004 x509005))))) else (some false))))
def laws_FnExactBusPut.j1 : Nat → List (S52) → List (S33) → Int → List (S33) → Bool → Int → Int → Int → Int → Int → ByteArray → Option (Bool)
  | 0, _, _, _, _, _, _, _, _, _, _, _ => none
  | k + 1, x0, x6, x7, x9, x72, x509000, x509001, x509002, x509003, x509004, x509005 => if x72 = true then (some false) else ((laws_markFrameS.f k x9 1).bind fun bt545 => ((laws_heldFrameS.f k bt545.2 1).bind fun t547 => (if t547 < 0 then (some false) else (if t547 = bt545.1 then ((laws_toFrameS.f k x0).bind fun t548 => ((laws_toFrame.f x509000 x509001 x509002 x509003 x509004 x509005).bind fun bt551 => ((impl_BusPut.f k t548 bt551.1 bt551.2.1 bt551.2.2.1 bt551.2.2.2.1 bt551.2.2.2.2.1 bt551.2.2.2.2.2).bind fun bt557 => ((laws_eqFrameS.f k bt557.1 x6).bind fun t561 => (if t561 = true then (laws_FnExactBusPut.j2 k bt545.2 bt545.1 (bt557.2 != x7)) else (laws_FnExactBusPut.j2 k bt545.2 bt545.1 true)))))) else (some false)))))
def laws_FnExactBusPut.j2 : Nat → List (S33) → Int → Bool → Option (Bool)
  | 0, _, _, _ => none
  | k + 1, x9, x12, x100 => if x100 = true then (some false) else ((laws_heldFrameS.f k x9 1).bind fun t562 => (if t562 < 0 then (some false) else (if t562 = x12 then (some true) else (some false))))
end
def laws_FnExactBusPut.f (k : Nat) (l0 : List (S52)) (a1_0 : Int) (a1_1 : Int) (a1_2 : Int) (a1_3 : Int) (a1_4 : Int) (a1_5 : ByteArray) : Option (Bool) := (laws_szFrameS.f k l0 1048576).bind fun t509 => (if t509 < 0 then (some true) else ((laws_szFrame.f a1_0 a1_1 a1_2 a1_3 a1_4 a1_5 t509).bind fun t510 => (if t510 < 0 then (some true) else ((laws_toFrameS.f k l0).bind fun t511 => ((laws_toFrame.f a1_0 a1_1 a1_2 a1_3 a1_4 a1_5).bind fun bt514 => ((spec_BusPut.f k t511 bt514.1 bt514.2.1 bt514.2.2.1 bt514.2.2.2.1 bt514.2.2.2.2.1 bt514.2.2.2.2.2).bind fun bt520 => ((laws_toFrameS.f k l0).bind fun t524 => ((laws_toFrame.f a1_0 a1_1 a1_2 a1_3 a1_4 a1_5).bind fun bt527 => ((impl_BusPut.f k t524 bt527.1 bt527.2.1 bt527.2.2.1 bt527.2.2.2.1 bt527.2.2.2.2.1 bt527.2.2.2.2.2).bind fun bt533 => ((laws_eqFrameS.f k bt533.1 bt520.1).bind fun t537 => (if t537 = true then (laws_FnExactBusPut.j0 k l0 bt520.1 bt520.2 t524 bt533.1 bt533.2 (bt533.2 != bt520.2) a1_0 a1_1 a1_2 a1_3 a1_4 a1_5) else (laws_FnExactBusPut.j0 k l0 bt520.1 bt520.2 t524 bt533.1 bt533.2 true a1_0 a1_1 a1_2 a1_3 a1_4 a1_5))))))))))))
def laws_FnExactBusPut.T8 : Bool × List (List Nat × List Nat) := (true, [([], []), ([0], [0]), ([], []), ([2, 1], [2]), ([1, 3, 3], [1, 3]), ([4], [4]), ([5], [5]), ([5], [5]), ([6, 4, 0, 1, 2, 3, 4, 5, 6], [6]), ([7, 8, 0, 1, 2, 3, 4, 5, 6, 7, 8], [7])])
def laws_FnExactBusPut.B8 : List Nat := [0, 1, 0, 7, 15, 31, 63, 63, 127, 511]
theorem laws_FnExactBusPut.tab8 : rtab .any (opsOf Try.f6 8) = laws_FnExactBusPut.T8 := by kernel_rfl
theorem laws_FnExactBusPut.bits8 : waitsOk laws_FnExactBusPut.T8.2 laws_FnExactBusPut.B8 = true := by kernel_rfl
def laws_FnExactBusPut.T27 : Bool × List (List Nat × List Nat) := (true, [([], []), ([0], [0]), ([], []), ([2, 1], [2]), ([1, 3, 3], [1, 3]), ([4], [4]), ([5], [5]), ([5], [5]), ([6, 4, 0, 1, 2, 3, 4, 5, 6], [6]), ([7, 8, 0, 1, 2, 3, 4, 5, 6, 7, 8], [7])])
def laws_FnExactBusPut.B27 : List Nat := [0, 1, 0, 7, 15, 31, 63, 63, 127, 511]
theorem laws_FnExactBusPut.tab27 : rtab .any (opsOf Try.f6 27) = laws_FnExactBusPut.T27 := by kernel_rfl
theorem laws_FnExactBusPut.bits27 : waitsOk laws_FnExactBusPut.T27.2 laws_FnExactBusPut.B27 = true := by kernel_rfl
set_option maxHeartbeats 8000000 in
set_option maxRecDepth 100000 in
theorem laws_FnExactBusPut.calls (k : Nat) (A0 : Option Addr) (c0 : Nat) (l0 : List (S52)) (a1_0 : Int) (a1_1 : Int) (a1_2 : Int) (a1_3 : Int) (a1_4 : Int) (a1_5 : ByteArray) (r : Bool) (w : World) (hr0 : Kd.C k52 w A0 l0.length l0) (hc0 : l0.length ≤ c0) (hr_ : r = true) (h : laws_FnExactBusPut.f k l0 a1_0 a1_1 a1_2 a1_3 a1_4 a1_5 = some r) :
    Calls Try.prog 6 #[.slice A0 l0.length c0, .agg #[.int .i64 a1_0, .int .i64 a1_1, .int .i64 a1_2, .int .i64 a1_3, .int .i64 a1_4, .string a1_5]] w fun e w' => e = .returned (.bool r) ∧ Below w.heap.size w w' := by
  have hu52 := Try.underlying52
  have HR0 := Aside0.mk hr0
  have HC0 := Aside0.mk hc0
  clear hr0 hc0
  have HB := Aside0.mk (Below.refl w.heap.size w)
  have H : ((laws_szFrameS.f k l0 1048576).bind fun t509 => (if t509 < 0 then (some true) else ((laws_szFrame.f a1_0 a1_1 a1_2 a1_3 a1_4 a1_5 t509).bind fun t510 => (if t510 < 0 then (some true) else ((laws_toFrameS.f k l0).bind fun t511 => ((laws_toFrame.f a1_0 a1_1 a1_2 a1_3 a1_4 a1_5).bind fun bt514 => ((spec_BusPut.f k t511 bt514.1 bt514.2.1 bt514.2.2.1 bt514.2.2.2.1 bt514.2.2.2.2.1 bt514.2.2.2.2.2).bind fun bt520 => ((laws_toFrameS.f k l0).bind fun t524 => ((laws_toFrame.f a1_0 a1_1 a1_2 a1_3 a1_4 a1_5).bind fun bt527 => ((impl_BusPut.f k t524 bt527.1 bt527.2.1 bt527.2.2.1 bt527.2.2.2.1 bt527.2.2.2.2.1 bt527.2.2.2.2.2).bind fun bt533 => ((laws_eqFrameS.f k bt533.1 bt520.1).bind fun t537 => (if t537 = true then (laws_FnExactBusPut.j0 k l0 bt520.1 bt520.2 t524 bt533.1 bt533.2 (bt533.2 != bt520.2) a1_0 a1_1 a1_2 a1_3 a1_4 a1_5) else (laws_FnExactBusPut.j0 k l0 bt520.1 bt520.2 t524 bt533.1 bt533.2 true a1_0 a1_1 a1_2 a1_3 a1_4 a1_5))))))))))))) = some r := h
  clear h
  replace H := Option.bind_eq_some_iff.mp H
  obtain ⟨t509, A30, H⟩ := H
  replace H : (if t509 < 0 then (some true) else ((laws_szFrame.f a1_0 a1_1 a1_2 a1_3 a1_4 a1_5 t509).bind fun t510 => (if t510 < 0 then (some true) else ((laws_toFrameS.f k l0).bind fun t511 => ((laws_toFrame.f a1_0 a1_1 a1_2 a1_3 a1_4 a1_5).bind fun bt514 => ((spec_BusPut.f k t511 bt514.1 bt514.2.1 bt514.2.2.1 bt514.2.2.2.1 bt514.2.2.2.2.1 bt514.2.2.2.2.2).bind fun bt520 => ((laws_toFrameS.f k l0).bind fun t524 => ((laws_toFrame.f a1_0 a1_1 a1_2 a1_3 a1_4 a1_5).bind fun bt527 => ((impl_BusPut.f k t524 bt527.1 bt527.2.1 bt527.2.2.1 bt527.2.2.2.1 bt527.2.2.2.2.1 bt527.2.2.2.2.2).bind fun bt533 => ((laws_eqFrameS.f k bt533.1 bt520.1).bind fun t537 => (if t537 = true then (laws_FnExactBusPut.j0 k l0 bt520.1 bt520.2 t524 bt533.1 bt533.2 (bt533.2 != bt520.2) a1_0 a1_1 a1_2 a1_3 a1_4 a1_5) else (laws_FnExactBusPut.j0 k l0 bt520.1 bt520.2 t524 bt533.1 bt533.2 true a1_0 a1_1 a1_2 a1_3 a1_4 a1_5)))))))))))) = some r := H
  have A3 := Aside0.mk A30
  clear A30
  by_cases c4 : t509 < 0
  · rw [if_pos c4] at H
    have c4b0 : decide (t509 < 0) = true := decide_eq_true c4
    clear c4
    obtain rfl := Option.some.inj H
    go_enter Try.func6, Try.ntmps6
    go_wp2_with (first | ((with_reducible refine gate_dst (N := 3) rfl ?_); refine box_event ?hg (N := 3) ?hd (cs := #[.int .i64 a1_0, .int .i64 a1_1, .int .i64 a1_2, .int .i64 a1_3, .int .i64 a1_4, .string a1_5]) (t := 52) ?hr ?_; (case hd => rfl); (case hg => rfl); (case hr => first | (go_simp; done) | (go_simp; rfl)); intro gb508 hg w5 hbox hb; have n0_ := Aside0.mk (below_step (hb_ HB.out) hb); have n1_ := Aside0.mk (hbox); have n2_ := Aside0.mk ((by rw [hg]; exact (below_size (hb_ HB.out)) : w.heap.size ≤ gb508)); have n3_ := Aside0.mk ((by rw [hg]; exact (below_size (hb_ HB.out)) : w.heap.size ≤ gb508)); clear HB; have HB := n0_; have BK508 := n1_; have GW508 := n2_; have GE508 := n3_; clear n0_ n1_ n2_ n3_; clear hb hbox hg) | ((with_reducible refine gate_callee (f := 23) rfl ?_); refine goesL_ (some 18) rfl rfl Try.func23 (by kernel_rfl) rfl #[.slice A0 l0.length c0, .int .i64 1048576] rfl arr_ ?_; (with_reducible refine (laws_szFrameS.calls k _ _ l0 1048576 t509 _ ?side1 ?side2 A3.out).mono ?_); (case side1 => exact kc_ (Kd.C_below HR0.out HB.out)); (case side2 => exact HC0.out); rintro e w6 ⟨rfl, hb⟩; refine ⟨_, rfl, ?_⟩; have n0_ := Aside0.mk (bb_ BK508.out hb); have n1_ := Aside0.mk (below_step (hb1_ HB.out GE508.out) hb); clear BK508; clear HB; have BK508 := n0_; have HB := n1_; clear n0_ n1_; (try clear hb); (try clear hb2); (try clear hk); (try clear hi)))
    go_ret
    exact ⟨er_, hb1_ HB.out GE508.out⟩
  · rw [if_neg c4] at H
    have c4b0 : decide (t509 < 0) = false := decide_eq_false c4
    clear c4
    replace H := Option.bind_eq_some_iff.mp H
    obtain ⟨t510, A70, H⟩ := H
    replace H : (if t510 < 0 then (some true) else ((laws_toFrameS.f k l0).bind fun t511 => ((laws_toFrame.f a1_0 a1_1 a1_2 a1_3 a1_4 a1_5).bind fun bt514 => ((spec_BusPut.f k t511 bt514.1 bt514.2.1 bt514.2.2.1 bt514.2.2.2.1 bt514.2.2.2.2.1 bt514.2.2.2.2.2).bind fun bt520 => ((laws_toFrameS.f k l0).bind fun t524 => ((laws_toFrame.f a1_0 a1_1 a1_2 a1_3 a1_4 a1_5).bind fun bt527 => ((impl_BusPut.f k t524 bt527.1 bt527.2.1 bt527.2.2.1 bt527.2.2.2.1 bt527.2.2.2.2.1 bt527.2.2.2.2.2).bind fun bt533 => ((laws_eqFrameS.f k bt533.1 bt520.1).bind fun t537 => (if t537 = true then (laws_FnExactBusPut.j0 k l0 bt520.1 bt520.2 t524 bt533.1 bt533.2 (bt533.2 != bt520.2) a1_0 a1_1 a1_2 a1_3 a1_4 a1_5) else (laws_FnExactBusPut.j0 k l0 bt520.1 bt520.2 t524 bt533.1 bt533.2 true a1_0 a1_1 a1_2 a1_3 a1_4 a1_5)))))))))) = some r := H
    have A7 := Aside0.mk A70
    clear A70
    by_cases c8 : t510 < 0
    · rw [if_pos c8] at H
      have c8b0 : decide (t510 < 0) = true := decide_eq_true c8
      clear c8
      obtain rfl := Option.some.inj H
      go_enter Try.func6, Try.ntmps6
      go_wp2_with (first | ((with_reducible refine gate_dst (N := 3) rfl ?_); refine box_event ?hg (N := 3) ?hd (cs := #[.int .i64 a1_0, .int .i64 a1_1, .int .i64 a1_2, .int .i64 a1_3, .int .i64 a1_4, .string a1_5]) (t := 52) ?hr ?_; (case hd => rfl); (case hg => rfl); (case hr => first | (go_simp; done) | (go_simp; rfl)); intro gb508 hg w9 hbox hb; have n0_ := Aside0.mk (below_step (hb_ HB.out) hb); have n1_ := Aside0.mk (hbox); have n2_ := Aside0.mk ((by rw [hg]; exact (below_size (hb_ HB.out)) : w.heap.size ≤ gb508)); have n3_ := Aside0.mk ((by rw [hg]; exact (below_size (hb_ HB.out)) : w.heap.size ≤ gb508)); clear HB; have HB := n0_; have BK508 := n1_; have GW508 := n2_; have GE508 := n3_; clear n0_ n1_ n2_ n3_; clear hb hbox hg) | ((with_reducible refine gate_callee (f := 23) rfl ?_); refine goesL_ (some 18) rfl rfl Try.func23 (by kernel_rfl) rfl #[.slice A0 l0.length c0, .int .i64 1048576] rfl arr_ ?_; (with_reducible refine (laws_szFrameS.calls k _ _ l0 1048576 t509 _ ?side1 ?side2 A3.out).mono ?_); (case side1 => exact kc_ (Kd.C_below HR0.out HB.out)); (case side2 => exact HC0.out); rintro e w10 ⟨rfl, hb⟩; refine ⟨_, rfl, ?_⟩; have n0_ := Aside0.mk (bb_ BK508.out hb); have n1_ := Aside0.mk (below_step (hb1_ HB.out GE508.out) hb); clear BK508; clear HB; have BK508 := n0_; have HB := n1_; clear n0_ n1_; (try clear hb); (try clear hb2); (try clear hk); (try clear hi); have hcz11_0 := bc_ BK508.out 0 (.int .i64 a1_0) rfl; have hcz11_1 := bc_ BK508.out 1 (.int .i64 a1_1) rfl; have hcz11_2 := bc_ BK508.out 2 (.int .i64 a1_2) rfl; have hcz11_3 := bc_ BK508.out 3 (.int .i64 a1_3) rfl; have hcz11_4 := bc_ BK508.out 4 (.int .i64 a1_4) rfl; have hcz11_5 := bc_ BK508.out 5 (.string a1_5) rfl; have hfz11_0 := blk_frozen BK508.out 0; have hfz11_1 := blk_frozen BK508.out 1; have hfz11_2 := blk_frozen BK508.out 2; have hfz11_3 := blk_frozen BK508.out 3; have hfz11_4 := blk_frozen BK508.out 4; have hfz11_5 := blk_frozen BK508.out 5) | ((with_reducible refine gate_callee (f := 31) rfl ?_); refine goesL_ (some 23) rfl rfl Try.func31 (by kernel_rfl) rfl #[.agg #[.int .i64 a1_0, .int .i64 a1_1, .int .i64 a1_2, .int .i64 a1_3, .int .i64 a1_4, .string a1_5], .int .i64 t509] rfl arr_ ?_; (with_reducible refine (laws_szFrame.calls a1_0 a1_1 a1_2 a1_3 a1_4 a1_5 t509 t510 _ A7.out).mono ?_); rintro e w12 ⟨rfl, hb⟩; refine ⟨_, rfl, ?_⟩; have n0_ := Aside0.mk (bb_ BK508.out hb); have n1_ := Aside0.mk (below_step (hb1_ HB.out GE508.out) hb); clear BK508; clear HB; have BK508 := n0_; have HB := n1_; clear n0_ n1_; (try clear hb); (try clear hb2); (try clear hk); (try clear hi)))
      go_ret
      exact ⟨er_, hb1_ HB.out GE508.out⟩
    · rw [if_neg c8] at H
      have c8b0 : decide (t510 < 0) = false := decide_eq_false c8
      clear c8
      replace H := Option.bind_eq_some_iff.mp H
      obtain ⟨t511, A130, H⟩ := H
      replace H : ((laws_toFrame.f a1_0 a1_1 a1_2 a1_3 a1_4 a1_5).bind fun bt514 => ((spec_BusPut.f k t511 bt514.1 bt514.2.1 bt514.2.2.1 bt514.2.2.2.1 bt514.2.2.2.2.1 bt514.2.2.2.2.2).bind fun bt520 => ((laws_toFrameS.f k l0).bind fun t524 => ((laws_toFrame.f a1_0 a1_1 a1_2 a1_3 a1_4 a1_5).bind fun bt527 => ((impl_BusPut.f k t524 bt527.1 bt527.2.1 bt527.2.2.1 bt527.2.2.2.1 bt527.2.2.2.2.1 bt527.2.2.2.2.2).bind fun bt533 => ((laws_eqFrameS.f k bt533.1 bt520.1).bind fun t537 => (if t537 = true then (laws_FnExactBusPut.j0 k l0 bt520.1 bt520.2 t524 bt533.1 bt533.2 (bt533.2 != bt520.2) a1_0 a1_1 a1_2 a1_3 a1_4 a1_5) else (laws_FnExactBusPut.j0 k l0 bt520.1 bt520.2 t524 bt533.1 bt533.2 true a1_0 a1_1 a1_2 a1_3 a1_4 a1_5)))))))) = some r := H
      have A13 := Aside0.mk A130
      clear A130
      replace H := Option.bind_eq_some_iff.mp H
      obtain ⟨⟨t514, t515, t516, t517, t518, t519⟩, A140, H⟩ := H
      replace H : ((spec_BusPut.f k t511 t514 t515 t516 t517 t518 t519).bind fun bt520 => ((laws_toFrameS.f k l0).bind fun t524 => ((laws_toFrame.f a1_0 a1_1 a1_2 a1_3 a1_4 a1_5).bind fun bt527 => ((impl_BusPut.f k t524 bt527.1 bt527.2.1 bt527.2.2.1 bt527.2.2.2.1 bt527.2.2.2.2.1 bt527.2.2.2.2.2).bind fun bt533 => ((laws_eqFrameS.f k bt533.1 bt520.1).bind fun t537 => (if t537 = true then (laws_FnExactBusPut.j0 k l0 bt520.1 bt520.2 t524 bt533.1 bt533.2 (bt533.2 != bt520.2) a1_0 a1_1 a1_2 a1_3 a1_4 a1_5) else (laws_FnExactBusPut.j0 k l0 bt520.1 bt520.2 t524 bt533.1 bt533.2 true a1_0 a1_1 a1_2 a1_3 a1_4 a1_5))))))) = some r := H
      have A14 := Aside0.mk A140
      clear A140
      replace H := Option.bind_eq_some_iff.mp H
      obtain ⟨⟨t520, t523⟩, A150, H⟩ := H
      replace H : ((laws_toFrameS.f k l0).bind fun t524 => ((laws_toFrame.f a1_0 a1_1 a1_2 a1_3 a1_4 a1_5).bind fun bt527 => ((impl_BusPut.f k t524 bt527.1 bt527.2.1 bt527.2.2.1 bt527.2.2.2.1 bt527.2.2.2.2.1 bt527.2.2.2.2.2).bind fun bt533 => ((laws_eqFrameS.f k bt533.1 t520).bind fun t537 => (if t537 = true then (laws_FnExactBusPut.j0 k l0 t520 t523 t524 bt533.1 bt533.2 (bt533.2 != t523) a1_0 a1_1 a1_2 a1_3 a1_4 a1_5) else (laws_FnExactBusPut.j0 k l0 t520 t523 t524 bt533.1 bt533.2 true a1_0 a1_1 a1_2 a1_3 a1_4 a1_5)))))) = some r := H
      have A15 := Aside0.mk A150
      clear A150
      replace H := Option.bind_eq_some_iff.mp H
      obtain ⟨t524, A160, H⟩ := H
      replace H : ((laws_toFrame.f a1_0 a1_1 a1_2 a1_3 a1_4 a1_5).bind fun bt527 => ((impl_BusPut.f k t524 bt527.1 bt527.2.1 bt527.2.2.1 bt527.2.2.2.1 bt527.2.2.2.2.1 bt527.2.2.2.2.2).bind fun bt533 => ((laws_eqFrameS.f k bt533.1 t520).bind fun t537 => (if t537 = true then (laws_FnExactBusPut.j0 k l0 t520 t523 t524 bt533.1 bt533.2 (bt533.2 != t523) a1_0 a1_1 a1_2 a1_3 a1_4 a1_5) else (laws_FnExactBusPut.j0 k l0 t520 t523 t524 bt533.1 bt533.2 true a1_0 a1_1 a1_2 a1_3 a1_4 a1_5))))) = some r := H
      have A16 := Aside0.mk A160
      clear A160
      replace H := Option.bind_eq_some_iff.mp H
      obtain ⟨⟨t527, t528, t529, t530, t531, t532⟩, A170, H⟩ := H
      replace H : ((impl_BusPut.f k t524 t527 t528 t529 t530 t531 t532).bind fun bt533 => ((laws_eqFrameS.f k bt533.1 t520).bind fun t537 => (if t537 = true then (laws_FnExactBusPut.j0 k l0 t520 t523 t524 bt533.1 bt533.2 (bt533.2 != t523) a1_0 a1_1 a1_2 a1_3 a1_4 a1_5) else (laws_FnExactBusPut.j0 k l0 t520 t523 t524 bt533.1 bt533.2 true a1_0 a1_1 a1_2 a1_3 a1_4 a1_5)))) = some r := H
      have A17 := Aside0.mk A170
      clear A170
      replace H := Option.bind_eq_some_iff.mp H
      obtain ⟨⟨t533, t536⟩, A180, H⟩ := H
      replace H : ((laws_eqFrameS.f k t533 t520).bind fun t537 => (if t537 = true then (laws_FnExactBusPut.j0 k l0 t520 t523 t524 t533 t536 (t536 != t523) a1_0 a1_1 a1_2 a1_3 a1_4 a1_5) else (laws_FnExactBusPut.j0 k l0 t520 t523 t524 t533 t536 true a1_0 a1_1 a1_2 a1_3 a1_4 a1_5))) = some r := H
      have A18 := Aside0.mk A180
      clear A180
      have HC19 := Aside0.mk H
      clear H
      go_enter Try.func6, Try.ntmps6
      try go_wp2_with (first | ((with_reducible refine gate_dst (N := 3) rfl ?_); refine box_event ?hg (N := 3) ?hd (cs := #[.int .i64 a1_0, .int .i64 a1_1, .int .i64 a1_2, .int .i64 a1_3, .int .i64 a1_4, .string a1_5]) (t := 52) ?hr ?_; (case hd => rfl); (case hg => rfl); (case hr => first | (go_simp; done) | (go_simp; rfl)); intro gb508 hg w20 hbox hb; have n0_ := Aside0.mk (below_step (hb_ HB.out) hb); have n1_ := Aside0.mk (hbox); have n2_ := Aside0.mk ((by rw [hg]; exact (below_size (hb_ HB.out)) : w.heap.size ≤ gb508)); have n3_ := Aside0.mk ((by rw [hg]; exact (below_size (hb_ HB.out)) : w.heap.size ≤ gb508)); clear HB; have HB := n0_; have BK508 := n1_; have GW508 := n2_; have GE508 := n3_; clear n0_ n1_ n2_ n3_; clear hb hbox hg) | ((with_reducible refine gate_callee (f := 23) rfl ?_); refine goesL_ (some 18) rfl rfl Try.func23 (by kernel_rfl) rfl #[.slice A0 l0.length c0, .int .i64 1048576] rfl arr_ ?_; (with_reducible refine (laws_szFrameS.calls k _ _ l0 1048576 t509 _ ?side1 ?side2 A3.out).mono ?_); (case side1 => exact kc_ (Kd.C_below HR0.out HB.out)); (case side2 => exact HC0.out); rintro e w21 ⟨rfl, hb⟩; refine ⟨_, rfl, ?_⟩; have n0_ := Aside0.mk (bb_ BK508.out hb); have n1_ := Aside0.mk (below_step (hb1_ HB.out GE508.out) hb); clear BK508; clear HB; have BK508 := n0_; have HB := n1_; clear n0_ n1_; (try clear hb); (try clear hb2); (try clear hk); (try clear hi); have hcz22_0 := bc_ BK508.out 0 (.int .i64 a1_0) rfl; have hcz22_1 := bc_ BK508.out 1 (.int .i64 a1_1) rfl; have hcz22_2 := bc_ BK508.out 2 (.int .i64 a1_2) rfl; have hcz22_3 := bc_ BK508.out 3 (.int .i64 a1_3) rfl; have hcz22_4 := bc_ BK508.out 4 (.int .i64 a1_4) rfl; have hcz22_5 := bc_ BK508.out 5 (.string a1_5) rfl; have hfz22_0 := blk_frozen BK508.out 0; have hfz22_1 := blk_frozen BK508.out 1; have hfz22_2 := blk_frozen BK508.out 2; have hfz22_3 := blk_frozen BK508.out 3; have hfz22_4 := blk_frozen BK508.out 4; have hfz22_5 := blk_frozen BK508.out 5) | ((with_reducible refine gate_callee (f := 31) rfl ?_); refine goesL_ (some 23) rfl rfl Try.func31 (by kernel_rfl) rfl #[.agg #[.int .i64 a1_0, .int .i64 a1_1, .int .i64 a1_2, .int .i64 a1_3, .int .i64 a1_4, .string a1_5], .int .i64 t509] rfl arr_ ?_; (with_reducible refine (laws_szFrame.calls a1_0 a1_1 a1_2 a1_3 a1_4 a1_5 t509 t510 _ A7.out).mono ?_); rintro e w23 ⟨rfl, hb⟩; refine ⟨_, rfl, ?_⟩; have n0_ := Aside0.mk (bb_ BK508.out hb); have n1_ := Aside0.mk (below_step (hb1_ HB.out GE508.out) hb); clear BK508; clear HB; have BK508 := n0_; have HB := n1_; clear n0_ n1_; (try clear hb); (try clear hb2); (try clear hk); (try clear hi)))
      have n0_ := Aside0.mk (blk_drew BK508.out)
      have n1_ := Aside0.mk (below_drew1 HB.out)
      clear BK508
      clear HB
      have BK508 := n0_
      have HB := n1_
      clear n0_ n1_
      refine start_ (n := 10) (S := fun w' => w'.cell? ⟨gb508, 0, none⟩ = some (.int .i64 a1_0) ∧ w'.cell? ⟨gb508, 1, none⟩ = some (.int .i64 a1_1) ∧ w'.cell? ⟨gb508, 2, none⟩ = some (.int .i64 a1_2) ∧ w'.cell? ⟨gb508, 3, none⟩ = some (.int .i64 a1_3) ∧ w'.cell? ⟨gb508, 4, none⟩ = some (.int .i64 a1_4) ∧ w'.cell? ⟨gb508, 5, none⟩ = some (.string a1_5)) (ds := []) #[false, false, false, false, false, false, false, false, false, false] (by kernel_rfl) rfl rfl ⟨(blk_cell BK508.out 0).trans rfl, (blk_cell BK508.out 1).trans rfl, (blk_cell BK508.out 2).trans rfl, (blk_cell BK508.out 3).trans rfl, (blk_cell BK508.out 4).trans rfl, (blk_cell BK508.out 5).trans rfl⟩ (fun hHeld => ?_); refine with_tabW laws_FnExactBusPut.tab8 laws_FnExactBusPut.bits8 (fun HT_ HW_ => ?_)
      generalize w23.drew = w24 at BK508 HB hHeld ⊢
      refine pure_ (i := 0) (N := some 27) (v := ?_) (a' := ?_) #[true, false, false, false, false, false, false, false, false, false] rfl rfl (any_of HT_.out (by kernel_rfl)) (fun _ _ _ h => h) (Or.inl ⟨by rfl, ?_⟩) ?_ ?_
      rotate_left
      · intro w'
        go_simp
        with_reducible rfl
      rotate_left
      · simp only [Act.put, List.setIfInBounds_toArray, List.set_cons_zero, List.set_cons_succ, i64_w, i32_w]
        rfl
      refine take_ (i := 2) (N := some 29) (v := ?_) (a' := ?_) #[true, false, true, false, false, false, false, false, false, false] rfl rfl (take_ofW HT_.out HW_.out (by kernel_rfl)) (fun _ _ _ h => h) (Or.inl ⟨by rfl, ?_⟩) hHeld ?_ ?_
      rotate_left
      · rintro w' ⟨s0, s1, s2, s3, s4, s5⟩
        go_simp
        with_reducible rfl
      rotate_left
      · simp only [Act.put, List.setIfInBounds_toArray, List.set_cons_zero, List.set_cons_succ, i64_w, i32_w]
        rfl
      refine one_ (i := 1) (N := some 28) #[true, true, true, false, false, false, false, false, false, false] rfl rfl (one_of HT_.out (by kernel_rfl)) (by decide) (fun K hK => ?_)
      refine goes_ Try.func25 (by kernel_rfl) rfl #[.slice A0 l0.length c0] (by rfl) rfl rfl arr_ ?_
      with_reducible refine (laws_toFrameS.calls k _ _ l0 t511 _ ?side1 ?side2 A13.out).mono ?_
      (case side1 => exact kc_ (Kd.C_below HR0.out HB.out))
      (case side2 => exact HC0.out)
      rintro e w25 ⟨v512, rfl, ho0, hb⟩
      refine ⟨_, rfl, ?_⟩
      have n0_ := Aside0.mk (Kd.R_lower ho0 (below_size (hb1_ HB.out GE508.out)))
      have n1_ := Aside0.mk (bb_ BK508.out hb)
      have n2_ := Aside0.mk (below_step (hb1_ HB.out GE508.out) hb)
      clear BK508
      clear HB
      have HO513 := n0_
      have BK508 := n1_
      have HB := n2_
      clear n0_ n1_ n2_
      (try clear hb)
      (try clear hb2)
      (try clear hk)
      (try clear hi)
      (try clear ho0)
      refine hK.out _ _ ⟨(blk_cell BK508.out 0).trans rfl, (blk_cell BK508.out 1).trans rfl, (blk_cell BK508.out 2).trans rfl, (blk_cell BK508.out 3).trans rfl, (blk_cell BK508.out 4).trans rfl, (blk_cell BK508.out 5).trans rfl⟩ (fun hHeld => ?_)
      clear hK K
      refine norm_ (a' := ?_) ?_ ?_
      rotate_left
      · show Act.put _ (some 28) _ = _
        simp only [Act.put, List.setIfInBounds_toArray, List.set_cons_zero, List.set_cons_succ, i64_w, i32_w]
        rfl
      refine one_ (i := 3) (N := some 30) #[true, true, true, true, false, false, false, false, false, false] rfl rfl (one_of HT_.out (by kernel_rfl)) (by decide) (fun K hK => ?_)
      refine goes_ Try.func33 (by kernel_rfl) rfl #[.agg #[.int .i64 a1_0, .int .i64 a1_1, .int .i64 a1_2, .int .i64 a1_3, .int .i64 a1_4, .string a1_5]] (by rfl) rfl rfl arr_ ?_
      with_reducible refine (laws_toFrame.calls a1_0 a1_1 a1_2 a1_3 a1_4 a1_5 t514 t515 t516 t517 t518 t519 _ A14.out).mono ?_
      rintro e w26 ⟨rfl, hb⟩
      refine ⟨_, rfl, ?_⟩
      have n0_ := Aside0.mk (Kd.R_below (by (with_reducible repeat (first | apply Kd.R_alloc | apply Kd.R_drewN | apply Kd.R_drew)); exact HO513.out) hb)
      have n1_ := Aside0.mk (bb_ BK508.out hb)
      have n2_ := Aside0.mk (below_step (hb1_ HB.out GE508.out) hb)
      clear HO513
      clear BK508
      clear HB
      have HO513 := n0_
      have BK508 := n1_
      have HB := n2_
      clear n0_ n1_ n2_
      (try clear hb)
      (try clear hb2)
      (try clear hk)
      (try clear hi)
      obtain ⟨Ao27, co27, eo27⟩ := Kd.R_slice HO513.out
      (first | subst eo27 | (injection eo27 with f1_ f2_ f3_; have f4_ := f1_.symm; have f5_ := f3_.symm; clear f1_ f2_ f3_; subst f4_; subst f5_))
      refine hK.out _ _ ⟨(blk_cell BK508.out 0).trans rfl, (blk_cell BK508.out 1).trans rfl, (blk_cell BK508.out 2).trans rfl, (blk_cell BK508.out 3).trans rfl, (blk_cell BK508.out 4).trans rfl, (blk_cell BK508.out 5).trans rfl⟩ (fun hHeld => ?_)
      clear hK K
      refine norm_ (a' := ?_) ?_ ?_
      rotate_left
      · show Act.put _ (some 30) _ = _
        simp only [Act.put, List.setIfInBounds_toArray, List.set_cons_zero, List.set_cons_succ, i64_w, i32_w]
        rfl
      refine one_ (i := 4) (N := some 31) #[true, true, true, true, true, false, false, false, false, false] rfl rfl (one_of HT_.out (by kernel_rfl)) (by decide) (fun K hK => ?_)
      refine goes_ Try.func32 (by kernel_rfl) rfl #[.slice Ao27 t511.length co27, .agg #[.int .i64 t514, .int .i64 t515, .int .i64 t516, .int .i64 t517, .int .i64 t518, .string t519]] (by rfl) rfl rfl arr_ ?_
      with_reducible refine (spec_BusPut.calls k _ _ t511 t514 t515 t516 t517 t518 t519 t520 t523 _ ?side1 ?side2 A15.out).mono ?_
      (case side1 => repeat (first | exact (Kd.R_reads' HO513.out).2.2 | (with_reducible refine Kd.C_alloc ?_ _) | (with_reducible refine Kd.C_drewN ?_ _) | (with_reducible refine Kd.C_drew ?_)))
      (case side2 => exact (Kd.R_reads' HO513.out).2.1)
      rintro e w28 ⟨v521, rfl, ho0, hb⟩
      refine ⟨_, rfl, ?_⟩
      have n0_ := Aside0.mk (Kd.R_elder' (by (with_reducible repeat (first | apply Kd.R_alloc | apply Kd.R_drewN | apply Kd.R_drew)); exact HO513.out) (Kd.R_base ho0) hb)
      have n1_ := Aside0.mk (Kd.R_lower (Kd.R_new' ho0 (Kd.R_lt (by (with_reducible repeat (first | apply Kd.R_alloc | apply Kd.R_drewN | apply Kd.R_drew)); exact HO513.out))) (below_size (hb1_ HB.out GE508.out)))
      have n2_ := Aside0.mk (bb_ BK508.out hb)
      have n3_ := Aside0.mk (below_step (hb1_ HB.out GE508.out) hb)
      clear HO513
      clear BK508
      clear HB
      have HO513 := n0_
      have HO522 := n1_
      have BK508 := n2_
      have HB := n3_
      clear n0_ n1_ n2_ n3_
      (try clear hb)
      (try clear hb2)
      (try clear hk)
      (try clear hi)
      (try clear ho0)
      refine hK.out _ _ ⟨(blk_cell BK508.out 0).trans rfl, (blk_cell BK508.out 1).trans rfl, (blk_cell BK508.out 2).trans rfl, (blk_cell BK508.out 3).trans rfl, (blk_cell BK508.out 4).trans rfl, (blk_cell BK508.out 5).trans rfl⟩ (fun hHeld => ?_)
      clear hK K
      refine norm_ (a' := ?_) ?_ ?_
      rotate_left
      · show Act.put _ (some 31) _ = _
        simp only [Act.put, List.setIfInBounds_toArray, List.set_cons_zero, List.set_cons_succ, i64_w, i32_w]
        rfl
      refine pure_ (i := 5) (N := some 26) (v := ?_) (a' := ?_) #[true, true, true, true, true, true, false, false, false, false] rfl rfl (any_of HT_.out (by kernel_rfl)) (fun _ _ _ h => h) (Or.inl ⟨by rfl, ?_⟩) ?_ ?_
      rotate_left
      · intro w'
        go_simp
        with_reducible rfl
      rotate_left
      · simp only [Act.put, List.setIfInBounds_toArray, List.set_cons_zero, List.set_cons_succ, i64_w, i32_w]
        rfl
      refine pure_ (i := 6) (N := some 32) (v := ?_) (a' := ?_) #[true, true, true, true, true, true, true, false, false, false] rfl rfl (any_of HT_.out (by kernel_rfl)) (fun _ _ _ h => h) (Or.inl ⟨by rfl, ?_⟩) ?_ ?_
      rotate_left
      · intro w'
        go_simp
        with_reducible rfl
      rotate_left
      · simp only [Act.put, List.setIfInBounds_toArray, List.set_cons_zero, List.set_cons_succ, i64_w, i32_w]
        rfl
      refine pure_ (i := 7) (N := some 33) (v := ?_) (a' := ?_) #[true, true, true, true, true, true, true, true, false, false] rfl rfl (any_of HT_.out (by kernel_rfl)) (fun _ _ _ h => h) (Or.inl ⟨by rfl, ?_⟩) ?_ ?_
      rotate_left
      · intro w'
        go_simp
        with_reducible rfl
      rotate_left
      · simp only [Act.put, List.setIfInBounds_toArray, List.set_cons_zero, List.set_cons_succ, i64_w, i32_w]
        rfl
      refine pure_ (i := 8) (N := some 6) (v := ?_) (a' := ?_) #[true, true, true, true, true, true, true, true, true, false] rfl rfl (any_of HT_.out (by kernel_rfl)) (fun _ _ _ h => h) (Or.inl ⟨by rfl, ?_⟩) ?_ ?_
      rotate_left
      · intro w'
        go_simp
        with_reducible rfl
      rotate_left
      · simp only [Act.put, List.setIfInBounds_toArray, List.set_cons_zero, List.set_cons_succ, i64_w, i32_w]
        rfl
      refine pure_ (i := 9) (N := some 7) (v := ?_) (a' := ?_) #[true, true, true, true, true, true, true, true, true, true] rfl rfl (any_of HT_.out (by kernel_rfl)) (fun _ _ _ h => h) (Or.inl ⟨by rfl, ?_⟩) ?_ ?_
      rotate_left
      · intro w'
        go_simp
        with_reducible rfl
      rotate_left
      · simp only [Act.put, List.setIfInBounds_toArray, List.set_cons_zero, List.set_cons_succ, i64_w, i32_w]
        rfl
      refine done_ (done_of HT_.out (by kernel_rfl)) ?_
      go_upto_region 11 with (first | ((with_reducible refine gate_callee (f := 25) rfl ?_); refine goesL_ (some 35) rfl rfl Try.func25 (by kernel_rfl) rfl #[.slice A0 l0.length c0] rfl arr_ ?_; (with_reducible refine (laws_toFrameS.calls k _ _ l0 t524 _ ?side1 ?side2 A16.out).mono ?_); (case side1 => exact kc_ (Kd.C_below HR0.out HB.out)); (case side2 => exact HC0.out); rintro e w29 ⟨v525, rfl, ho0, hb⟩; refine ⟨_, rfl, ?_⟩; have n0_ := Aside0.mk (Kd.R_elder' (by (with_reducible repeat (first | apply Kd.R_alloc | apply Kd.R_drewN | apply Kd.R_drew)); exact HO513.out) (Kd.R_base ho0) hb); have n1_ := Aside0.mk (Kd.R_elder' (by (with_reducible repeat (first | apply Kd.R_alloc | apply Kd.R_drewN | apply Kd.R_drew)); exact HO522.out) (Kd.R_base ho0) hb); have n2_ := Aside0.mk (Kd.R_lower (Kd.R_new' (Kd.R_new' ho0 (Kd.R_lt (by (with_reducible repeat (first | apply Kd.R_alloc | apply Kd.R_drewN | apply Kd.R_drew)); exact HO513.out))) (Kd.R_lt (by (with_reducible repeat (first | apply Kd.R_alloc | apply Kd.R_drewN | apply Kd.R_drew)); exact HO522.out))) (below_size (hb1_ HB.out GE508.out))); have n3_ := Aside0.mk (bb_ BK508.out hb); have n4_ := Aside0.mk (below_step (hb1_ HB.out GE508.out) hb); clear HO513; clear HO522; clear BK508; clear HB; have HO513 := n0_; have HO522 := n1_; have HO526 := n2_; have BK508 := n3_; have HB := n4_; clear n0_ n1_ n2_ n3_ n4_; (try clear hb); (try clear hb2); (try clear hk); (try clear hi); (try clear ho0); have hcz30_0 := bc_ BK508.out 0 (.int .i64 a1_0) rfl; have hcz30_1 := bc_ BK508.out 1 (.int .i64 a1_1) rfl; have hcz30_2 := bc_ BK508.out 2 (.int .i64 a1_2) rfl; have hcz30_3 := bc_ BK508.out 3 (.int .i64 a1_3) rfl; have hcz30_4 := bc_ BK508.out 4 (.int .i64 a1_4) rfl; have hcz30_5 := bc_ BK508.out 5 (.string a1_5) rfl; have hfz30_0 := blk_frozen BK508.out 0; have hfz30_1 := blk_frozen BK508.out 1; have hfz30_2 := blk_frozen BK508.out 2; have hfz30_3 := blk_frozen BK508.out 3; have hfz30_4 := blk_frozen BK508.out 4; have hfz30_5 := blk_frozen BK508.out 5) | ((with_reducible refine gate_callee (f := 33) rfl ?_); refine goesL_ (some 39) rfl rfl Try.func33 (by kernel_rfl) rfl #[.agg #[.int .i64 a1_0, .int .i64 a1_1, .int .i64 a1_2, .int .i64 a1_3, .int .i64 a1_4, .string a1_5]] rfl arr_ ?_; (with_reducible refine (laws_toFrame.calls a1_0 a1_1 a1_2 a1_3 a1_4 a1_5 t527 t528 t529 t530 t531 t532 _ A17.out).mono ?_); rintro e w31 ⟨rfl, hb⟩; refine ⟨_, rfl, ?_⟩; have n0_ := Aside0.mk (Kd.R_below (by (with_reducible repeat (first | apply Kd.R_alloc | apply Kd.R_drewN | apply Kd.R_drew)); exact HO513.out) hb); have n1_ := Aside0.mk (Kd.R_below (by (with_reducible repeat (first | apply Kd.R_alloc | apply Kd.R_drewN | apply Kd.R_drew)); exact HO522.out) hb); have n2_ := Aside0.mk (Kd.R_below (by (with_reducible repeat (first | apply Kd.R_alloc | apply Kd.R_drewN | apply Kd.R_drew)); exact HO526.out) hb); have n3_ := Aside0.mk (bb_ BK508.out hb); have n4_ := Aside0.mk (below_step (hb1_ HB.out GE508.out) hb); clear HO513; clear HO522; clear HO526; clear BK508; clear HB; have HO513 := n0_; have HO522 := n1_; have HO526 := n2_; have BK508 := n3_; have HB := n4_; clear n0_ n1_ n2_ n3_ n4_; (try clear hb); (try clear hb2); (try clear hk); (try clear hi); obtain ⟨Ao32, co32, eo32⟩ := Kd.R_slice HO526.out; subst eo32) | ((with_reducible refine gate_callee (f := 34) rfl ?_); refine goesL_ (some 40) rfl rfl Try.func34 (by kernel_rfl) rfl #[.slice Ao32 t524.length co32, .agg #[.int .i64 t527, .int .i64 t528, .int .i64 t529, .int .i64 t530, .int .i64 t531, .string t532]] rfl arr_ ?_; (with_reducible refine (impl_BusPut.calls k _ _ t524 t527 t528 t529 t530 t531 t532 t533 t536 _ ?side1 ?side2 A18.out).mono ?_); (case side1 => repeat (first | exact (Kd.R_reads' HO526.out).2.2 | (with_reducible refine Kd.C_alloc ?_ _) | (with_reducible refine Kd.C_drewN ?_ _) | (with_reducible refine Kd.C_drew ?_))); (case side2 => exact (Kd.R_reads' HO526.out).2.1); rintro e w33 ⟨v534, rfl, ho0, hb⟩; refine ⟨_, rfl, ?_⟩; have n0_ := Aside0.mk (Kd.R_elder' (by (with_reducible repeat (first | apply Kd.R_alloc | apply Kd.R_drewN | apply Kd.R_drew)); exact HO513.out) (Kd.R_base ho0) hb); have n1_ := Aside0.mk (Kd.R_elder' (by (with_reducible repeat (first | apply Kd.R_alloc | apply Kd.R_drewN | apply Kd.R_drew)); exact HO522.out) (Kd.R_base ho0) hb); have n2_ := Aside0.mk (Kd.R_elder' (by (with_reducible repeat (first | apply Kd.R_alloc | apply Kd.R_drewN | apply Kd.R_drew)); exact HO526.out) (Kd.R_base ho0) hb); have n3_ := Aside0.mk (Kd.R_lower (Kd.R_new' (Kd.R_new' (Kd.R_new' ho0 (Kd.R_lt (by (with_reducible repeat (first | apply Kd.R_alloc | apply Kd.R_drewN | apply Kd.R_drew)); exact HO513.out))) (Kd.R_lt (by (with_reducible repeat (first | apply Kd.R_alloc | apply Kd.R_drewN | apply Kd.R_drew)); exact HO522.out))) (Kd.R_lt (by (with_reducible repeat (first | apply Kd.R_alloc | apply Kd.R_drewN | apply Kd.R_drew)); exact HO526.out))) (below_size (hb1_ HB.out GE508.out))); have n4_ := Aside0.mk (bb_ BK508.out hb); have n5_ := Aside0.mk (below_step (hb1_ HB.out GE508.out) hb); clear HO513; clear HO522; clear HO526; clear BK508; clear HB; have HO513 := n0_; have HO522 := n1_; have HO526 := n2_; have HO535 := n3_; have BK508 := n4_; have HB := n5_; clear n0_ n1_ n2_ n3_ n4_ n5_; (try clear hb); (try clear hb2); (try clear hk); (try clear hi); (try clear ho0)))
      (try simp only [Act.put, List.setIfInBounds_toArray, List.set_cons_zero, List.set_cons_succ])
      go_cut [51] (fun v51 wc => ∃ (kq : Nat) (x51_18 : Bool), v51 = .bool x51_18 ∧ Aside0 (laws_FnExactBusPut.j0 kq l0 t520 t523 t524 t533 t536 x51_18 a1_0 a1_1 a1_2 a1_3 a1_4 a1_5 = some r) ∧ Aside0 (kq ≤ k) ∧ Aside0 (Kd.R k33 33 wc w.heap.size (fun k_ => some k_ ≠ ((.slice Ao32 t524.length co32) : Value).ownBlock ∧ some k_ ≠ (v534 : Value).ownBlock) v521 t520) ∧ Aside0 (Kd.R k33 33 wc w.heap.size (fun k_ => some k_ ≠ (v521 : Value).ownBlock ∧ some k_ ≠ (v534 : Value).ownBlock) (.slice Ao32 t524.length co32) t524) ∧ Aside0 (Kd.R k33 33 wc w.heap.size (fun k_ => some k_ ≠ (v521 : Value).ownBlock ∧ some k_ ≠ ((.slice Ao32 t524.length co32) : Value).ownBlock) v534 t533) ∧ Aside0 (wc.heap[gb508]? = some (.cells #[.int .i64 a1_0, .int .i64 a1_1, .int .i64 a1_2, .int .i64 a1_3, .int .i64 a1_4, .string a1_5] 52 (0, 0))) ∧ Aside0 (Below w.heap.size w wc))
      case first =>
        have H := HC19.out
        clear HC19
        replace H := Option.bind_eq_some_iff.mp H
        obtain ⟨t537, A340, H⟩ := H
        replace H : (if t537 = true then (laws_FnExactBusPut.j0 k l0 t520 t523 t524 t533 t536 (t536 != t523) a1_0 a1_1 a1_2 a1_3 a1_4 a1_5) else (laws_FnExactBusPut.j0 k l0 t520 t523 t524 t533 t536 true a1_0 a1_1 a1_2 a1_3 a1_4 a1_5)) = some r := H
        have A34 := Aside0.mk A340
        clear A340
        by_cases c35 : t537 = true
        · subst c35
          have H1 : (laws_FnExactBusPut.j0 k l0 t520 t523 t524 t533 t536 (t536 != t523) a1_0 a1_1 a1_2 a1_3 a1_4 a1_5) = some r := by rw [if_pos rfl] at H; exact H
          clear H
          have H := H1
          clear H1
          have H' := Aside0.mk H
          clear H
          obtain ⟨Ao36, co36, eo36⟩ := Kd.R_slice HO535.out
          subst eo36
          obtain ⟨Ao37, co37, eo37⟩ := Kd.R_slice HO522.out
          subst eo37
          go_wp2_with (first | ((with_reducible refine gate_callee (f := 27) rfl ?_); refine goesL_ (some 45) rfl rfl Try.func27 (by kernel_rfl) rfl #[.slice Ao36 t533.length co36, .slice Ao37 t520.length co37] rfl arr_ ?_; (with_reducible refine (laws_eqFrameS.calls k _ _ t533 _ _ t520 true _ ?side1 ?side2 ?side3 ?side4 A34.out).mono ?_); (case side1 => repeat (first | exact (Kd.R_reads' HO535.out).2.2 | (with_reducible refine Kd.C_alloc ?_ _) | (with_reducible refine Kd.C_drewN ?_ _) | (with_reducible refine Kd.C_drew ?_))); (case side2 => exact (Kd.R_reads' HO535.out).2.1); (case side3 => repeat (first | exact (Kd.R_reads' HO522.out).2.2 | (with_reducible refine Kd.C_alloc ?_ _) | (with_reducible refine Kd.C_drewN ?_ _) | (with_reducible refine Kd.C_drew ?_))); (case side4 => exact (Kd.R_reads' HO522.out).2.1); rintro e w38 ⟨rfl, hb⟩; refine ⟨_, rfl, ?_⟩; have n0_ := Aside0.mk (Kd.R_below (by (with_reducible repeat (first | apply Kd.R_alloc | apply Kd.R_drewN | apply Kd.R_drew)); exact HO513.out) hb); have n1_ := Aside0.mk (Kd.R_below (by (with_reducible repeat (first | apply Kd.R_alloc | apply Kd.R_drewN | apply Kd.R_drew)); exact HO522.out) hb); have n2_ := Aside0.mk (Kd.R_below (by (with_reducible repeat (first | apply Kd.R_alloc | apply Kd.R_drewN | apply Kd.R_drew)); exact HO526.out) hb); have n3_ := Aside0.mk (Kd.R_below (by (with_reducible repeat (first | apply Kd.R_alloc | apply Kd.R_drewN | apply Kd.R_drew)); exact HO535.out) hb); have n4_ := Aside0.mk (bb_ BK508.out hb); have n5_ := Aside0.mk (below_step (hb1_ HB.out GE508.out) hb); clear HO513; clear HO522; clear HO526; clear HO535; clear BK508; clear HB; have HO513 := n0_; have HO522 := n1_; have HO526 := n2_; have HO535 := n3_; have BK508 := n4_; have HB := n5_; clear n0_ n1_ n2_ n3_ n4_ n5_; (try clear hb); (try clear hb2); (try clear hk); (try clear hi)))
          go_meet
          case rel => exact ⟨_, ((t536 != t523)), (by first | rfl | (simp; done) | (simp [*]; done)), H', ⟨by first | omega | exact Nat.le_refl _⟩, ⟨by (with_reducible repeat (first | apply Kd.R_alloc | apply Kd.R_drewN | apply Kd.R_drew)); exact Kd.R_mono HO522.out (fun _ hk => ⟨hk.1.2, hk.2⟩)⟩, ⟨by (with_reducible repeat (first | apply Kd.R_alloc | apply Kd.R_drewN | apply Kd.R_drew)); exact Kd.R_mono HO526.out (fun _ hk => ⟨hk.1.2, hk.2⟩)⟩, ⟨by (with_reducible repeat (first | apply Kd.R_alloc | apply Kd.R_drewN | apply Kd.R_drew)); exact Kd.R_mono HO535.out (fun _ hk => ⟨hk.1.2, hk.2⟩)⟩, ⟨bk_ BK508.out⟩, ⟨hb1_ HB.out GE508.out⟩⟩
        · replace c35 := Bool.eq_false_iff.mpr c35
          subst c35
          have H1 : (laws_FnExactBusPut.j0 k l0 t520 t523 t524 t533 t536 true a1_0 a1_1 a1_2 a1_3 a1_4 a1_5) = some r := by rw [if_neg (show ¬ (false = true) by decide)] at H; exact H
          clear H
          have H := H1
          clear H1
          have H' := Aside0.mk H
          clear H
          obtain ⟨Ao39, co39, eo39⟩ := Kd.R_slice HO535.out
          subst eo39
          obtain ⟨Ao40, co40, eo40⟩ := Kd.R_slice HO522.out
          subst eo40
          go_wp2_with (first | ((with_reducible refine gate_callee (f := 27) rfl ?_); refine goesL_ (some 45) rfl rfl Try.func27 (by kernel_rfl) rfl #[.slice Ao39 t533.length co39, .slice Ao40 t520.length co40] rfl arr_ ?_; (with_reducible refine (laws_eqFrameS.calls k _ _ t533 _ _ t520 false _ ?side1 ?side2 ?side3 ?side4 A34.out).mono ?_); (case side1 => repeat (first | exact (Kd.R_reads' HO535.out).2.2 | (with_reducible refine Kd.C_alloc ?_ _) | (with_reducible refine Kd.C_drewN ?_ _) | (with_reducible refine Kd.C_drew ?_))); (case side2 => exact (Kd.R_reads' HO535.out).2.1); (case side3 => repeat (first | exact (Kd.R_reads' HO522.out).2.2 | (with_reducible refine Kd.C_alloc ?_ _) | (with_reducible refine Kd.C_drewN ?_ _) | (with_reducible refine Kd.C_drew ?_))); (case side4 => exact (Kd.R_reads' HO522.out).2.1); rintro e w41 ⟨rfl, hb⟩; refine ⟨_, rfl, ?_⟩; have n0_ := Aside0.mk (Kd.R_below (by (with_reducible repeat (first | apply Kd.R_alloc | apply Kd.R_drewN | apply Kd.R_drew)); exact HO513.out) hb); have n1_ := Aside0.mk (Kd.R_below (by (with_reducible repeat (first | apply Kd.R_alloc | apply Kd.R_drewN | apply Kd.R_drew)); exact HO522.out) hb); have n2_ := Aside0.mk (Kd.R_below (by (with_reducible repeat (first | apply Kd.R_alloc | apply Kd.R_drewN | apply Kd.R_drew)); exact HO526.out) hb); have n3_ := Aside0.mk (Kd.R_below (by (with_reducible repeat (first | apply Kd.R_alloc | apply Kd.R_drewN | apply Kd.R_drew)); exact HO535.out) hb); have n4_ := Aside0.mk (bb_ BK508.out hb); have n5_ := Aside0.mk (below_step (hb1_ HB.out GE508.out) hb); clear HO513; clear HO522; clear HO526; clear HO535; clear BK508; clear HB; have HO513 := n0_; have HO522 := n1_; have HO526 := n2_; have HO535 := n3_; have BK508 := n4_; have HB := n5_; clear n0_ n1_ n2_ n3_ n4_ n5_; (try clear hb); (try clear hb2); (try clear hk); (try clear hi)))
          go_meet
          case rel => exact ⟨_, (true), (by first | rfl | (simp; done) | (simp [*]; done)), H', ⟨by first | omega | exact Nat.le_refl _⟩, ⟨by (with_reducible repeat (first | apply Kd.R_alloc | apply Kd.R_drewN | apply Kd.R_drew)); exact Kd.R_mono HO522.out (fun _ hk => ⟨hk.1.2, hk.2⟩)⟩, ⟨by (with_reducible repeat (first | apply Kd.R_alloc | apply Kd.R_drewN | apply Kd.R_drew)); exact Kd.R_mono HO526.out (fun _ hk => ⟨hk.1.2, hk.2⟩)⟩, ⟨by (with_reducible repeat (first | apply Kd.R_alloc | apply Kd.R_drewN | apply Kd.R_drew)); exact Kd.R_mono HO535.out (fun _ hk => ⟨hk.1.2, hk.2⟩)⟩, ⟨bk_ BK508.out⟩, ⟨hb1_ HB.out GE508.out⟩⟩
      case rest =>
        clear HC19
        try clear c2
        try clear p2
        try clear c3
        try clear c4
        try clear c4b0
        try clear c6
        try clear c8
        try clear c8b0
        try clear c23
        try clear c25
        try clear c27
        try clear c31
        try clear c32
        try clear c33
        try clear c34
        try clear c35
        try clear hcz11_0
        try clear hcz11_1
        try clear hcz11_2
        try clear hcz11_3
        try clear hcz11_4
        try clear hcz11_5
        try clear hcz22_0
        try clear hcz22_1
        try clear hcz22_2
        try clear hcz22_3
        try clear hcz22_4
        try clear hcz22_5
        try clear hcz30_0
        try clear hcz30_1
        try clear hcz30_2
        try clear hcz30_3
        try clear hcz30_4
        try clear hcz30_5
        try clear hfz11_0
        try clear hfz11_1
        try clear hfz11_2
        try clear hfz11_3
        try clear hfz11_4
        try clear hfz11_5
        try clear hfz22_0
        try clear hfz22_1
        try clear hfz22_2
        try clear hfz22_3
        try clear hfz22_4
        try clear hfz22_5
        try clear hfz30_0
        try clear hfz30_1
        try clear hfz30_2
        try clear hfz30_3
        try clear hfz30_4
        try clear hfz30_5
        obtain ⟨kq, x51_18, rfl, HA, HJ18, HO_6, HO_8, HO_9, BK508, HB⟩ := hcut
        cases kq with
        | zero => exact absurd HA.out (by simp [laws_FnExactBusPut.j0])
        | succ kj18 =>
          have H := HA.out
          clear HA
          simp only [laws_FnExactBusPut.j0] at H
          by_cases c42 : x51_18 = true
          · subst c42
            have H1 : (some false) = some r := by rw [if_pos rfl] at H; exact H
            clear H
            have H := H1
            clear H1
            obtain rfl := Option.some.inj H
            exact absurd hr_ (by decide)
          · replace c42 := Bool.eq_false_iff.mpr c42
            subst c42
            have H1 : ((laws_toFrameS.f kj18 l0).bind fun t538 => ((laws_eqFrameS.f kj18 t524 t538).bind fun t541 => (if t541 = true then ((laws_markFrameS.f kj18 t524 1).bind fun bt542 => (if bt542.1 < 0 then (laws_FnExactBusPut.j1 kj18 l0 t520 t523 t533 true a1_0 a1_1 a1_2 a1_3 a1_4 a1_5) else ((laws_eqFrameS.f kj18 t533 t520).bind fun t544 => (if t544 = true then (laws_FnExactBusPut.j1 kj18 l0 t520 t523 t533 (t536 != t523) a1_0 a1_1 a1_2 a1_3 a1_4 a1_5) else (laws_FnExactBusPut.j1 kj18 l0 t520 t523 t533 true a1_0 a1_1 a1_2 a1_3 a1_4 a1_5))))) else (some false)))) = some r := by rw [if_neg (show ¬ (false = true) by decide)] at H; exact H
            clear H
            have H := H1
            clear H1
            replace H := Option.bind_eq_some_iff.mp H
            obtain ⟨t538, A430, H⟩ := H
            replace H : ((laws_eqFrameS.f kj18 t524 t538).bind fun t541 => (if t541 = true then ((laws_markFrameS.f kj18 t524 1).bind fun bt542 => (if bt542.1 < 0 then (laws_FnExactBusPut.j1 kj18 l0 t520 t523 t533 true a1_0 a1_1 a1_2 a1_3 a1_4 a1_5) else ((laws_eqFrameS.f kj18 t533 t520).bind fun t544 => (if t544 = true then (laws_FnExactBusPut.j1 kj18 l0 t520 t523 t533 (t536 != t523) a1_0 a1_1 a1_2 a1_3 a1_4 a1_5) else (laws_FnExactBusPut.j1 kj18 l0 t520 t523 t533 true a1_0 a1_1 a1_2 a1_3 a1_4 a1_5))))) else (some false))) = some r := H
            have A43 := Aside0.mk A430
            clear A430
            replace H := Option.bind_eq_some_iff.mp H
            obtain ⟨t541, A440, H⟩ := H
            replace H : (if t541 = true then ((laws_markFrameS.f kj18 t524 1).bind fun bt542 => (if bt542.1 < 0 then (laws_FnExactBusPut.j1 kj18 l0 t520 t523 t533 true a1_0 a1_1 a1_2 a1_3 a1_4 a1_5) else ((laws_eqFrameS.f kj18 t533 t520).bind fun t544 => (if t544 = true then (laws_FnExactBusPut.j1 kj18 l0 t520 t523 t533 (t536 != t523) a1_0 a1_1 a1_2 a1_3 a1_4 a1_5) else (laws_FnExactBusPut.j1 kj18 l0 t520 t523 t533 true a1_0 a1_1 a1_2 a1_3 a1_4 a1_5))))) else (some false)) = some r := H
            have A44 := Aside0.mk A440
            clear A440
            by_cases c45 : t541 = true
            · subst c45
              have H1 : ((laws_markFrameS.f kj18 t524 1).bind fun bt542 => (if bt542.1 < 0 then (laws_FnExactBusPut.j1 kj18 l0 t520 t523 t533 true a1_0 a1_1 a1_2 a1_3 a1_4 a1_5) else ((laws_eqFrameS.f kj18 t533 t520).bind fun t544 => (if t544 = true then (laws_FnExactBusPut.j1 kj18 l0 t520 t523 t533 (t536 != t523) a1_0 a1_1 a1_2 a1_3 a1_4 a1_5) else (laws_FnExactBusPut.j1 kj18 l0 t520 t523 t533 true a1_0 a1_1 a1_2 a1_3 a1_4 a1_5))))) = some r := by rw [if_pos rfl] at H; exact H
              clear H
              have H := H1
              clear H1
              replace H := Option.bind_eq_some_iff.mp H
              obtain ⟨⟨t542, t543⟩, A460, H⟩ := H
              replace H : (if t542 < 0 then (laws_FnExactBusPut.j1 kj18 l0 t520 t523 t533 true a1_0 a1_1 a1_2 a1_3 a1_4 a1_5) else ((laws_eqFrameS.f kj18 t533 t520).bind fun t544 => (if t544 = true then (laws_FnExactBusPut.j1 kj18 l0 t520 t523 t533 (t536 != t523) a1_0 a1_1 a1_2 a1_3 a1_4 a1_5) else (laws_FnExactBusPut.j1 kj18 l0 t520 t523 t533 true a1_0 a1_1 a1_2 a1_3 a1_4 a1_5)))) = some r := H
              have A46 := Aside0.mk A460
              clear A460
              have HC47 := Aside0.mk H
              clear H
              go_upto_region 17 with (first | ((with_reducible refine gate_callee (f := 25) rfl ?_); refine goesL_ (some 54) rfl rfl Try.func25 (by kernel_rfl) rfl #[.slice A0 l0.length c0] rfl arr_ ?_; (with_reducible refine (laws_toFrameS.calls kj18 _ _ l0 t538 _ ?side1 ?side2 A43.out).mono ?_); (case side1 => exact kc_ (Kd.C_below HR0.out HB.out)); (case side2 => exact HC0.out); rintro e w48 ⟨v539, rfl, ho0, hb⟩; refine ⟨_, rfl, ?_⟩; have n0_ := Aside0.mk (Kd.R_elder' (by (with_reducible repeat (first | apply Kd.R_alloc | apply Kd.R_drewN | apply Kd.R_drew)); exact HO_6.out) (Kd.R_base ho0) hb); have n1_ := Aside0.mk (Kd.R_elder' (by (with_reducible repeat (first | apply Kd.R_alloc | apply Kd.R_drewN | apply Kd.R_drew)); exact HO_8.out) (Kd.R_base ho0) hb); have n2_ := Aside0.mk (Kd.R_elder' (by (with_reducible repeat (first | apply Kd.R_alloc | apply Kd.R_drewN | apply Kd.R_drew)); exact HO_9.out) (Kd.R_base ho0) hb); have n3_ := Aside0.mk (Kd.R_lower (Kd.R_new' (Kd.R_new' (Kd.R_new' ho0 (Kd.R_lt (by (with_reducible repeat (first | apply Kd.R_alloc | apply Kd.R_drewN | apply Kd.R_drew)); exact HO_6.out))) (Kd.R_lt (by (with_reducible repeat (first | apply Kd.R_alloc | apply Kd.R_drewN | apply Kd.R_drew)); exact HO_8.out))) (Kd.R_lt (by (with_reducible repeat (first | apply Kd.R_alloc | apply Kd.R_drewN | apply Kd.R_drew)); exact HO_9.out))) (below_size (hb1_ HB.out GE508.out))); have n4_ := Aside0.mk (bb_ BK508.out hb); have n5_ := Aside0.mk (below_step (hb1_ HB.out GE508.out) hb); clear HO_6; clear HO_8; clear HO_9; clear BK508; clear HB; have HO_6 := n0_; have HO_8 := n1_; have HO_9 := n2_; have HO540 := n3_; have BK508 := n4_; have HB := n5_; clear n0_ n1_ n2_ n3_ n4_ n5_; (try clear hb); (try clear hb2); (try clear hk); (try clear hi); (try clear ho0); obtain ⟨Ao49, co49, eo49⟩ := Kd.R_slice HO540.out; subst eo49) | ((with_reducible refine gate_callee (f := 27) rfl ?_); refine goesL_ (some 55) rfl rfl Try.func27 (by kernel_rfl) rfl #[.slice Ao32 t524.length co32, .slice Ao49 t538.length co49] rfl arr_ ?_; (with_reducible refine (laws_eqFrameS.calls kj18 _ _ t524 _ _ t538 true _ ?side1 ?side2 ?side3 ?side4 A44.out).mono ?_); (case side1 => repeat (first | exact (Kd.R_reads' HO_8.out).2.2 | (with_reducible refine Kd.C_alloc ?_ _) | (with_reducible refine Kd.C_drewN ?_ _) | (with_reducible refine Kd.C_drew ?_))); (case side2 => exact (Kd.R_reads' HO_8.out).2.1); (case side3 => repeat (first | exact (Kd.R_reads' HO540.out).2.2 | (with_reducible refine Kd.C_alloc ?_ _) | (with_reducible refine Kd.C_drewN ?_ _) | (with_reducible refine Kd.C_drew ?_))); (case side4 => exact (Kd.R_reads' HO540.out).2.1); rintro e w50 ⟨rfl, hb⟩; refine ⟨_, rfl, ?_⟩; have n0_ := Aside0.mk (Kd.R_below (by (with_reducible repeat (first | apply Kd.R_alloc | apply Kd.R_drewN | apply Kd.R_drew)); exact HO_6.out) hb); have n1_ := Aside0.mk (Kd.R_below (by (with_reducible repeat (first | apply Kd.R_alloc | apply Kd.R_drewN | apply Kd.R_drew)); exact HO_8.out) hb); have n2_ := Aside0.mk (Kd.R_below (by (with_reducible repeat (first | apply Kd.R_alloc | apply Kd.R_drewN | apply Kd.R_drew)); exact HO_9.out) hb); have n3_ := Aside0.mk (Kd.R_below (by (with_reducible repeat (first | apply Kd.R_alloc | apply Kd.R_drewN | apply Kd.R_drew)); exact HO540.out) hb); have n4_ := Aside0.mk (bb_ BK508.out hb); have n5_ := Aside0.mk (below_step (hb1_ HB.out GE508.out) hb); clear HO_6; clear HO_8; clear HO_9; clear HO540; clear BK508; clear HB; have HO_6 := n0_; have HO_8 := n1_; have HO_9 := n2_; have HO540 := n3_; have BK508 := n4_; have HB := n5_; clear n0_ n1_ n2_ n3_ n4_ n5_; (try clear hb); (try clear hb2); (try clear hk); (try clear hi)) | ((with_reducible refine gate_callee (f := 28) rfl ?_); refine goesL_ (some 59) rfl rfl Try.func28 (by kernel_rfl) rfl #[.slice Ao32 t524.length co32, .int .i64 1] rfl arr_ ?_; (with_reducible refine (laws_markFrameS.calls kj18 (fun k_ => some k_ = (.slice Ao32 t524.length co32 : Value).ownBlock) (.slice Ao32 t524.length co32) t524 1 t542 t543 w _ ?side1 ?side2 A46.out).mono ?_); (case side1 => repeat (first | (with_reducible first | exact HB.out | apply below_alloc | apply pw_below_drewN | apply below_drew1 | refine below_set ?_ GE508.out) | exact HB.out)); (case side2 => exact Kd.R_tight rfl HO_8.out); rintro e w51 ⟨rfl, hy0, hb, hkp⟩; refine ⟨_, rfl, ?_⟩; have n0_ := Aside0.mk (Kd.R_mono (ok' := fun k_ => some k_ ≠ (.slice Ao32 t524.length co32 : Value).ownBlock ∧ some k_ ≠ (v534 : Value).ownBlock ∧ some k_ ≠ (.slice Ao49 t538.length co49 : Value).ownBlock) (Kd.R_keptB (HO_6.out) hkp (fun k_ hk_ hs_ => (hk_.1.1) hs_)) (fun k_ hk_ => ⟨hk_.1.1.1, hk_.1.1.2, hk_.1.2⟩)); have n1_ := Aside0.mk (Kd.R_reok rfl hy0 (fun k_ e_ => HO_8.out.1 k_ e_)); have n2_ := Aside0.mk (Kd.R_mono (ok' := fun k_ => some k_ ≠ (v521 : Value).ownBlock ∧ some k_ ≠ (.slice Ao32 t524.length co32 : Value).ownBlock ∧ some k_ ≠ (.slice Ao49 t538.length co49 : Value).ownBlock) (Kd.R_keptB (HO_9.out) hkp (fun k_ hk_ hs_ => (hk_.1.2) hs_)) (fun k_ hk_ => ⟨hk_.1.1.1, hk_.1.1.2, hk_.1.2⟩)); have n3_ := Aside0.mk (blk_kept (bk_ BK508.out) hkp (fun hs_ => (fun e_ => (Kd.R_ne HO_8.out BK508.out (by decide)) e_) hs_)); have n4_ := Aside0.mk (Kd.R_mono (ok' := fun k_ => some k_ ≠ (v521 : Value).ownBlock ∧ some k_ ≠ (.slice Ao32 t524.length co32 : Value).ownBlock ∧ some k_ ≠ (v534 : Value).ownBlock) (Kd.R_keptB (HO540.out) hkp (fun k_ hk_ hs_ => (hk_.1.2) hs_)) (fun k_ hk_ => ⟨hk_.1.1.1.2, hk_.1.1.2, hk_.1.2⟩)); have n5_ := Aside0.mk (hb); clear HO_6; clear HO_8; clear HO_9; clear BK508; clear HO540; clear HB; have HO_6 := n0_; have HO_8 := n1_; have HO_9 := n2_; have BK508 := n3_; have HO540 := n4_; have HB := n5_; clear n0_ n1_ n2_ n3_ n4_ n5_; (try clear hb); (try clear hkp); (try clear hy0)))
              (try simp only [Act.put, List.setIfInBounds_toArray, List.set_cons_zero, List.set_cons_succ])
              go_cut [72] (fun v72 wc => ∃ (kq : Nat) (x72_46 : Bool), v72 = .bool x72_46 ∧ Aside0 (laws_FnExactBusPut.j1 kq l0 t520 t523 t533 x72_46 a1_0 a1_1 a1_2 a1_3 a1_4 a1_5 = some r) ∧ Aside0 (kq ≤ kj18) ∧ Aside0 (Kd.R k33 33 wc w.heap.size (fun k_ => some k_ ≠ (v534 : Value).ownBlock) v521 t520) ∧ Aside0 (Kd.R k33 33 wc w.heap.size (fun k_ => some k_ ≠ (v521 : Value).ownBlock) v534 t533) ∧ Aside0 (wc.heap[gb508]? = some (.cells #[.int .i64 a1_0, .int .i64 a1_1, .int .i64 a1_2, .int .i64 a1_3, .int .i64 a1_4, .string a1_5] 52 (0, 0))) ∧ Aside0 (Below w.heap.size w wc))
              case first =>
                have H := HC47.out
                clear HC47
                by_cases c52 : t542 < 0
                · rw [if_pos c52] at H
                  have c52b0 : decide (t542 < 0) = true := decide_eq_true c52
                  clear c52
                  (first | rw [c52b0] | (simp only [i64_w, i32_w]; rw [c52b0]) | skip)
                  have H' := Aside0.mk H
                  clear H
                  go_wp2
                  go_meet
                  case rel => exact ⟨_, (true), (by first | rfl | (simp; done) | (simp [*]; done)), H', ⟨by have := HJ18.out; first | omega | exact Nat.le_refl _⟩, ⟨by (with_reducible repeat (first | apply Kd.R_alloc | apply Kd.R_drewN | apply Kd.R_drew)); exact Kd.R_mono HO_6.out (fun _ hk => hk.2.1)⟩, ⟨by (with_reducible repeat (first | apply Kd.R_alloc | apply Kd.R_drewN | apply Kd.R_drew)); exact Kd.R_mono HO_9.out (fun _ hk => hk.1)⟩, ⟨bk_ BK508.out⟩, ⟨hb1_ HB.out GE508.out⟩⟩
                · rw [if_neg c52] at H
                  have c52b0 : decide (t542 < 0) = false := decide_eq_false c52
                  clear c52
                  (first | rw [c52b0] | (simp only [i64_w, i32_w]; rw [c52b0]) | skip)
                  replace H := Option.bind_eq_some_iff.mp H
                  obtain ⟨t544, A530, H⟩ := H
                  replace H : (if t544 = true then (laws_FnExactBusPut.j1 kj18 l0 t520 t523 t533 (t536 != t523) a1_0 a1_1 a1_2 a1_3 a1_4 a1_5) else (laws_FnExactBusPut.j1 kj18 l0 t520 t523 t533 true a1_0 a1_1 a1_2 a1_3 a1_4 a1_5)) = some r := H
                  have A53 := Aside0.mk A530
                  clear A530
                  by_cases c54 : t544 = true
                  · subst c54
                    have H1 : (laws_FnExactBusPut.j1 kj18 l0 t520 t523 t533 (t536 != t523) a1_0 a1_1 a1_2 a1_3 a1_4 a1_5) = some r := by rw [if_pos rfl] at H; exact H
                    clear H
                    have H := H1
                    clear H1
                    have H' := Aside0.mk H
                    clear H
                    obtain ⟨Ao55, co55, eo55⟩ := Kd.R_slice HO_9.out
                    subst eo55
                    obtain ⟨Ao56, co56, eo56⟩ := Kd.R_slice HO_6.out
                    subst eo56
                    go_wp2_with (first | (go_at_call 27; (with_reducible refine (laws_eqFrameS.calls kj18 _ _ t533 _ _ t520 true _ ?side1 ?side2 ?side3 ?side4 A53.out).mono ?_); (case side1 => repeat (first | exact (Kd.R_reads' HO_9.out).2.2 | (with_reducible refine Kd.C_alloc ?_ _) | (with_reducible refine Kd.C_drewN ?_ _) | (with_reducible refine Kd.C_drew ?_))); (case side2 => exact (Kd.R_reads' HO_9.out).2.1); (case side3 => repeat (first | exact (Kd.R_reads' HO_6.out).2.2 | (with_reducible refine Kd.C_alloc ?_ _) | (with_reducible refine Kd.C_drewN ?_ _) | (with_reducible refine Kd.C_drew ?_))); (case side4 => exact (Kd.R_reads' HO_6.out).2.1); rintro e w57 ⟨rfl, hb⟩; have n0_ := Aside0.mk (Kd.R_below (by (with_reducible repeat (first | apply Kd.R_alloc | apply Kd.R_drewN | apply Kd.R_drew)); exact HO_6.out) hb); have n1_ := Aside0.mk (Kd.R_below (by (with_reducible repeat (first | apply Kd.R_alloc | apply Kd.R_drewN | apply Kd.R_drew)); exact HO_8.out) hb); have n2_ := Aside0.mk (Kd.R_below (by (with_reducible repeat (first | apply Kd.R_alloc | apply Kd.R_drewN | apply Kd.R_drew)); exact HO_9.out) hb); have n3_ := Aside0.mk (Kd.R_below (by (with_reducible repeat (first | apply Kd.R_alloc | apply Kd.R_drewN | apply Kd.R_drew)); exact HO540.out) hb); have n4_ := Aside0.mk (bb_ BK508.out hb); have n5_ := Aside0.mk (below_step (hb1_ HB.out GE508.out) hb); clear HO_6; clear HO_8; clear HO_9; clear HO540; clear BK508; clear HB; have HO_6 := n0_; have HO_8 := n1_; have HO_9 := n2_; have HO540 := n3_; have BK508 := n4_; have HB := n5_; clear n0_ n1_ n2_ n3_ n4_ n5_; (try clear hb); (try clear hb2); (try clear hk); (try clear hi)))
                    go_meet
                    case rel => exact ⟨_, ((t536 != t523)), (by first | rfl | (simp; done) | (simp [*]; done)), H', ⟨by have := HJ18.out; first | omega | exact Nat.le_refl _⟩, ⟨by (with_reducible repeat (first | apply Kd.R_alloc | apply Kd.R_drewN | apply Kd.R_drew)); exact Kd.R_mono HO_6.out (fun _ hk => hk.2.1)⟩, ⟨by (with_reducible repeat (first | apply Kd.R_alloc | apply Kd.R_drewN | apply Kd.R_drew)); exact Kd.R_mono HO_9.out (fun _ hk => hk.1)⟩, ⟨bk_ BK508.out⟩, ⟨hb1_ HB.out GE508.out⟩⟩
                  · replace c54 := Bool.eq_false_iff.mpr c54
                    subst c54
                    have H1 : (laws_FnExactBusPut.j1 kj18 l0 t520 t523 t533 true a1_0 a1_1 a1_2 a1_3 a1_4 a1_5) = some r := by rw [if_neg (show ¬ (false = true) by decide)] at H; exact H
                    clear H
                    have H := H1
                    clear H1
                    have H' := Aside0.mk H
                    clear H
                    obtain ⟨Ao58, co58, eo58⟩ := Kd.R_slice HO_9.out
                    subst eo58
                    obtain ⟨Ao59, co59, eo59⟩ := Kd.R_slice HO_6.out
                    subst eo59
                    go_wp2_with (first | (go_at_call 27; (with_reducible refine (laws_eqFrameS.calls kj18 _ _ t533 _ _ t520 false _ ?side1 ?side2 ?side3 ?side4 A53.out).mono ?_); (case side1 => repeat (first | exact (Kd.R_reads' HO_9.out).2.2 | (with_reducible refine Kd.C_alloc ?_ _) | (with_reducible refine Kd.C_drewN ?_ _) | (with_reducible refine Kd.C_drew ?_))); (case side2 => exact (Kd.R_reads' HO_9.out).2.1); (case side3 => repeat (first | exact (Kd.R_reads' HO_6.out).2.2 | (with_reducible refine Kd.C_alloc ?_ _) | (with_reducible refine Kd.C_drewN ?_ _) | (with_reducible refine Kd.C_drew ?_))); (case side4 => exact (Kd.R_reads' HO_6.out).2.1); rintro e w60 ⟨rfl, hb⟩; have n0_ := Aside0.mk (Kd.R_below (by (with_reducible repeat (first | apply Kd.R_alloc | apply Kd.R_drewN | apply Kd.R_drew)); exact HO_6.out) hb); have n1_ := Aside0.mk (Kd.R_below (by (with_reducible repeat (first | apply Kd.R_alloc | apply Kd.R_drewN | apply Kd.R_drew)); exact HO_8.out) hb); have n2_ := Aside0.mk (Kd.R_below (by (with_reducible repeat (first | apply Kd.R_alloc | apply Kd.R_drewN | apply Kd.R_drew)); exact HO_9.out) hb); have n3_ := Aside0.mk (Kd.R_below (by (with_reducible repeat (first | apply Kd.R_alloc | apply Kd.R_drewN | apply Kd.R_drew)); exact HO540.out) hb); have n4_ := Aside0.mk (bb_ BK508.out hb); have n5_ := Aside0.mk (below_step (hb1_ HB.out GE508.out) hb); clear HO_6; clear HO_8; clear HO_9; clear HO540; clear BK508; clear HB; have HO_6 := n0_; have HO_8 := n1_; have HO_9 := n2_; have HO540 := n3_; have BK508 := n4_; have HB := n5_; clear n0_ n1_ n2_ n3_ n4_ n5_; (try clear hb); (try clear hb2); (try clear hk); (try clear hi)))
                    go_meet
                    case rel => exact ⟨_, (true), (by first | rfl | (simp; done) | (simp [*]; done)), H', ⟨by have := HJ18.out; first | omega | exact Nat.le_refl _⟩, ⟨by (with_reducible repeat (first | apply Kd.R_alloc | apply Kd.R_drewN | apply Kd.R_drew)); exact Kd.R_mono HO_6.out (fun _ hk => hk.2.1)⟩, ⟨by (with_reducible repeat (first | apply Kd.R_alloc | apply Kd.R_drewN | apply Kd.R_drew)); exact Kd.R_mono HO_9.out (fun _ hk => hk.1)⟩, ⟨bk_ BK508.out⟩, ⟨hb1_ HB.out GE508.out⟩⟩
              case rest =>
                clear HC47
                try clear c2
                try clear p2
                try clear c3
                try clear c4
                try clear c4b0
                try clear c5
                try clear c6
                try clear c8
                try clear c8b0
                try clear c23
                try clear c25
                try clear c27
                try clear c28
                try clear c31
                try clear c32
                try clear c33
                try clear c34
                try clear c35
                try clear c42
                try clear c45
                try clear c52
                try clear c52b0
                try clear c54
                try clear hcz11_0
                try clear hcz11_1
                try clear hcz11_2
                try clear hcz11_3
                try clear hcz11_4
                try clear hcz11_5
                try clear hcz22_0
                try clear hcz22_1
                try clear hcz22_2
                try clear hcz22_3
                try clear hcz22_4
                try clear hcz22_5
                try clear hcz30_0
                try clear hcz30_1
                try clear hcz30_2
                try clear hcz30_3
                try clear hcz30_4
                try clear hcz30_5
                try clear hfz11_0
                try clear hfz11_1
                try clear hfz11_2
                try clear hfz11_3
                try clear hfz11_4
                try clear hfz11_5
                try clear hfz22_0
                try clear hfz22_1
                try clear hfz22_2
                try clear hfz22_3
                try clear hfz22_4
                try clear hfz22_5
                try clear hfz30_0
                try clear hfz30_1
                try clear hfz30_2
                try clear hfz30_3
                try clear hfz30_4
                try clear hfz30_5
                try clear p2
                obtain ⟨kq, x72_46, rfl, HA, HJ46, HO_6, HO_9, BK508, HB⟩ := hcut
                cases kq with
                | zero => exact absurd HA.out (by simp [laws_FnExactBusPut.j1])
                | succ kj46 =>
                  have H := HA.out
                  clear HA
                  simp only [laws_FnExactBusPut.j1] at H
                  by_cases c61 : x72_46 = true
                  · subst c61
                    have H1 : (some false) = some r := by rw [if_pos rfl] at H; exact H
                    clear H
                    have H := H1
                    clear H1
                    obtain rfl := Option.some.inj H
                    exact absurd hr_ (by decide)
                  · replace c61 := Bool.eq_false_iff.mpr c61
                    subst c61
                    have H1 : ((laws_markFrameS.f kj46 t533 1).bind fun bt545 => ((laws_heldFrameS.f kj46 bt545.2 1).bind fun t547 => (if t547 < 0 then (some false) else (if t547 = bt545.1 then ((laws_toFrameS.f kj46 l0).bind fun t548 => ((laws_toFrame.f a1_0 a1_1 a1_2 a1_3 a1_4 a1_5).bind fun bt551 => ((impl_BusPut.f kj46 t548 bt551.1 bt551.2.1 bt551.2.2.1 bt551.2.2.2.1 bt551.2.2.2.2.1 bt551.2.2.2.2.2).bind fun bt557 => ((laws_eqFrameS.f kj46 bt557.1 t520).bind fun t561 => (if t561 = true then (laws_FnExactBusPut.j2 kj46 bt545.2 bt545.1 (bt557.2 != t523)) else (laws_FnExactBusPut.j2 kj46 bt545.2 bt545.1 true)))))) else (some false))))) = some r := by rw [if_neg (show ¬ (false = true) by decide)] at H; exact H
                    clear H
                    have H := H1
                    clear H1
                    replace H := Option.bind_eq_some_iff.mp H
                    obtain ⟨⟨t545, t546⟩, A620, H⟩ := H
                    replace H : ((laws_heldFrameS.f kj46 t546 1).bind fun t547 => (if t547 < 0 then (some false) else (if t547 = t545 then ((laws_toFrameS.f kj46 l0).bind fun t548 => ((laws_toFrame.f a1_0 a1_1 a1_2 a1_3 a1_4 a1_5).bind fun bt551 => ((impl_BusPut.f kj46 t548 bt551.1 bt551.2.1 bt551.2.2.1 bt551.2.2.2.1 bt551.2.2.2.2.1 bt551.2.2.2.2.2).bind fun bt557 => ((laws_eqFrameS.f kj46 bt557.1 t520).bind fun t561 => (if t561 = true then (laws_FnExactBusPut.j2 kj46 t546 t545 (bt557.2 != t523)) else (laws_FnExactBusPut.j2 kj46 t546 t545 true)))))) else (some false)))) = some r := H
                    have A62 := Aside0.mk A620
                    clear A620
                    replace H := Option.bind_eq_some_iff.mp H
                    obtain ⟨t547, A630, H⟩ := H
                    replace H : (if t547 < 0 then (some false) else (if t547 = t545 then ((laws_toFrameS.f kj46 l0).bind fun t548 => ((laws_toFrame.f a1_0 a1_1 a1_2 a1_3 a1_4 a1_5).bind fun bt551 => ((impl_BusPut.f kj46 t548 bt551.1 bt551.2.1 bt551.2.2.1 bt551.2.2.2.1 bt551.2.2.2.2.1 bt551.2.2.2.2.2).bind fun bt557 => ((laws_eqFrameS.f kj46 bt557.1 t520).bind fun t561 => (if t561 = true then (laws_FnExactBusPut.j2 kj46 t546 t545 (bt557.2 != t523)) else (laws_FnExactBusPut.j2 kj46 t546 t545 true)))))) else (some false))) = some r := H
                    have A63 := Aside0.mk A630
                    clear A630
                    by_cases c64 : t547 < 0
                    · rw [if_pos c64] at H
                      have c64b0 : decide (t547 < 0) = true := decide_eq_true c64
                      clear c64
                      obtain rfl := Option.some.inj H
                      exact absurd hr_ (by decide)
                    · rw [if_neg c64] at H
                      have c64b0 : decide (t547 < 0) = false := decide_eq_false c64
                      clear c64
                      by_cases c65 : t547 = t545
                      · rw [if_pos c65] at H
                        have c65b0 : (t547 == t545) = true := beq_iff_eq.mpr c65
                        have c65b1 : (t547 != t545) = false := bne_eq_false_iff_eq.mpr c65
                        clear c65
                        replace H := Option.bind_eq_some_iff.mp H
                        obtain ⟨t548, A660, H⟩ := H
                        replace H : ((laws_toFrame.f a1_0 a1_1 a1_2 a1_3 a1_4 a1_5).bind fun bt551 => ((impl_BusPut.f kj46 t548 bt551.1 bt551.2.1 bt551.2.2.1 bt551.2.2.2.1 bt551.2.2.2.2.1 bt551.2.2.2.2.2).bind fun bt557 => ((laws_eqFrameS.f kj46 bt557.1 t520).bind fun t561 => (if t561 = true then (laws_FnExactBusPut.j2 kj46 t546 t545 (bt557.2 != t523)) else (laws_FnExactBusPut.j2 kj46 t546 t545 true))))) = some r := H
                        have A66 := Aside0.mk A660
                        clear A660
                        replace H := Option.bind_eq_some_iff.mp H
                        obtain ⟨⟨t551, t552, t553, t554, t555, t556⟩, A670, H⟩ := H
                        replace H : ((impl_BusPut.f kj46 t548 t551 t552 t553 t554 t555 t556).bind fun bt557 => ((laws_eqFrameS.f kj46 bt557.1 t520).bind fun t561 => (if t561 = true then (laws_FnExactBusPut.j2 kj46 t546 t545 (bt557.2 != t523)) else (laws_FnExactBusPut.j2 kj46 t546 t545 true)))) = some r := H
                        have A67 := Aside0.mk A670
                        clear A670
                        replace H := Option.bind_eq_some_iff.mp H
                        obtain ⟨⟨t557, t560⟩, A680, H⟩ := H
                        replace H : ((laws_eqFrameS.f kj46 t557 t520).bind fun t561 => (if t561 = true then (laws_FnExactBusPut.j2 kj46 t546 t545 (t560 != t523)) else (laws_FnExactBusPut.j2 kj46 t546 t545 true))) = some r := H
                        have A68 := Aside0.mk A680
                        clear A680
                        have HC69 := Aside0.mk H
                        clear H
                        obtain ⟨Ao70, co70, eo70⟩ := Kd.R_slice HO_9.out
                        subst eo70
                        try go_wp2_with (first | ((with_reducible refine gate_callee (f := 28) rfl ?_); refine goesL_ (some 75) rfl rfl Try.func28 (by kernel_rfl) rfl #[.slice Ao70 t533.length co70, .int .i64 1] rfl arr_ ?_; (with_reducible refine (laws_markFrameS.calls kj46 (fun k_ => some k_ = (.slice Ao70 t533.length co70 : Value).ownBlock) (.slice Ao70 t533.length co70) t533 1 t545 t546 w _ ?side1 ?side2 A62.out).mono ?_); (case side1 => repeat (first | (with_reducible first | exact HB.out | apply below_alloc | apply pw_below_drewN | apply below_drew1 | refine below_set ?_ GE508.out) | exact HB.out)); (case side2 => exact Kd.R_tight rfl HO_9.out); rintro e w71 ⟨rfl, hy0, hb, hkp⟩; refine ⟨_, rfl, ?_⟩; have n0_ := Aside0.mk (Kd.R_mono (ok' := fun k_ => some k_ ≠ (.slice Ao70 t533.length co70 : Value).ownBlock) (Kd.R_keptB (HO_6.out) hkp (fun k_ hk_ hs_ => (hk_) hs_)) (fun k_ hk_ => hk_.1)); have n1_ := Aside0.mk (Kd.R_reok rfl hy0 (fun k_ e_ => HO_9.out.1 k_ e_)); have n2_ := Aside0.mk (blk_kept (bk_ BK508.out) hkp (fun hs_ => (fun e_ => (Kd.R_ne HO_9.out BK508.out (by decide)) e_) hs_)); have n3_ := Aside0.mk (hb); clear HO_6; clear HO_9; clear BK508; clear HB; have HO_6 := n0_; have HO_9 := n1_; have BK508 := n2_; have HB := n3_; clear n0_ n1_ n2_ n3_; (try clear hb); (try clear hkp); (try clear hy0)) | ((with_reducible refine gate_callee (f := 35) rfl ?_); refine goesL_ (some 78) rfl rfl Try.func35 (by kernel_rfl) rfl #[.slice Ao70 t546.length co70, .int .i64 1] rfl (by (try simp only [List.map_toArray, List.map_cons, List.map_nil]); first | done | (rw [show t546.length = t533.length from (Kd.R_reads' HO_9.out).1.symm] <;> rfl) | rfl | (simp only [List.length_drop, List.length_take]; rfl)) ?_; (with_reducible refine (laws_heldFrameS.calls kj46 _ _ t546 1 t547 _ ?side1 ?side2 A63.out).mono ?_); (case side1 => repeat (first | exact (Kd.R_reads' HO_9.out).2.2 | (with_reducible refine Kd.C_alloc ?_ _) | (with_reducible refine Kd.C_drewN ?_ _) | (with_reducible refine Kd.C_drew ?_))); (case side2 => rw [show t546.length = t533.length from (Kd.R_reads' HO_9.out).1.symm]; exact (Kd.R_reads' HO_9.out).2.1); rintro e w72 ⟨rfl, hb⟩; refine ⟨_, rfl, ?_⟩; have n0_ := Aside0.mk (Kd.R_below (by (with_reducible repeat (first | apply Kd.R_alloc | apply Kd.R_drewN | apply Kd.R_drew)); exact HO_6.out) hb); have n1_ := Aside0.mk (Kd.R_below (by (with_reducible repeat (first | apply Kd.R_alloc | apply Kd.R_drewN | apply Kd.R_drew)); exact HO_9.out) hb); have n2_ := Aside0.mk (bb_ BK508.out hb); have n3_ := Aside0.mk (below_step (hb1_ HB.out GE508.out) hb); clear HO_6; clear HO_9; clear BK508; clear HB; have HO_6 := n0_; have HO_9 := n1_; have BK508 := n2_; have HB := n3_; clear n0_ n1_ n2_ n3_; (try clear hb); (try clear hb2); (try clear hk); (try clear hi)))
                        have n0_ := Aside0.mk (Kd.R_drew HO_6.out)
                        have n1_ := Aside0.mk (Kd.R_drew HO_9.out)
                        have n2_ := Aside0.mk (blk_drew BK508.out)
                        have n3_ := Aside0.mk (below_drew1 HB.out)
                        clear HO_6
                        clear HO_9
                        clear BK508
                        clear HB
                        have HO_6 := n0_
                        have HO_9 := n1_
                        have BK508 := n2_
                        have HB := n3_
                        clear n0_ n1_ n2_ n3_
                        refine start_ (n := 10) (S := fun w' => w'.cell? ⟨gb508, 0, none⟩ = some (.int .i64 a1_0) ∧ w'.cell? ⟨gb508, 1, none⟩ = some (.int .i64 a1_1) ∧ w'.cell? ⟨gb508, 2, none⟩ = some (.int .i64 a1_2) ∧ w'.cell? ⟨gb508, 3, none⟩ = some (.int .i64 a1_3) ∧ w'.cell? ⟨gb508, 4, none⟩ = some (.int .i64 a1_4) ∧ w'.cell? ⟨gb508, 5, none⟩ = some (.string a1_5)) (ds := []) #[false, false, false, false, false, false, false, false, false, false] (by kernel_rfl) rfl rfl ⟨(blk_cell BK508.out 0).trans rfl, (blk_cell BK508.out 1).trans rfl, (blk_cell BK508.out 2).trans rfl, (blk_cell BK508.out 3).trans rfl, (blk_cell BK508.out 4).trans rfl, (blk_cell BK508.out 5).trans rfl⟩ (fun hHeld => ?_); refine with_tabW laws_FnExactBusPut.tab27 laws_FnExactBusPut.bits27 (fun HT_ HW_ => ?_)
                        generalize w72.drew = w73 at HO_6 HO_9 BK508 HB hHeld ⊢
                        refine pure_ (i := 0) (N := some 85) (v := ?_) (a' := ?_) #[true, false, false, false, false, false, false, false, false, false] rfl rfl (any_of HT_.out (by kernel_rfl)) (fun _ _ _ h => h) (Or.inl ⟨by rfl, ?_⟩) ?_ ?_
                        rotate_left
                        · intro w'
                          go_simp
                          with_reducible rfl
                        rotate_left
                        · simp only [Act.put, List.setIfInBounds_toArray, List.set_cons_zero, List.set_cons_succ, i64_w, i32_w]
                          rfl
                        refine take_ (i := 2) (N := some 87) (v := ?_) (a' := ?_) #[true, false, true, false, false, false, false, false, false, false] rfl rfl (take_ofW HT_.out HW_.out (by kernel_rfl)) (fun _ _ _ h => h) (Or.inl ⟨by rfl, ?_⟩) hHeld ?_ ?_
                        rotate_left
                        · rintro w' ⟨s0, s1, s2, s3, s4, s5⟩
                          go_simp
                          with_reducible rfl
                        rotate_left
                        · simp only [Act.put, List.setIfInBounds_toArray, List.set_cons_zero, List.set_cons_succ, i64_w, i32_w]
                          rfl
                        refine one_ (i := 1) (N := some 86) #[true, true, true, false, false, false, false, false, false, false] rfl rfl (one_of HT_.out (by kernel_rfl)) (by decide) (fun K hK => ?_)
                        refine goes_ Try.func25 (by kernel_rfl) rfl #[.slice A0 l0.length c0] (by rfl) rfl rfl arr_ ?_
                        with_reducible refine (laws_toFrameS.calls kj46 _ _ l0 t548 _ ?side1 ?side2 A66.out).mono ?_
                        (case side1 => exact kc_ (Kd.C_below HR0.out HB.out))
                        (case side2 => exact HC0.out)
                        rintro e w74 ⟨v549, rfl, ho0, hb⟩
                        refine ⟨_, rfl, ?_⟩
                        have n0_ := Aside0.mk (Kd.R_elder' (by (with_reducible repeat (first | apply Kd.R_alloc | apply Kd.R_drewN | apply Kd.R_drew)); exact HO_6.out) (Kd.R_base ho0) hb)
                        have n1_ := Aside0.mk (Kd.R_elder' (by (with_reducible repeat (first | apply Kd.R_alloc | apply Kd.R_drewN | apply Kd.R_drew)); exact HO_9.out) (Kd.R_base ho0) hb)
                        have n2_ := Aside0.mk (Kd.R_lower (Kd.R_new' (Kd.R_new' ho0 (Kd.R_lt (by (with_reducible repeat (first | apply Kd.R_alloc | apply Kd.R_drewN | apply Kd.R_drew)); exact HO_6.out))) (Kd.R_lt (by (with_reducible repeat (first | apply Kd.R_alloc | apply Kd.R_drewN | apply Kd.R_drew)); exact HO_9.out))) (below_size (hb1_ HB.out GE508.out)))
                        have n3_ := Aside0.mk (bb_ BK508.out hb)
                        have n4_ := Aside0.mk (below_step (hb1_ HB.out GE508.out) hb)
                        clear HO_6
                        clear HO_9
                        clear BK508
                        clear HB
                        have HO_6 := n0_
                        have HO_9 := n1_
                        have HO550 := n2_
                        have BK508 := n3_
                        have HB := n4_
                        clear n0_ n1_ n2_ n3_ n4_
                        (try clear hb)
                        (try clear hb2)
                        (try clear hk)
                        (try clear hi)
                        (try clear ho0)
                        refine hK.out _ _ ⟨(blk_cell BK508.out 0).trans rfl, (blk_cell BK508.out 1).trans rfl, (blk_cell BK508.out 2).trans rfl, (blk_cell BK508.out 3).trans rfl, (blk_cell BK508.out 4).trans rfl, (blk_cell BK508.out 5).trans rfl⟩ (fun hHeld => ?_)
                        clear hK K
                        refine norm_ (a' := ?_) ?_ ?_
                        rotate_left
                        · show Act.put _ (some 86) _ = _
                          simp only [Act.put, List.setIfInBounds_toArray, List.set_cons_zero, List.set_cons_succ, i64_w, i32_w]
                          rfl
                        refine one_ (i := 3) (N := some 88) #[true, true, true, true, false, false, false, false, false, false] rfl rfl (one_of HT_.out (by kernel_rfl)) (by decide) (fun K hK => ?_)
                        refine goes_ Try.func33 (by kernel_rfl) rfl #[.agg #[.int .i64 a1_0, .int .i64 a1_1, .int .i64 a1_2, .int .i64 a1_3, .int .i64 a1_4, .string a1_5]] (by rfl) rfl rfl arr_ ?_
                        with_reducible refine (laws_toFrame.calls a1_0 a1_1 a1_2 a1_3 a1_4 a1_5 t551 t552 t553 t554 t555 t556 _ A67.out).mono ?_
                        rintro e w75 ⟨rfl, hb⟩
                        refine ⟨_, rfl, ?_⟩
                        have n0_ := Aside0.mk (Kd.R_below (by (with_reducible repeat (first | apply Kd.R_alloc | apply Kd.R_drewN | apply Kd.R_drew)); exact HO_6.out) hb)
                        have n1_ := Aside0.mk (Kd.R_below (by (with_reducible repeat (first | apply Kd.R_alloc | apply Kd.R_drewN | apply Kd.R_drew)); exact HO_9.out) hb)
                        have n2_ := Aside0.mk (Kd.R_below (by (with_reducible repeat (first | apply Kd.R_alloc | apply Kd.R_drewN | apply Kd.R_drew)); exact HO550.out) hb)
                        have n3_ := Aside0.mk (bb_ BK508.out hb)
                        have n4_ := Aside0.mk (below_step (hb1_ HB.out GE508.out) hb)
                        clear HO_6
                        clear HO_9
                        clear HO550
                        clear BK508
                        clear HB
                        have HO_6 := n0_
                        have HO_9 := n1_
                        have HO550 := n2_
                        have BK508 := n3_
                        have HB := n4_
                        clear n0_ n1_ n2_ n3_ n4_
                        (try clear hb)
                        (try clear hb2)
                        (try clear hk)
                        (try clear hi)
                        obtain ⟨Ao76, co76, eo76⟩ := Kd.R_slice HO550.out
                        (first | subst eo76 | (injection eo76 with f1_ f2_ f3_; have f4_ := f1_.symm; have f5_ := f3_.symm; clear f1_ f2_ f3_; subst f4_; subst f5_))
                        refine hK.out _ _ ⟨(blk_cell BK508.out 0).trans rfl, (blk_cell BK508.out 1).trans rfl, (blk_cell BK508.out 2).trans rfl, (blk_cell BK508.out 3).trans rfl, (blk_cell BK508.out 4).trans rfl, (blk_cell BK508.out 5).trans rfl⟩ (fun hHeld => ?_)
                        clear hK K
                        refine norm_ (a' := ?_) ?_ ?_
                        rotate_left
                        · show Act.put _ (some 88) _ = _
                          simp only [Act.put, List.setIfInBounds_toArray, List.set_cons_zero, List.set_cons_succ, i64_w, i32_w]
                          rfl
                        refine one_ (i := 4) (N := some 89) #[true, true, true, true, true, false, false, false, false, false] rfl rfl (one_of HT_.out (by kernel_rfl)) (by decide) (fun K hK => ?_)
                        refine goes_ Try.func34 (by kernel_rfl) rfl #[.slice Ao76 t548.length co76, .agg #[.int .i64 t551, .int .i64 t552, .int .i64 t553, .int .i64 t554, .int .i64 t555, .string t556]] (by rfl) rfl rfl arr_ ?_
                        with_reducible refine (impl_BusPut.calls kj46 _ _ t548 t551 t552 t553 t554 t555 t556 t557 t560 _ ?side1 ?side2 A68.out).mono ?_
                        (case side1 => repeat (first | exact (Kd.R_reads' HO550.out).2.2 | (with_reducible refine Kd.C_alloc ?_ _) | (with_reducible refine Kd.C_drewN ?_ _) | (with_reducible refine Kd.C_drew ?_)))
                        (case side2 => exact (Kd.R_reads' HO550.out).2.1)
                        rintro e w77 ⟨v558, rfl, ho0, hb⟩
                        refine ⟨_, rfl, ?_⟩
                        have n0_ := Aside0.mk (Kd.R_elder' (by (with_reducible repeat (first | apply Kd.R_alloc | apply Kd.R_drewN | apply Kd.R_drew)); exact HO_6.out) (Kd.R_base ho0) hb)
                        have n1_ := Aside0.mk (Kd.R_elder' (by (with_reducible repeat (first | apply Kd.R_alloc | apply Kd.R_drewN | apply Kd.R_drew)); exact HO_9.out) (Kd.R_base ho0) hb)
                        have n2_ := Aside0.mk (Kd.R_elder' (by (with_reducible repeat (first | apply Kd.R_alloc | apply Kd.R_drewN | apply Kd.R_drew)); exact HO550.out) (Kd.R_base ho0) hb)
                        have n3_ := Aside0.mk (Kd.R_lower (Kd.R_new' (Kd.R_new' (Kd.R_new' ho0 (Kd.R_lt (by (with_reducible repeat (first | apply Kd.R_alloc | apply Kd.R_drewN | apply Kd.R_drew)); exact HO_6.out))) (Kd.R_lt (by (with_reducible repeat (first | apply Kd.R_alloc | apply Kd.R_drewN | apply Kd.R_drew)); exact HO_9.out))) (Kd.R_lt (by (with_reducible repeat (first | apply Kd.R_alloc | apply Kd.R_drewN | apply Kd.R_drew)); exact HO550.out))) (below_size (hb1_ HB.out GE508.out)))
                        have n4_ := Aside0.mk (bb_ BK508.out hb)
                        have n5_ := Aside0.mk (below_step (hb1_ HB.out GE508.out) hb)
                        clear HO_6
                        clear HO_9
                        clear HO550
                        clear BK508
                        clear HB
                        have HO_6 := n0_
                        have HO_9 := n1_
                        have HO550 := n2_
                        have HO559 := n3_
                        have BK508 := n4_
                        have HB := n5_
                        clear n0_ n1_ n2_ n3_ n4_ n5_
                        (try clear hb)
                        (try clear hb2)
                        (try clear hk)
                        (try clear hi)
                        (try clear ho0)
                        refine hK.out _ _ ⟨(blk_cell BK508.out 0).trans rfl, (blk_cell BK508.out 1).trans rfl, (blk_cell BK508.out 2).trans rfl, (blk_cell BK508.out 3).trans rfl, (blk_cell BK508.out 4).trans rfl, (blk_cell BK508.out 5).trans rfl⟩ (fun hHeld => ?_)
                        clear hK K
                        refine norm_ (a' := ?_) ?_ ?_
                        rotate_left
                        · show Act.put _ (some 89) _ = _
                          simp only [Act.put, List.setIfInBounds_toArray, List.set_cons_zero, List.set_cons_succ, i64_w, i32_w]
                          rfl
                        refine pure_ (i := 5) (N := some 84) (v := ?_) (a' := ?_) #[true, true, true, true, true, true, false, false, false, false] rfl rfl (any_of HT_.out (by kernel_rfl)) (fun _ _ _ h => h) (Or.inl ⟨by rfl, ?_⟩) ?_ ?_
                        rotate_left
                        · intro w'
                          go_simp
                          with_reducible rfl
                        rotate_left
                        · simp only [Act.put, List.setIfInBounds_toArray, List.set_cons_zero, List.set_cons_succ, i64_w, i32_w]
                          rfl
                        refine pure_ (i := 6) (N := some 90) (v := ?_) (a' := ?_) #[true, true, true, true, true, true, true, false, false, false] rfl rfl (any_of HT_.out (by kernel_rfl)) (fun _ _ _ h => h) (Or.inl ⟨by rfl, ?_⟩) ?_ ?_
                        rotate_left
                        · intro w'
                          go_simp
                          with_reducible rfl
                        rotate_left
                        · simp only [Act.put, List.setIfInBounds_toArray, List.set_cons_zero, List.set_cons_succ, i64_w, i32_w]
                          rfl
                        refine pure_ (i := 7) (N := some 91) (v := ?_) (a' := ?_) #[true, true, true, true, true, true, true, true, false, false] rfl rfl (any_of HT_.out (by kernel_rfl)) (fun _ _ _ h => h) (Or.inl ⟨by rfl, ?_⟩) ?_ ?_
                        rotate_left
                        · intro w'
                          go_simp
                          with_reducible rfl
                        rotate_left
                        · simp only [Act.put, List.setIfInBounds_toArray, List.set_cons_zero, List.set_cons_succ, i64_w, i32_w]
                          rfl
                        refine pure_ (i := 8) (N := some 14) (v := ?_) (a' := ?_) #[true, true, true, true, true, true, true, true, true, false] rfl rfl (any_of HT_.out (by kernel_rfl)) (fun _ _ _ h => h) (Or.inl ⟨by rfl, ?_⟩) ?_ ?_
                        rotate_left
                        · intro w'
                          go_simp
                          with_reducible rfl
                        rotate_left
                        · simp only [Act.put, List.setIfInBounds_toArray, List.set_cons_zero, List.set_cons_succ, i64_w, i32_w]
                          rfl
                        refine pure_ (i := 9) (N := some 15) (v := ?_) (a' := ?_) #[true, true, true, true, true, true, true, true, true, true] rfl rfl (any_of HT_.out (by kernel_rfl)) (fun _ _ _ h => h) (Or.inl ⟨by rfl, ?_⟩) ?_ ?_
                        rotate_left
                        · intro w'
                          go_simp
                          with_reducible rfl
                        rotate_left
                        · simp only [Act.put, List.setIfInBounds_toArray, List.set_cons_zero, List.set_cons_succ, i64_w, i32_w]
                          rfl
                        refine done_ (done_of HT_.out (by kernel_rfl)) ?_
                        go_upto_region 28 with (fail)
                        go_cut [100] (fun v100 wc => ∃ (kq : Nat) (x100_68 : Bool), v100 = .bool x100_68 ∧ Aside0 (laws_FnExactBusPut.j2 kq t546 t545 x100_68 = some r) ∧ Aside0 (kq ≤ kj46) ∧ Aside0 (Kd.R k33 33 wc w.heap.size (fun _ => True) (.slice Ao70 t533.length co70) t546) ∧ Aside0 (wc.heap[gb508]? = some (.cells #[.int .i64 a1_0, .int .i64 a1_1, .int .i64 a1_2, .int .i64 a1_3, .int .i64 a1_4, .string a1_5] 52 (0, 0))) ∧ Aside0 (Below w.heap.size w wc))
                        case first =>
                          have H := HC69.out
                          clear HC69
                          replace H := Option.bind_eq_some_iff.mp H
                          obtain ⟨t561, A780, H⟩ := H
                          replace H : (if t561 = true then (laws_FnExactBusPut.j2 kj46 t546 t545 (t560 != t523)) else (laws_FnExactBusPut.j2 kj46 t546 t545 true)) = some r := H
                          have A78 := Aside0.mk A780
                          clear A780
                          by_cases c79 : t561 = true
                          · subst c79
                            have H1 : (laws_FnExactBusPut.j2 kj46 t546 t545 (t560 != t523)) = some r := by rw [if_pos rfl] at H; exact H
                            clear H
                            have H := H1
                            clear H1
                            have H' := Aside0.mk H
                            clear H
                            obtain ⟨Ao80, co80, eo80⟩ := Kd.R_slice HO559.out
                            subst eo80
                            obtain ⟨Ao81, co81, eo81⟩ := Kd.R_slice HO_6.out
                            subst eo81
                            go_wp2_with (first | ((with_reducible refine gate_callee (f := 27) rfl ?_); refine goesL_ (some 94) rfl rfl Try.func27 (by kernel_rfl) rfl #[.slice Ao80 t557.length co80, .slice Ao81 t520.length co81] rfl arr_ ?_; (with_reducible refine (laws_eqFrameS.calls kj46 _ _ t557 _ _ t520 true _ ?side1 ?side2 ?side3 ?side4 A78.out).mono ?_); (case side1 => repeat (first | exact (Kd.R_reads' HO559.out).2.2 | (with_reducible refine Kd.C_alloc ?_ _) | (with_reducible refine Kd.C_drewN ?_ _) | (with_reducible refine Kd.C_drew ?_))); (case side2 => exact (Kd.R_reads' HO559.out).2.1); (case side3 => repeat (first | exact (Kd.R_reads' HO_6.out).2.2 | (with_reducible refine Kd.C_alloc ?_ _) | (with_reducible refine Kd.C_drewN ?_ _) | (with_reducible refine Kd.C_drew ?_))); (case side4 => exact (Kd.R_reads' HO_6.out).2.1); rintro e w82 ⟨rfl, hb⟩; refine ⟨_, rfl, ?_⟩; have n0_ := Aside0.mk (Kd.R_below (by (with_reducible repeat (first | apply Kd.R_alloc | apply Kd.R_drewN | apply Kd.R_drew)); exact HO_6.out) hb); have n1_ := Aside0.mk (Kd.R_below (by (with_reducible repeat (first | apply Kd.R_alloc | apply Kd.R_drewN | apply Kd.R_drew)); exact HO_9.out) hb); have n2_ := Aside0.mk (Kd.R_below (by (with_reducible repeat (first | apply Kd.R_alloc | apply Kd.R_drewN | apply Kd.R_drew)); exact HO550.out) hb); have n3_ := Aside0.mk (Kd.R_below (by (with_reducible repeat (first | apply Kd.R_alloc | apply Kd.R_drewN | apply Kd.R_drew)); exact HO559.out) hb); have n4_ := Aside0.mk (bb_ BK508.out hb); have n5_ := Aside0.mk (below_step (hb1_ HB.out GE508.out) hb); clear HO_6; clear HO_9; clear HO550; clear HO559; clear BK508; clear HB; have HO_6 := n0_; have HO_9 := n1_; have HO550 := n2_; have HO559 := n3_; have BK508 := n4_; have HB := n5_; clear n0_ n1_ n2_ n3_ n4_ n5_; (try clear hb); (try clear hb2); (try clear hk); (try clear hi)))
                            go_meet
                            case rel => exact ⟨_, ((t560 != t523)), (by first | rfl | (simp; done) | (simp [*]; done)), H', ⟨by have := HJ18.out; have := HJ46.out; first | omega | exact Nat.le_refl _⟩, ⟨by (with_reducible repeat (first | apply Kd.R_alloc | apply Kd.R_drewN | apply Kd.R_drew)); exact Kd.R_mono HO_9.out (fun _ hk => trivial)⟩, ⟨bk_ BK508.out⟩, ⟨hb1_ HB.out GE508.out⟩⟩
                          · replace c79 := Bool.eq_false_iff.mpr c79
                            subst c79
                            have H1 : (laws_FnExactBusPut.j2 kj46 t546 t545 true) = some r := by rw [if_neg (show ¬ (false = true) by decide)] at H; exact H
                            clear H
                            have H := H1
                            clear H1
                            have H' := Aside0.mk H
                            clear H
                            obtain ⟨Ao83, co83, eo83⟩ := Kd.R_slice HO559.out
                            subst eo83
                            obtain ⟨Ao84, co84, eo84⟩ := Kd.R_slice HO_6.out
                            subst eo84
                            go_wp2_with (first | ((with_reducible refine gate_callee (f := 27) rfl ?_); refine goesL_ (some 94) rfl rfl Try.func27 (by kernel_rfl) rfl #[.slice Ao83 t557.length co83, .slice Ao84 t520.length co84] rfl arr_ ?_; (with_reducible refine (laws_eqFrameS.calls kj46 _ _ t557 _ _ t520 false _ ?side1 ?side2 ?side3 ?side4 A78.out).mono ?_); (case side1 => repeat (first | exact (Kd.R_reads' HO559.out).2.2 | (with_reducible refine Kd.C_alloc ?_ _) | (with_reducible refine Kd.C_drewN ?_ _) | (with_reducible refine Kd.C_drew ?_))); (case side2 => exact (Kd.R_reads' HO559.out).2.1); (case side3 => repeat (first | exact (Kd.R_reads' HO_6.out).2.2 | (with_reducible refine Kd.C_alloc ?_ _) | (with_reducible refine Kd.C_drewN ?_ _) | (with_reducible refine Kd.C_drew ?_))); (case side4 => exact (Kd.R_reads' HO_6.out).2.1); rintro e w85 ⟨rfl, hb⟩; refine ⟨_, rfl, ?_⟩; have n0_ := Aside0.mk (Kd.R_below (by (with_reducible repeat (first | apply Kd.R_alloc | apply Kd.R_drewN | apply Kd.R_drew)); exact HO_6.out) hb); have n1_ := Aside0.mk (Kd.R_below (by (with_reducible repeat (first | apply Kd.R_alloc | apply Kd.R_drewN | apply Kd.R_drew)); exact HO_9.out) hb); have n2_ := Aside0.mk (Kd.R_below (by (with_reducible repeat (first | apply Kd.R_alloc | apply Kd.R_drewN | apply Kd.R_drew)); exact HO550.out) hb); have n3_ := Aside0.mk (Kd.R_below (by (with_reducible repeat (first | apply Kd.R_alloc | apply Kd.R_drewN | apply Kd.R_drew)); exact HO559.out) hb); have n4_ := Aside0.mk (bb_ BK508.out hb); have n5_ := Aside0.mk (below_step (hb1_ HB.out GE508.out) hb); clear HO_6; clear HO_9; clear HO550; clear HO559; clear BK508; clear HB; have HO_6 := n0_; have HO_9 := n1_; have HO550 := n2_; have HO559 := n3_; have BK508 := n4_; have HB := n5_; clear n0_ n1_ n2_ n3_ n4_ n5_; (try clear hb); (try clear hb2); (try clear hk); (try clear hi)))
                            go_meet
                            case rel => exact ⟨_, (true), (by first | rfl | (simp; done) | (simp [*]; done)), H', ⟨by have := HJ18.out; have := HJ46.out; first | omega | exact Nat.le_refl _⟩, ⟨by (with_reducible repeat (first | apply Kd.R_alloc | apply Kd.R_drewN | apply Kd.R_drew)); exact Kd.R_mono HO_9.out (fun _ hk => trivial)⟩, ⟨bk_ BK508.out⟩, ⟨hb1_ HB.out GE508.out⟩⟩
                        case rest =>
                          clear HC69
                          try clear c2
                          try clear p2
                          try clear c3
                          try clear c4
                          try clear c4b0
                          try clear c5
                          try clear c6
                          try clear c7
                          try clear c8
                          try clear c8b0
                          try clear c23
                          try clear c25
                          try clear c27
                          try clear c28
                          try clear c31
                          try clear c32
                          try clear c33
                          try clear c34
                          try clear c35
                          try clear c42
                          try clear c45
                          try clear c52
                          try clear c52b0
                          try clear c54
                          try clear c61
                          try clear c64
                          try clear c64b0
                          try clear c65
                          try clear c65b0
                          try clear c65b1
                          try clear c79
                          try clear hcz11_0
                          try clear hcz11_1
                          try clear hcz11_2
                          try clear hcz11_3
                          try clear hcz11_4
                          try clear hcz11_5
                          try clear hcz22_0
                          try clear hcz22_1
                          try clear hcz22_2
                          try clear hcz22_3
                          try clear hcz22_4
                          try clear hcz22_5
                          try clear hcz30_0
                          try clear hcz30_1
                          try clear hcz30_2
                          try clear hcz30_3
                          try clear hcz30_4
                          try clear hcz30_5
                          try clear hfz11_0
                          try clear hfz11_1
                          try clear hfz11_2
                          try clear hfz11_3
                          try clear hfz11_4
                          try clear hfz11_5
                          try clear hfz22_0
                          try clear hfz22_1
                          try clear hfz22_2
                          try clear hfz22_3
                          try clear hfz22_4
                          try clear hfz22_5
                          try clear hfz30_0
                          try clear hfz30_1
                          try clear hfz30_2
                          try clear hfz30_3
                          try clear hfz30_4
                          try clear hfz30_5
                          try clear p2
                          obtain ⟨kq, x100_68, rfl, HA, HJ68, HO_9, BK508, HB⟩ := hcut
                          have hl9_68 := (Kd.R_reads' HO_9.out).1
                          rw [hl9_68] at HO_9
                          (try simp only [hl9_68])
                          (try simp only [hl9_68] at BK508)
                          cases kq with
                          | zero => exact absurd HA.out (by simp [laws_FnExactBusPut.j2])
                          | succ kj68 =>
                            have H := HA.out
                            clear HA
                            simp only [laws_FnExactBusPut.j2] at H
                            by_cases c86 : x100_68 = true
                            · subst c86
                              have H1 : (some false) = some r := by rw [if_pos rfl] at H; exact H
                              clear H
                              have H := H1
                              clear H1
                              obtain rfl := Option.some.inj H
                              exact absurd hr_ (by decide)
                            · replace c86 := Bool.eq_false_iff.mpr c86
                              subst c86
                              have H1 : ((laws_heldFrameS.f kj68 t546 1).bind fun t562 => (if t562 < 0 then (some false) else (if t562 = t545 then (some true) else (some false)))) = some r := by rw [if_neg (show ¬ (false = true) by decide)] at H; exact H
                              clear H
                              have H := H1
                              clear H1
                              replace H := Option.bind_eq_some_iff.mp H
                              obtain ⟨t562, A870, H⟩ := H
                              replace H : (if t562 < 0 then (some false) else (if t562 = t545 then (some true) else (some false))) = some r := H
                              have A87 := Aside0.mk A870
                              clear A870
                              by_cases c88 : t562 < 0
                              · rw [if_pos c88] at H
                                have c88b0 : decide (t562 < 0) = true := decide_eq_true c88
                                clear c88
                                obtain rfl := Option.some.inj H
                                exact absurd hr_ (by decide)
                              · rw [if_neg c88] at H
                                have c88b0 : decide (t562 < 0) = false := decide_eq_false c88
                                clear c88
                                by_cases c89 : t562 = t545
                                · rw [if_pos c89] at H
                                  have c89b0 : (t562 == t545) = true := beq_iff_eq.mpr c89
                                  have c89b1 : (t562 != t545) = false := bne_eq_false_iff_eq.mpr c89
                                  clear c89
                                  obtain rfl := Option.some.inj H
                                  go_wp2_with (first | ((with_reducible refine gate_callee (f := 35) rfl ?_); refine goesL_ (some 103) rfl rfl Try.func35 (by kernel_rfl) rfl #[.slice Ao70 t546.length co70, .int .i64 1] rfl arr_ ?_; (with_reducible refine (laws_heldFrameS.calls kj68 _ _ t546 1 t562 _ ?side1 ?side2 A87.out).mono ?_); (case side1 => repeat (first | exact (Kd.R_reads' HO_9.out).2.2 | (with_reducible refine Kd.C_alloc ?_ _) | (with_reducible refine Kd.C_drewN ?_ _) | (with_reducible refine Kd.C_drew ?_))); (case side2 => exact (Kd.R_reads' HO_9.out).2.1); rintro e w90 ⟨rfl, hb⟩; refine ⟨_, rfl, ?_⟩; have n0_ := Aside0.mk (Kd.R_below (by (with_reducible repeat (first | apply Kd.R_alloc | apply Kd.R_drewN | apply Kd.R_drew)); exact HO_9.out) hb); have n1_ := Aside0.mk (bb_ BK508.out hb); have n2_ := Aside0.mk (below_step (hb1_ HB.out GE508.out) hb); clear HO_9; clear BK508; clear HB; have HO_9 := n0_; have BK508 := n1_; have HB := n2_; clear n0_ n1_ n2_; (try clear hb); (try clear hb2); (try clear hk); (try clear hi)))
                                  go_ret
                                  exact ⟨er_, hb1_ HB.out GE508.out⟩
                                · rw [if_neg c89] at H
                                  have c89b0 : (t562 == t545) = false := beq_eq_false_iff_ne.mpr c89
                                  have c89b1 : (t562 != t545) = true := bne_iff_ne.mpr c89
                                  obtain rfl := Option.some.inj H
                                  exact absurd hr_ (by decide)
                      · rw [if_neg c65] at H
                        have c65b0 : (t547 == t545) = false := beq_eq_false_iff_ne.mpr c65
                        have c65b1 : (t547 != t545) = true := bne_iff_ne.mpr c65
                        obtain rfl := Option.some.inj H
                        exact absurd hr_ (by decide)
            · replace c45 := Bool.eq_false_iff.mpr c45
              subst c45
              have H1 : (some false) = some r := by rw [if_neg (show ¬ (false = true) by decide)] at H; exact H
              clear H
              have H := H1
              clear H1
              obtain rfl := Option.some.inj H
              exact absurd hr_ (by decide)
end Go.Proofs.Ytjlmfnpgcmmdnaa.P

namespace Go.Proofs.Ytjlmfnpgcmmdnaa.G
open Go.RowKit Go.Proofs.YtjlmfnpgcmmdnaaW.PrintWords
theorem wrap_id {x : Int} (h1 : -9223372036854775808 ≤ x) (h2 : x ≤ 9223372036854775807) : wrap64 x = x := by unfold wrap64; omega
theorem wrap_succ {i n : Nat} (h : i < n) (hn : n ≤ 9223372036854775807) : wrap64 ((i : Int) + 1) = ((i + 1 : Nat) : Int) := by unfold wrap64; omega
theorem wrap_pred {i n : Nat} (h0 : 0 < i) (h : i < n) (hn : n ≤ 9223372036854775807) : wrap64 ((i : Int) - 1) = ((i - 1 : Nat) : Int) := by unfold wrap64; omega
theorem all_loop {n : Nat} {L : Nat → Int → Option Bool} {Q : Nat → Bool} {e : Bool}
    (hs : ∀ k i, i < n → L (k + 1) (i : Int) = if Q i = true then L k ((i + 1 : Nat) : Int) else some false)
    (he : ∀ k, L (k + 1) (n : Int) = some e) :
    ∀ d i k, i + d = n → d < k → L k (i : Int) = some ((List.range' i d).all Q && e) := by
  intro d
  induction d with
  | zero =>
    intro i k h hk
    obtain ⟨k, rfl⟩ : ∃ m, k = m + 1 := ⟨k - 1, by omega⟩
    obtain rfl : i = n := by omega
    rw [he]; simp
  | succ d ih =>
    intro i k h hk
    obtain ⟨k, rfl⟩ : ∃ m, k = m + 1 := ⟨k - 1, by omega⟩
    rw [hs k i (by omega)]
    rw [List.range'_succ]
    cases hq : Q i with
    | true => rw [if_pos rfl, ih (i + 1) k (by omega) (by omega)]; simp [hq]
    | false => simp [hq]
theorem all_loop0 {n : Nat} {L : Nat → Int → Option Bool} {Q : Nat → Bool} {e : Bool}
    (hs : ∀ k i, i < n → L (k + 1) (i : Int) = if Q i = true then L k ((i + 1 : Nat) : Int) else some false)
    (he : ∀ k, L (k + 1) (n : Int) = some e) (k : Nat) (hk : n < k) : L k 0 = some ((List.range n).all Q && e) := by
  have := all_loop hs he n 0 k (by omega) hk
  rw [List.range_eq_range']
  exact this
theorem all_loopT {n : Nat} {L : Nat → Int → Option Bool}
    (hs : ∀ k i, i < n → L (k + 1) (i : Int) = L k ((i + 1 : Nat) : Int)) (he : ∀ k, L (k + 1) (n : Int) = some true) (k : Nat) (hk : n < k) : L k 0 = some true := by
  have := all_loop0 (Q := fun _ => true) (e := true) (fun k i hi => by rw [if_pos rfl]; exact hs k i hi) he k hk
  rw [this]
  simp [List.all_eq_true]
theorem track_loop {n : Nat} {σ ρ : Type} {L : Nat → σ → Int → Option ρ} {F : Nat → σ} {r : ρ} {c : Nat}
    (hs : ∀ k i, i < n → c ≤ k → L (k + 1) (F i) (i : Int) = L k (F (i + 1)) ((i + 1 : Nat) : Int))
    (he : ∀ k, c ≤ k → L (k + 1) (F n) (n : Int) = some r) :
    ∀ d i k, i + d = n → d + c < k → L k (F i) (i : Int) = some r := by
  intro d
  induction d with
  | zero =>
    intro i k h hk
    obtain ⟨k, rfl⟩ : ∃ m, k = m + 1 := ⟨k - 1, by omega⟩
    obtain rfl : i = n := by omega
    exact he k (by omega)
  | succ d ih =>
    intro i k h hk
    obtain ⟨k, rfl⟩ : ∃ m, k = m + 1 := ⟨k - 1, by omega⟩
    rw [hs k i (by omega) (by omega)]
    exact ih (i + 1) k (by omega) (by omega)
theorem track_loop0 {n : Nat} {σ ρ : Type} {L : Nat → σ → Int → Option ρ} {F : Nat → σ} {r : ρ} {c : Nat}
    (hs : ∀ k i, i < n → c ≤ k → L (k + 1) (F i) (i : Int) = L k (F (i + 1)) ((i + 1 : Nat) : Int))
    (he : ∀ k, c ≤ k → L (k + 1) (F n) (n : Int) = some r) (k : Nat) (hk : n + c < k) : L k (F 0) 0 = some r :=
  track_loop hs he n 0 k (by omega) hk
theorem inv_loop {n : Nat} {σ ρ : Type} {L : Nat → σ → Int → Option ρ} {I : Nat → σ → Prop} {R : ρ → Prop}
    (hs : ∀ k i s, i < n → I i s → (∃ s', L (k + 1) s (i : Int) = L k s' ((i + 1 : Nat) : Int) ∧ I (i + 1) s') ∨ ∃ r, L (k + 1) s (i : Int) = some r ∧ R r)
    (he : ∀ k s, I n s → ∃ r, L (k + 1) s (n : Int) = some r ∧ R r) :
    ∀ d i s k, i + d = n → I i s → d < k → ∃ r, L k s (i : Int) = some r ∧ R r := by
  intro d
  induction d with
  | zero =>
    intro i s k h hi hk
    obtain ⟨k, rfl⟩ : ∃ m, k = m + 1 := ⟨k - 1, by omega⟩
    obtain rfl : i = n := by omega
    exact he k s hi
  | succ d ih =>
    intro i s k h hi hk
    obtain ⟨k, rfl⟩ : ∃ m, k = m + 1 := ⟨k - 1, by omega⟩
    rcases hs k i s (by omega) hi with ⟨s', h1, h2⟩ | ⟨r, h1, h2⟩
    · rw [h1]; exact ih (i + 1) s' k (by omega) h2 (by omega)
    · exact ⟨r, h1, h2⟩
theorem to_loop {α β : Type} {l : List α} {c : α → β} {z : β} {L : Nat → List β → Int → Option (List β)}
    (hs : ∀ k acc i (hi : i < l.length), acc.length = l.length → L (k + 1) acc (i : Int) = L k (acc.set i (c l[i])) ((i + 1 : Nat) : Int))
    (he : ∀ k acc, acc.length = l.length → L (k + 1) acc (l.length : Int) = some acc) :
    ∀ d i k, i + d = l.length → d < k → L k ((l.take i).map c ++ List.replicate d z) (i : Int) = some (l.map c) := by
  intro d
  induction d with
  | zero =>
    intro i k h hk
    obtain ⟨k, rfl⟩ : ∃ m, k = m + 1 := ⟨k - 1, by omega⟩
    obtain rfl : i = l.length := by omega
    rw [he _ _ (by simp)]; simp
  | succ d ih =>
    intro i k h hk
    obtain ⟨k, rfl⟩ : ∃ m, k = m + 1 := ⟨k - 1, by omega⟩
    have hi : i < l.length := by omega
    rw [hs _ _ i hi (by simp; omega), ← ih (i + 1) k (by omega) (by omega)]
    congr 1
    have hl : ((l.take i).map c).length = i := by simp; omega
    rw [List.set_append, if_neg (by omega), hl, Nat.sub_self, List.replicate_succ, List.set_cons_zero, List.take_succ_eq_append_getElem hi, List.map_append, List.append_assoc]
    rfl
theorem to_loop0 {α β : Type} {l : List α} {c : α → β} {z : β} {L : Nat → List β → Int → Option (List β)}
    (hs : ∀ k acc i (hi : i < l.length), acc.length = l.length → L (k + 1) acc (i : Int) = L k (acc.set i (c l[i])) ((i + 1 : Nat) : Int))
    (he : ∀ k acc, acc.length = l.length → L (k + 1) acc (l.length : Int) = some acc) (k : Nat) (hk : l.length < k) : L k (List.replicate l.length z) 0 = some (l.map c) := by
  have := to_loop hs he l.length 0 k (by omega) hk (z := z)
  simpa using this
end Go.Proofs.Ytjlmfnpgcmmdnaa.G
namespace Go.Proofs.Ytjlmfnpgcmmdnaa.P
open Go.RowKit Go.Proofs.YtjlmfnpgcmmdnaaW.PrintWords Go.Proofs.YtjlmfnpgcmmdnaaW.PrintLast Go.Proofs.YtjlmfnpgcmmdnaaW.PrintMore
attribute [local go_sem] max2_int min2_int max_two min_two max_three min_three max_four min_four
set_option linter.unusedVariables false
set_option linter.unusedSimpArgs false
end Go.Proofs.Ytjlmfnpgcmmdnaa.P

namespace Go.Proofs.Ytjlmfnpgcmmdnaa.C
open Go.RowKit Go.Proofs.Ytjlmfnpgcmmdnaa.P Go.Proofs.Ytjlmfnpgcmmdnaa.G
theorem l1In (a b c : Int) : spec_l1In.f a b c = some (decide (b ≤ a ∧ a ≤ c)) := by
  unfold spec_l1In.f; by_cases h : a ≥ b <;> simp [h] <;> omega
theorem in_ (a b c : Int) : impl_in.f a b c = some (decide (b ≤ a ∧ a ≤ c)) := by
  unfold impl_in.f; by_cases h : b ≤ a <;> simp [h]
theorem isTime (a : Int) : impl_isTime.f a = some (decide (0 ≤ a ∧ a ≤ 1000000000000)) := by
  unfold impl_isTime.f; rw [in_]; rfl
theorem l4Node (a : Int) : spec_l4Node.f a = some (decide (0 ≤ a ∧ a ≤ 7)) := by
  unfold spec_l4Node.f; rw [l1In]; rfl
theorem isNode (a : Int) : impl_isNode.f a = some (decide (0 ≤ a ∧ a ≤ 7)) := by
  unfold impl_isNode.f; rw [in_]; rfl
def frameOk (a b c d e : Int) (s : ByteArray) : Bool := decide (0 ≤ a ∧ a ≤ 7) && decide (0 ≤ b ∧ b ≤ 15) && decide (0 ≤ c ∧ c ≤ 1000000000000) && decide (0 ≤ d) && decide (d < e) && decide (e ≤ 1000000000000) && decide ((s.size : Int) ≤ 24)
theorem sFrameOk (a b c d e : Int) (s : ByteArray) : spec_FrameOk.f a b c d e s = some (frameOk a b c d e s) := by
  unfold spec_FrameOk.f frameOk; simp only [l4Node, l1In, Option.bind_some, ge_iff_le]
  by_cases h1 : (0 ≤ a ∧ a ≤ 7) <;> by_cases h2 : (0 ≤ b ∧ b ≤ 15) <;> by_cases h3 : (0 ≤ c ∧ c ≤ 1000000000000) <;> by_cases h4 : 0 ≤ d <;> by_cases h5 : d < e <;> by_cases h6 : e ≤ 1000000000000 <;> simp [h1, h2, h3, h4, h5, h6]
theorem iFrameOk (a b c d e : Int) (s : ByteArray) : impl_FrameOk.f a b c d e s = some (frameOk a b c d e s) := by
  unfold impl_FrameOk.f frameOk; simp only [isNode, isTime, in_, Option.bind_some]
  by_cases h1 : (0 ≤ a ∧ a ≤ 7) <;> by_cases h2 : (0 ≤ b ∧ b ≤ 15) <;> by_cases h3 : (0 ≤ c ∧ c ≤ 1000000000000) <;> by_cases h4 : 0 ≤ d <;> by_cases h5 : d < e <;> by_cases h6 : e ≤ 1000000000000 <;> simp [h1, h2, h3, h4, h5, h6]
abbrev Fr := S33
abbrev FrL := S52
def toFr (x : FrL) : Fr := ⟨x.f0, x.f1, x.f2, x.f3, x.f4, x.f5⟩
theorem rdFr (l : List Fr) (i : Nat) (h : i < l.length) : rd_T33 l (i : Int) = l[i] := by
  unfold rd_T33; simp [List.getD, h]
theorem rdFrL (l : List FrL) (i : Nat) (h : i < l.length) : rd_T52 l (i : Int) = l[i] := by
  unfold rd_T52; simp [List.getD, h]
theorem szFrameS (l : List FrL) (hl : l.length ≤ 9223372036854775807) (hb : ∀ y ∈ l, y.f5.size ≤ 9223372036854775807) (x : Int) (hx : 0 ≤ x ∧ x ≤ 1048576) (k : Nat) (hk : 1048576 < k) :
    ∃ r, laws_szFrameS.f k l x = some r ∧ (r = -1 ∨ (0 ≤ r ∧ r ≤ x ∧ (l.length : Int) ≤ x)) := by
  unfold laws_szFrameS.f
  rw [wrap_id (by omega) (by omega)]
  by_cases h : x - (l.length : Int) < 0
  · rw [if_pos h]; exact ⟨_, rfl, Or.inl rfl⟩
  rw [if_neg h]
  refine inv_loop (n := l.length) (L := fun k s i => laws_szFrameS.l0 k l s i) (I := fun i s => 0 ≤ s ∧ s ≤ x) (R := fun r => r = -1 ∨ (0 ≤ r ∧ r ≤ x ∧ (l.length : Int) ≤ x)) (fun k i s hi hs => ?_) (fun k s hs => ?_) l.length 0 _ k (by omega) (by omega) (by omega)
  · simp only [laws_szFrameS.l0, laws_szFrame.f]
    have hbi := hb l[i] (List.getElem_mem hi)
    rw [if_pos (by omega), if_pos (by omega), wrap_succ hi (by omega), rdFrL l i hi, wrap_id (by omega) (by omega)]
    by_cases h2 : s - (l[i].f5.size : Int) < 0
    · right; rw [if_pos h2]; exact ⟨-1, by simp, Or.inl rfl⟩
    · left; rw [if_neg h2]; simp only [Option.bind_some]; rw [if_neg h2]; exact ⟨_, rfl, by omega⟩
  · simp only [laws_szFrameS.l0]
    rw [if_neg (by omega)]; exact ⟨s, rfl, Or.inr (by omega)⟩
theorem toFrameS (l : List FrL) (hl : l.length ≤ 1048576) (k : Nat) (hk : l.length < k) : laws_toFrameS.f k l = some (l.map toFr) := by
  unfold laws_toFrameS.f
  rw [if_pos (by omega), if_pos (by simp; omega)]
  simp only [Int.toNat_natCast]
  refine to_loop0 (L := fun k acc i => laws_toFrameS.l0 k l acc i) (fun k acc i hi ha => ?_) (fun k acc ha => ?_) k hk
  · simp only [laws_toFrameS.l0, laws_toFrame.f, Option.bind_some]
    rw [if_pos (by omega), if_pos (by omega), if_pos (by omega), wrap_succ hi (by omega), rdFrL l i hi]
    rfl
  · simp only [laws_toFrameS.l0]
    rw [if_neg (by omega)]
theorem eqFrameS (l : List Fr) (hl : l.length ≤ 1048576) (k : Nat) (hk : l.length < k) : laws_eqFrameS.f k l l = some true := by
  unfold laws_eqFrameS.f
  rw [if_pos rfl]
  refine all_loopT (n := l.length) (L := fun k i => laws_eqFrameS.l0 k l l i) (fun k i hi => ?_) (fun k => ?_) k hk
  · simp only [laws_eqFrameS.l0, laws_eqFrame.f]
    rw [if_pos (by omega), if_pos (by omega), if_pos (by omega), wrap_succ hi (by omega)]
    simp
  · simp only [laws_eqFrameS.l0]
    rw [if_neg (by omega)]
def frOk (l : List Fr) (i : Nat) : Bool := match l[i]? with
  | some x => frameOk x.f0 x.f1 x.f2 x.f3 x.f4 x.f5 && (i == 0 || (match l[i - 1]? with | some y => !decide (x.f3 < y.f3) | none => true))
  | none => true
def busOk (l : List Fr) : Bool := (List.range l.length).all (frOk l) && decide ((l.length : Int) ≤ 60)
theorem busOk_len {l : List Fr} (h : busOk l = true) : l.length ≤ 60 := by unfold busOk at h; simp at h; omega
theorem sBusOk (l : List Fr) (hl : l.length ≤ 1048576) (k : Nat) (hk : l.length < k) : spec_BusOk.f k l = some (busOk l) := by
  unfold spec_BusOk.f busOk
  by_cases h : (l.length : Int) > 60
  · rw [if_pos h, decide_eq_false (by omega)]; simp
  rw [if_neg h, decide_eq_true (by omega)]
  refine all_loop0 (n := l.length) (L := fun k i => spec_BusOk.l0 k l i) (Q := frOk l) (e := true) (fun k i hi => ?_) (fun k => ?_) k hk
  · simp only [spec_BusOk.l0, sFrameOk, Option.bind_some]
    rw [if_pos (by omega), if_pos (by omega), wrap_succ hi (by omega), rdFr l i hi]
    have hq : frOk l i = (frameOk l[i].f0 l[i].f1 l[i].f2 l[i].f3 l[i].f4 l[i].f5 && (i == 0 || (match l[i - 1]? with | some y => !decide (l[i].f3 < y.f3) | none => true))) := by unfold frOk; rw [List.getElem?_eq_getElem hi]
    rw [hq]
    rcases Bool.eq_false_or_eq_true (frameOk l[i].f0 l[i].f1 l[i].f2 l[i].f3 l[i].f4 l[i].f5) with hf | hf
    case inr => rw [hf]; simp
    case inl =>
      rw [hf, if_pos rfl, Bool.true_and]
      rcases Nat.eq_zero_or_pos i with h0 | h0
      · subst h0; simp
      · rw [if_pos (by omega), wrap_pred h0 hi (by omega), if_pos (by omega), if_pos (by omega), rdFr l (i - 1) (by omega), List.getElem?_eq_getElem (show i - 1 < l.length by omega)]
        simp only
        have : (i == 0) = false := by simp; omega
        rw [this, Bool.false_or]
        by_cases h2 : l[i].f3 < l[i - 1].f3 <;> simp [h2]
  · simp only [spec_BusOk.l0]
    rw [if_neg (by omega)]
theorem iBusOk (l : List Fr) (hl : l.length ≤ 1048576) (k : Nat) (hk : l.length < k) : impl_BusOk.f k l = some (busOk l) := by
  unfold impl_BusOk.f busOk
  refine all_loop0 (n := l.length) (L := fun k i => impl_BusOk.l0 k l l (l.length : Int) i) (Q := frOk l) (e := decide ((l.length : Int) ≤ 60)) (fun k i hi => ?_) (fun k => ?_) k hk
  · simp only [impl_BusOk.l0, iFrameOk, Option.bind_some]
    rw [if_pos (by omega), if_pos (by omega), if_pos (by omega), wrap_succ hi (by omega), rdFr l i hi]
    have hq : frOk l i = (frameOk l[i].f0 l[i].f1 l[i].f2 l[i].f3 l[i].f4 l[i].f5 && (i == 0 || (match l[i - 1]? with | some y => !decide (l[i].f3 < y.f3) | none => true))) := by unfold frOk; rw [List.getElem?_eq_getElem hi]
    rw [hq]
    rcases Bool.eq_false_or_eq_true (frameOk l[i].f0 l[i].f1 l[i].f2 l[i].f3 l[i].f4 l[i].f5) with hf | hf
    case inr => rw [hf]; simp
    case inl =>
      rw [hf, if_pos rfl, Bool.true_and]
      rcases Nat.eq_zero_or_pos i with h0 | h0
      · subst h0; simp
      · rw [if_pos (by omega), wrap_pred h0 hi (by omega), if_pos (by omega), if_pos (by omega), rdFr l (i - 1) (by omega), List.getElem?_eq_getElem (show i - 1 < l.length by omega)]
        simp only
        have : (i == 0) = false := by simp; omega
        rw [this, Bool.false_or]
        by_cases h2 : l[i].f3 < l[i - 1].f3 <;> simp [h2]
  · simp only [impl_BusOk.l0]
    rw [if_neg (by omega)]
end Go.Proofs.Ytjlmfnpgcmmdnaa.C
namespace Go.Proofs.Ytjlmfnpgcmmdnaa.G
open Go.RowKit Go.Proofs.YtjlmfnpgcmmdnaaW.PrintWords
theorem mark_loop {α ρ : Type} {l : List α} {f : Nat → α} {w : Nat → Int} {L : Nat → List α → Int → Int → Option ρ} {fin : List α → ρ} {c : Nat}
    (hs : ∀ k i acc, i < l.length → acc.length = l.length → c ≤ k → L (k + 1) acc (w i) (i : Int) = L k (acc.set i (f i)) (w (i + 1)) ((i + 1 : Nat) : Int))
    (he : ∀ k acc, acc.length = l.length → L (k + 1) acc (w l.length) (l.length : Int) = some (fin acc)) :
    ∀ d i k, i + d = l.length → d + c < k → L k ((List.range i).map f ++ l.drop i) (w i) (i : Int) = some (fin ((List.range l.length).map f)) := by
  intro d
  induction d with
  | zero =>
    intro i k h hk
    obtain ⟨k, rfl⟩ : ∃ m, k = m + 1 := ⟨k - 1, by omega⟩
    obtain rfl : i = l.length := by omega
    rw [he _ _ (by simp)]; simp
  | succ d ih =>
    intro i k h hk
    obtain ⟨k, rfl⟩ : ∃ m, k = m + 1 := ⟨k - 1, by omega⟩
    have hi : i < l.length := by omega
    rw [hs _ _ _ hi (by simp; omega) (by omega), ← ih (i + 1) k (by omega) (by omega)]
    congr 1
    have hl : ((List.range i).map f).length = i := by simp
    rw [List.set_append, if_neg (by omega), hl, Nat.sub_self, List.drop_eq_getElem_cons hi, List.set_cons_zero, List.range_succ, List.map_append, List.append_assoc]
    rfl
theorem mark_loop0 {α ρ : Type} {l : List α} {f : Nat → α} {w : Nat → Int} {L : Nat → List α → Int → Int → Option ρ} {fin : List α → ρ} {c : Nat}
    (hs : ∀ k i acc, i < l.length → acc.length = l.length → c ≤ k → L (k + 1) acc (w i) (i : Int) = L k (acc.set i (f i)) (w (i + 1)) ((i + 1 : Nat) : Int))
    (he : ∀ k acc, acc.length = l.length → L (k + 1) acc (w l.length) (l.length : Int) = some (fin acc)) (k : Nat) (hk : l.length + c < k) :
    L k l (w 0) 0 = some (fin ((List.range l.length).map f)) := by
  have := mark_loop hs he l.length 0 k (by omega) hk
  simpa using this
end Go.Proofs.Ytjlmfnpgcmmdnaa.G
namespace Go.Proofs.Ytjlmfnpgcmmdnaa.C
open Go.RowKit Go.Proofs.Ytjlmfnpgcmmdnaa.P Go.Proofs.Ytjlmfnpgcmmdnaa.G Go.Proofs.YtjlmfnpgcmmdnaaW.PrintWords
def digits : Nat → Int → ByteArray → ByteArray
  | 0, _, s => s
  | d + 1, x, s => if x > 0 then digits d (x / 10) ((strOfNums [(wrap64 (48 + (Int.tmod x 10))) % 256]) ++ s) else s
theorem nums_size (x : Int) : (strOfNums [x]).size = 1 := by unfold strOfNums; rfl
theorem pow10 (d : Nat) : (10 : Int) ^ (d + 1) = 10 * 10 ^ d := by rw [Int.pow_succ]; omega
theorem markL : ∀ (d : Nat) (x : Int) (s : ByteArray) (k : Nat), 0 ≤ x → x < 10 ^ d → x ≤ 9223372036854775807 → s.size + d ≤ 1000 → d < k → laws_markText.l0 k x s = some ((⟨#[109]⟩ : ByteArray) ++ digits d x s) := by
  intro d
  induction d with
  | zero =>
    intro x s k h0 h1 h2 h3 hk
    obtain ⟨k, rfl⟩ : ∃ j, k = j + 1 := ⟨k - 1, by omega⟩
    simp only [laws_markText.l0, digits]
    rw [if_neg (by simp at h1; omega), if_pos (by omega)]
  | succ d ih =>
    intro x s k h0 h1 h2 h3 hk
    obtain ⟨k, rfl⟩ : ∃ j, k = j + 1 := ⟨k - 1, by omega⟩
    simp only [laws_markText.l0, digits]
    by_cases h : x > 0
    · rw [pow10] at h1
      have hd : x / 10 ≤ x := Int.ediv_le_self _ h0
      rw [if_pos h, if_pos h, Option.bind_some, if_pos (by rw [nums_size]; omega), Int.tdiv_eq_ediv_of_nonneg h0, wrap_id (x := x / 10) (by omega) (by omega)]
      exact ih _ _ k (by omega) (by omega) (by omega) (by rw [ByteArray.size_append, nums_size]; omega) (by omega)
    · rw [if_neg h, if_neg h, if_pos (by omega)]
def markT (x : Int) : ByteArray := if x ≤ 0 then (⟨#[109, 48]⟩ : ByteArray) else (⟨#[109]⟩ : ByteArray) ++ digits 30 x (⟨#[]⟩ : ByteArray)
theorem markText (x : Int) (hx : x ≤ 9223372036854775807) (k : Nat) (hk : 40 ≤ k) : laws_markText.f k x = some (markT x) := by
  unfold laws_markText.f markT
  split
  · rfl
  · have hp : (9223372036854775807 : Int) < 10 ^ 30 := by decide
    rw [markL 30 x _ k (by omega) (by omega) hx (by decide) (by omega)]
theorem markFrameS (l : List Fr) (hl : l.length ≤ 2000000) (a : Int) (ha : 0 ≤ a ∧ a ≤ 1000000000) (k : Nat) (hk : l.length + 50 < k) :
    laws_markFrameS.f k l a = some (a + 6 * l.length, (List.range l.length).map fun (i : Nat) => (⟨a + 6 * i, a + 6 * i + 1, a + 6 * i + 2, a + 6 * i + 3, a + 6 * i + 4, markT (a + 6 * i + 5)⟩ : Fr)) := by
  unfold laws_markFrameS.f
  have := mark_loop0 (l := l) (f := fun i => (⟨a + 6 * i, a + 6 * i + 1, a + 6 * i + 2, a + 6 * i + 3, a + 6 * i + 4, markT (a + 6 * i + 5)⟩ : Fr)) (w := fun i => a + 6 * i) (c := 40) (L := fun k acc w i => laws_markFrameS.l0 k acc w i) (fin := fun acc => (a + 6 * l.length, acc)) (fun k i acc hi hacc hk => ?_) (fun k acc hacc => ?_) k (by omega)
  · simp only [Int.natCast_zero, Int.mul_zero, Int.add_zero] at this; exact this
  · simp only [laws_markFrameS.l0, Option.bind_some]
    rw [if_pos (by omega), if_pos (by omega), wrap_succ hi (by omega), Int.toNat_natCast]
    have w1 : wrap64 (a + 6 * (i : Int) + 1) = a + 6 * i + 1 := wrap_id (by omega) (by omega)
    have w2 : wrap64 (a + 6 * (i : Int) + 1 + 1) = a + 6 * i + 2 := by rw [wrap_id (by omega) (by omega)]; omega
    have w3 : wrap64 (a + 6 * (i : Int) + 2 + 1) = a + 6 * i + 3 := by rw [wrap_id (by omega) (by omega)]; omega
    have w4 : wrap64 (a + 6 * (i : Int) + 3 + 1) = a + 6 * i + 4 := by rw [wrap_id (by omega) (by omega)]; omega
    have w5 : wrap64 (a + 6 * (i : Int) + 4 + 1) = a + 6 * i + 5 := by rw [wrap_id (by omega) (by omega)]; omega
    have w6 : wrap64 (a + 6 * (i : Int) + 5 + 1) = a + 6 * ((i + 1 : Nat) : Int) := by rw [wrap_id (by omega) (by omega)]; omega
    simp only [w1, w2, w3, w4, w5, w6]
    have hr : ∀ v : Fr, rd_T33 (acc.set i v) (i : Int) = v := fun v => by rw [rdFr _ i (by simp; omega), List.getElem_set_self]
    simp only [hr, List.set_set]
    rw [markText _ (by omega) k (by omega), Option.bind_some]
  · simp only [laws_markFrameS.l0]
    rw [if_neg (by omega)]
theorem heldFrameS (n : Nat) (hn : n ≤ 2000000) (a : Int) (ha : 0 ≤ a ∧ a ≤ 1000000000) (k : Nat) (hk : n + 50 < k) :
    laws_heldFrameS.f k ((List.range n).map fun (i : Nat) => (⟨a + 6 * i, a + 6 * i + 1, a + 6 * i + 2, a + 6 * i + 3, a + 6 * i + 4, markT (a + 6 * i + 5)⟩ : Fr)) a = some (a + 6 * n) := by
  unfold laws_heldFrameS.f
  have hlen : ((List.range n).map fun (i : Nat) => (⟨a + 6 * (i : Int), a + 6 * i + 1, a + 6 * i + 2, a + 6 * i + 3, a + 6 * i + 4, markT (a + 6 * i + 5)⟩ : Fr)).length = n := by simp
  have := track_loop0 (n := n) (c := 40) (L := fun k s i => laws_heldFrameS.l0 k ((List.range n).map fun (i : Nat) => (⟨a + 6 * (i : Int), a + 6 * i + 1, a + 6 * i + 2, a + 6 * i + 3, a + 6 * i + 4, markT (a + 6 * i + 5)⟩ : Fr)) s i) (F := fun i => a + 6 * (i : Int)) (r := a + 6 * n) (fun k i hi hk => ?_) (fun k _ => ?_) k (by omega)
  · simp only [Int.natCast_zero, Int.mul_zero, Int.add_zero] at this; exact this
  · simp only [laws_heldFrameS.l0]
    have w1 : wrap64 (a + 6 * (i : Int) + 1) = a + 6 * i + 1 := wrap_id (by omega) (by omega)
    have w2 : wrap64 (a + 6 * (i : Int) + 1 + 1) = a + 6 * i + 2 := by rw [wrap_id (by omega) (by omega)]; omega
    have w3 : wrap64 (a + 6 * (i : Int) + 2 + 1) = a + 6 * i + 3 := by rw [wrap_id (by omega) (by omega)]; omega
    have w4 : wrap64 (a + 6 * (i : Int) + 3 + 1) = a + 6 * i + 4 := by rw [wrap_id (by omega) (by omega)]; omega
    have w5 : wrap64 (a + 6 * (i : Int) + 4 + 1) = a + 6 * i + 5 := by rw [wrap_id (by omega) (by omega)]; omega
    have w6 : wrap64 (a + 6 * (i : Int) + 5 + 1) = a + 6 * ((i + 1 : Nat) : Int) := by rw [wrap_id (by omega) (by omega)]; omega
    simp only [w1, w2, w3, w4, w5, w6]
    rw [if_pos (by omega), if_pos (by omega), wrap_succ hi (by omega), rdFr _ i (by omega), List.getElem_map, List.getElem_range]
    dsimp only
    rw [if_pos rfl, if_pos rfl, if_pos rfl, if_pos rfl, if_pos rfl, markText _ (by omega) k hk, Option.bind_some, if_pos rfl]
  · simp only [laws_heldFrameS.l0]
    rw [if_neg (by omega)]
def putLate (l : List Fr) (s : Int) : Bool := match l[l.length - 1]? with
  | some y => decide (s < y.f3)
  | none => false
theorem putLate_eq (l : List Fr) (s : Int) (h : l.length - 1 < l.length) : putLate l s = decide (s < l[l.length - 1].f3) := by
  unfold putLate; rw [List.getElem?_eq_getElem h]
def busPut (l : List Fr) (f : Fr) : List Fr × Int :=
  if (busOk l && frameOk f.f0 f.f1 f.f2 f.f3 f.f4 f.f5 && !putLate l f.f3) = true then (if (l.length : Int) = 60 then (l, 2) else (l ++ [f], 0)) else ([], 1)
theorem busPut_len (l : List Fr) (f : Fr) : (busPut l f).1.length ≤ 61 := by
  unfold busPut
  split
  · rename_i h
    simp only [Bool.and_eq_true] at h
    have := busOk_len h.1.1
    split
    · dsimp only; omega
    · dsimp only; rw [List.length_append, List.length_singleton]; omega
  · decide
theorem sPutJ (l : List Fr) (hb : busOk l = true) (f : Fr) (b : Bool) (k : Nat) (hk : 1 < k) : spec_BusPut.j0 k l (l.length : Int) b f.f0 f.f1 f.f2 f.f3 f.f4 f.f5 = some (if b = true then ([], 1) else if (l.length : Int) = 60 then (l, 2) else (l ++ [f], 0)) := by
  obtain ⟨k, rfl⟩ : ∃ j, k = j + 1 := ⟨k - 1, by omega⟩
  have := busOk_len hb
  simp only [spec_BusPut.j0]
  cases b with
  | true => rw [if_pos rfl, if_pos rfl]
  | false =>
    rw [if_neg (by decide), if_neg (by decide), Option.bind_some, List.length_nil, if_pos (by omega), Option.bind_some, List.nil_append]
    by_cases h : (l.length : Int) = 60
    · rw [if_pos h, if_pos h]
    · rw [if_neg h, if_neg h, if_pos (by omega)]
theorem iPutJ (l : List Fr) (hb : busOk l = true) (f : Fr) (b : Bool) (k : Nat) (hk : 1 < k) : impl_BusPut.j0 k l b f.f0 f.f1 f.f2 f.f3 f.f4 f.f5 = some (if b = true then ([], 1) else if (l.length : Int) = 60 then (l, 2) else (l ++ [f], 0)) := by
  obtain ⟨k, rfl⟩ : ∃ j, k = j + 1 := ⟨k - 1, by omega⟩
  have := busOk_len hb
  have hc : slices_Clone_Frame.f l = some l := by
    unfold slices_Clone_Frame.f
    rw [Option.bind_some, List.length_nil, if_pos (by omega), List.nil_append]
  simp only [impl_BusPut.j0]
  cases b with
  | true => rw [if_pos rfl, if_pos rfl]
  | false =>
    by_cases h : (l.length : Int) = 60
    · rw [if_neg (by decide), if_pos h, hc, Option.bind_some, if_neg (by decide), if_pos h]
    · rw [if_neg (by decide), if_neg h, hc, Option.bind_some, Option.bind_some, List.length_singleton, if_pos (by omega), if_neg (by decide), if_neg h]
theorem putBad (l : List Fr) (f : Fr) (h : (busOk l && frameOk f.f0 f.f1 f.f2 f.f3 f.f4 f.f5) = false) : busPut l f = ([], 1) := by
  unfold busPut; rw [h, Bool.false_and, if_neg (by decide)]
theorem putGood (l : List Fr) (f : Fr) (h : (busOk l && frameOk f.f0 f.f1 f.f2 f.f3 f.f4 f.f5) = true) : busPut l f = if putLate l f.f3 = true then ([], 1) else if (l.length : Int) = 60 then (l, 2) else (l ++ [f], 0) := by
  unfold busPut; rw [h, Bool.true_and]
  cases putLate l f.f3 with
  | true => rw [if_neg (by decide), if_pos rfl]
  | false => rw [if_pos (by decide)]; exact (if_neg (by decide)).symm
theorem sBusPut (l : List Fr) (f : Fr) (hl : l.length ≤ 1048576) (k : Nat) (hk : 1050000 ≤ k) : spec_BusPut.f k l f.f0 f.f1 f.f2 f.f3 f.f4 f.f5 = some (busPut l f) := by
  unfold spec_BusPut.f
  rw [sBusOk l hl k (by omega), Option.bind_some]
  cases h : busOk l with
  | false =>
    rw [if_neg (by decide), putBad l f (by rw [h, Bool.false_and])]
    obtain ⟨k, rfl⟩ : ∃ j, k = j + 1 := ⟨k - 1, by omega⟩
    simp only [spec_BusPut.j0]
    rw [if_pos trivial]
  | true =>
    rw [if_pos rfl, sFrameOk, Option.bind_some]
    cases h2 : frameOk f.f0 f.f1 f.f2 f.f3 f.f4 f.f5 with
    | false =>
      rw [if_neg (by decide), putBad l f (by rw [h, h2]; rfl), sPutJ l h f true k (by omega), if_pos rfl]
    | true =>
      have hb := busOk_len h
      rw [if_pos rfl, putGood l f (by rw [h, h2]; rfl)]
      by_cases h3 : (l.length : Int) > 0
      · have hw : wrap64 ((l.length : Int) - 1) = ((l.length - 1 : Nat) : Int) := by rw [wrap_id (by omega) (by omega)]; omega
        rw [if_pos h3, hw, if_pos (by omega), if_pos (by omega), sPutJ l h f _ k (by omega), rdFr l _ (by omega), putLate_eq l f.f3 (by omega)]
      · rw [if_neg h3, sPutJ l h f _ k (by omega)]
        have hn : putLate l f.f3 = false := by
          unfold putLate; rw [List.getElem?_eq_none (by omega)]
        rw [hn]
theorem iBusPut (l : List Fr) (f : Fr) (hl : l.length ≤ 1048576) (k : Nat) (hk : 1050000 ≤ k) : impl_BusPut.f k l f.f0 f.f1 f.f2 f.f3 f.f4 f.f5 = some (busPut l f) := by
  unfold impl_BusPut.f
  rw [iBusOk l hl k (by omega), Option.bind_some]
  cases h : busOk l with
  | false =>
    rw [if_neg (by decide), putBad l f (by rw [h, Bool.false_and])]
    obtain ⟨k, rfl⟩ : ∃ j, k = j + 1 := ⟨k - 1, by omega⟩
    simp only [impl_BusPut.j0]
    rw [if_pos trivial]
  | true =>
    rw [if_pos rfl, iFrameOk, Option.bind_some]
    cases h2 : frameOk f.f0 f.f1 f.f2 f.f3 f.f4 f.f5 with
    | false =>
      rw [if_neg (by decide), putBad l f (by rw [h, h2]; rfl), iPutJ l h f true k (by omega), if_pos rfl]
    | true =>
      have hb := busOk_len h
      rw [if_pos rfl, putGood l f (by rw [h, h2]; rfl)]
      by_cases h3 : (l.length : Int) > 0
      · have hw : wrap64 ((l.length : Int) - 1) = ((l.length - 1 : Nat) : Int) := by rw [wrap_id (by omega) (by omega)]; omega
        rw [if_pos h3, hw, if_pos (by omega), if_pos (by omega), iPutJ l h f _ k (by omega), rdFr l _ (by omega), putLate_eq l f.f3 (by omega)]
      · rw [if_neg h3, iPutJ l h f _ k (by omega)]
        have hn : putLate l f.f3 = false := by
          unfold putLate; rw [List.getElem?_eq_none (by omega)]
        rw [hn]
end Go.Proofs.Ytjlmfnpgcmmdnaa.C
namespace Go.Proofs.Ytjlmfnpgcmmdnaa.V
open Go.RowKit Go.Proofs.Ytjlmfnpgcmmdnaa.P Go.Proofs.Ytjlmfnpgcmmdnaa.C Go.Proofs.Ytjlmfnpgcmmdnaa.G
theorem FnExactBusPut : ∀ (l0 : List (S52)) (a1_0 : Int) (a1_1 : Int) (a1_2 : Int) (a1_3 : Int) (a1_4 : Int) (a1_5 : ByteArray), (l0.length ≤ 9223372036854775807 ∧ ∀ y ∈ l0, ((Lit.int .i64 y.f0).wf = true ∧ (Lit.int .i64 y.f1).wf = true ∧ (Lit.int .i64 y.f2).wf = true ∧ (Lit.int .i64 y.f3).wf = true ∧ (Lit.int .i64 y.f4).wf = true ∧ y.f5.size ≤ 9223372036854775807)) → (Lit.int .i64 a1_0).wf = true → (Lit.int .i64 a1_1).wf = true → (Lit.int .i64 a1_2).wf = true → (Lit.int .i64 a1_3).wf = true → (Lit.int .i64 a1_4).wf = true → a1_5.size ≤ 9223372036854775807 → ∃ k, laws_FnExactBusPut.f k l0 a1_0 a1_1 a1_2 a1_3 a1_4 a1_5 = some true := by
  intro l b0 b1 b2 b3 b4 b5 ⟨hl, hb⟩ _ _ _ _ _ hs
  refine ⟨2200100, ?_⟩
  unfold laws_FnExactBusPut.f
  obtain ⟨r, h, hr⟩ := szFrameS l hl (fun y hy => (hb y hy).2.2.2.2.2) 1048576 (by omega) 2200100 (by omega)
  rw [h, Option.bind_some]
  by_cases h2 : r < 0
  · rw [if_pos h2]
  rw [if_neg h2]
  have hsz : laws_szFrame.f b0 b1 b2 b3 b4 b5 r = some (if r - (b5.size : Int) < 0 then -1 else r - (b5.size : Int)) := by
    unfold laws_szFrame.f
    rw [wrap_id (by omega) (by omega)]
    split <;> rfl
  rw [hsz, Option.bind_some]
  by_cases h3 : r - (b5.size : Int) < 0
  · rw [if_pos h3, if_pos (by omega)]
  rw [if_neg h3, if_neg h3]
  have hm : (l.map toFr).length = l.length := by simp
  have hq := busPut_len (l.map toFr) ⟨b0, b1, b2, b3, b4, b5⟩
  have hS : ∀ k, 1050000 ≤ k → spec_BusPut.f k (l.map toFr) b0 b1 b2 b3 b4 b5 = some (busPut (l.map toFr) ⟨b0, b1, b2, b3, b4, b5⟩) := fun k hk => sBusPut (l.map toFr) ⟨b0, b1, b2, b3, b4, b5⟩ (by omega) k hk
  have hI : ∀ k, 1050000 ≤ k → impl_BusPut.f k (l.map toFr) b0 b1 b2 b3 b4 b5 = some (busPut (l.map toFr) ⟨b0, b1, b2, b3, b4, b5⟩) := fun k hk => iBusPut (l.map toFr) ⟨b0, b1, b2, b3, b4, b5⟩ (by omega) k hk
  have hT : laws_toFrame.f b0 b1 b2 b3 b4 b5 = some (b0, b1, b2, b3, b4, b5) := rfl
  generalize busPut (l.map toFr) ⟨b0, b1, b2, b3, b4, b5⟩ = q at hq hS hI
  obtain ⟨q0, q1⟩ := q
  dsimp only at hq
  have hne : (q1 != q1) = false := by simp
  have hj2 : ∀ k, 2100000 ≤ k → laws_FnExactBusPut.j2 k ((List.range q0.length).map fun (i : Nat) => (⟨1 + 6 * i, 1 + 6 * i + 1, 1 + 6 * i + 2, 1 + 6 * i + 3, 1 + 6 * i + 4, markT (1 + 6 * i + 5)⟩ : Fr)) (1 + 6 * q0.length) false = some true := by
    intro k hk
    obtain ⟨k, rfl⟩ : ∃ j, k = j + 1 := ⟨k - 1, by omega⟩
    simp only [laws_FnExactBusPut.j2]
    rw [if_neg (by decide), heldFrameS _ (by omega) 1 (by omega) k (by omega), Option.bind_some, if_neg (by omega), if_pos rfl]
  have hj1 : ∀ k, 2100100 ≤ k → laws_FnExactBusPut.j1 k l q0 q1 q0 false b0 b1 b2 b3 b4 b5 = some true := by
    intro k hk
    obtain ⟨k, rfl⟩ : ∃ j, k = j + 1 := ⟨k - 1, by omega⟩
    simp only [laws_FnExactBusPut.j1]
    rw [if_neg (by decide), markFrameS _ (by omega) 1 (by omega) k (by omega), Option.bind_some]
    dsimp only
    rw [heldFrameS _ (by omega) 1 (by omega) k (by omega), Option.bind_some, if_neg (by omega), if_pos rfl, toFrameS l (by omega) k (by omega), Option.bind_some, hT, Option.bind_some]
    dsimp only
    rw [hI k (by omega), Option.bind_some]
    dsimp only
    rw [eqFrameS _ (by omega) k (by omega), Option.bind_some, if_pos rfl, hne]
    exact hj2 k (by omega)
  have hj0 : ∀ k, 2100200 ≤ k → laws_FnExactBusPut.j0 k l q0 q1 (l.map toFr) q0 q1 false b0 b1 b2 b3 b4 b5 = some true := by
    intro k hk
    obtain ⟨k, rfl⟩ : ∃ j, k = j + 1 := ⟨k - 1, by omega⟩
    simp only [laws_FnExactBusPut.j0]
    rw [if_neg (by decide), toFrameS l (by omega) k (by omega), Option.bind_some, eqFrameS _ (by omega) k (by omega), Option.bind_some, if_pos rfl, markFrameS _ (by omega) 1 (by omega) k (by omega), Option.bind_some]
    dsimp only
    rw [if_neg (by omega), eqFrameS _ (by omega) k (by omega), Option.bind_some, if_pos rfl, hne]
    exact hj1 k (by omega)
  rw [toFrameS l (by omega) _ (by omega), Option.bind_some, hT, Option.bind_some]
  dsimp only
  rw [hS _ (by omega), Option.bind_some, Option.bind_some, Option.bind_some]
  dsimp only
  rw [hI _ (by omega), Option.bind_some]
  dsimp only
  rw [eqFrameS _ (by omega) _ (by omega), Option.bind_some, if_pos rfl, hne]
  exact hj0 _ (by omega)
end Go.Proofs.Ytjlmfnpgcmmdnaa.V
namespace Go.Proofs.Ytjlmfnpgcmmdnaa.Args
open Go.ChangeShapes Go.WideShapes Go.Deep Go.Proofs.YtjlmfnpgcmmdnaaW.PrintWords
theorem trod_field {H : Type} {enc : TypeId × Value → H} {P : Program} {w : World} {base : Nat} {spare : Nat → Bool} {held : Bool} {fuel : Nat} {t : TypeId} {cs : List Value} {x : DataW H × List MemPlace} {fs : Array Field}
    (ht : P.underlying t = some (.struct fs)) (h : DataW.trod enc P w base spare held fuel t cs = some x) :
    cs.length = P.cellsOf t ∧ ∀ (i : Nat) (f : Field), fs[i]? = some f → ∃ n y, DataW.trod enc P w base spare held n f.type ((cs.drop f.offset).take (P.cellsOf f.type)) = some y := by
  obtain ⟨xs, n, rfl, _, hl, hx, hf⟩ := DataW.trod_struct ht h
  refine ⟨hl, fun i f hi => ⟨n, ?_⟩⟩
  have hi2 : i < fs.size := by
    rcases Nat.lt_or_ge i fs.size with h' | h'
    · exact h'
    · rw [Array.getElem?_eq_none h'] at hi; cases hi
  obtain ⟨y, hy⟩ : ∃ y, xs[i]? = some y := ⟨_, List.getElem?_eq_getElem (by omega)⟩
  exact ⟨y, by rw [hf i f hi, hy]⟩
theorem trod_at {H : Type} {enc : TypeId × Value → H} {P : Program} {w : World} {base : Nat} {spare : Nat → Bool} {held : Bool} {fuel : Nat} {t : TypeId} {cs : List Value} {x : DataW H × List MemPlace} {fs : Array Field}
    (ht : P.underlying t = some (.struct fs)) (h : DataW.trod enc P w base spare held fuel t cs = some x) (i : Nat) (ft : TypeId) (off sz : Nat) (cs' : List Value)
    (hf : ∃ f, fs[i]? = some f ∧ f.type = ft ∧ f.offset = off) (hw : P.cellsOf ft = sz) (hc : (cs.drop off).take sz = cs') : ∃ n y, DataW.trod enc P w base spare held n ft cs' = some y := by
  obtain ⟨f, h1, rfl, rfl⟩ := hf
  subst hw hc
  exact (trod_field ht h).2 i f h1
def Opens (P : Program) (t : TypeId) {α : Type} (d : Kd α) (B : α → Prop) : Prop :=
  ∀ {H : Type} {enc : TypeId × Value → H} {w : World} {base : Nat} {spare : Nat → Bool} {held : Bool} {fuel : Nat} {cs : List Value} {x : DataW H × List MemPlace},
    DataW.trod enc P w base spare held fuel t cs = some x → ∃ a, d.K w a cs ∧ B a
theorem open_row {H : Type} {enc : TypeId × Value → H} {P : Program} {w : World} {base : Nat} {spare : Nat → Bool} {held : Bool} {fuel : Nat} {t e : TypeId} {c : Value} {x : DataW H × List MemPlace} {α : Type} {d : Kd α} {B : α → Prop} (z : α)
    (ht : P.underlying t = some (.slice e)) (hsz : P.cellsOf e = d.sz) (he : Opens P e d B) (h : DataW.trod enc P w base spare held fuel t [c] = some x) :
    ∃ A cap l, c = .slice A l.length cap ∧ Kd.C d w A l.length l ∧ l.length ≤ cap ∧ l.length ≤ 9223372036854775807 ∧ ∀ y ∈ l, B y := by
  haveI : Inhabited α := ⟨z⟩
  rcases open_slice ht h with ⟨hc, _⟩ | ⟨a, len, cap, m, n, D, Pl, hc, _, hl, hm, hmm, _, hx⟩
  · obtain rfl := List.head_eq_of_cons_eq hc
    exact ⟨none, 0, [], rfl, Kd.C_nil _ _, Nat.le_refl _, by simp, fun y hy => by cases hy⟩
  · obtain rfl := List.head_eq_of_cons_eq hc
    have hlm : len ≤ m := by rw [hmm]; split <;> omega
    obtain ⟨f, hf⟩ := choose_lt (α := α) (n := len) (p := fun i y => (∃ c', c'.length = d.sz ∧ d.K w y c' ∧ ∀ k u, c'[k]? = some u → w.cell? (a.add (i * d.sz + k)) = some u) ∧ B y) (fun i hi => by
      obtain ⟨cs', h1, h2⟩ := hx i (by omega)
      obtain ⟨y, hk, hb⟩ := he h2
      refine ⟨y, ⟨cs', d.K_len hk, hk, fun k u hu => ?_⟩, hb⟩
      obtain ⟨_, hlen, hcell⟩ := World.cells?_some h1
      have hk2 : k < cs'.length := (List.getElem?_eq_some_iff.1 hu).1
      have := hcell k (by omega)
      rw [hsz, Addr.add_add] at this
      rw [this, hu])
    have hmax : len ≤ 9223372036854775807 := by unfold maxLen at hm; omega
    refine ⟨some a, cap, (List.range len).map f, by simp, ⟨by simp, by simpa using hmax, fun _ => ⟨a, rfl, fun j p hj => ?_⟩⟩, by simpa using hl, by simpa using hmax, fun y hy => ?_⟩
    · have hj2 : j < len := by simpa using (List.getElem?_eq_some_iff.1 hj).1
      rw [List.getElem?_map, List.getElem?_range hj2] at hj
      obtain rfl := Option.some.inj hj
      exact (hf j hj2).1
    · obtain ⟨j, hj, rfl⟩ := List.mem_map.1 hy
      exact (hf j (List.mem_range.1 hj)).2
end Go.Proofs.Ytjlmfnpgcmmdnaa.Args
