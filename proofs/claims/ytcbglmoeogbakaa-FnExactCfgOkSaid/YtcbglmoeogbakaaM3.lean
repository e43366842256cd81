/- Texts of the seat's proofs, part 3: functions of the program told as plain functions, with their contracts, and what is shown of them. No condition. -/
import Derived.Test.YtcbglmoeogbakaaU
import Derived.Test.YtcbglmoeogbakaaM1
import Derived.Test.YtcbglmoeogbakaaM2
set_option linter.unusedVariables false
set_option linter.unusedSimpArgs false
namespace Go.Proofs.Ytcbglmoeogbakaa.P
open Go.RowKit Go.Proofs.YtcbglmoeogbakaaW.PrintWords Go.Proofs.YtcbglmoeogbakaaW.PrintLast Go.Proofs.YtcbglmoeogbakaaW.PrintMore
attribute [local go_sem] max2_int min2_int max_two min_two max_three min_three max_four min_four
set_option linter.unusedVariables false
set_option linter.unusedSimpArgs false
def laws_eqSlotS.l0 : Nat → List (S78) → List (S78) → Int → Option (Bool)
  | 0, _, _, _ => none
  | k + 1, x0, x1, x5 => if x5 < (x0.length : Int) then (if 0 ≤ x5 then (if x5 < (x1.length : Int) then ((laws_eqSlot.f ((rd_T78 x0 x5).f0) ((rd_T78 x0 x5).f1) ((rd_T78 x1 x5).f0) ((rd_T78 x1 x5).f1)).bind fun t301 => (if t301 = true then (laws_eqSlotS.l0 k x0 x1 (wrap64 (x5 + 1))) else (some false))) else (none)) else (none)) else (some true)
def laws_eqSlotS.f (k : Nat) (l0 : List (S78)) (l1 : List (S78)) : Option (Bool) := if (l0.length : Int) = (l1.length : Int) then (laws_eqSlotS.l0 k l0 l1 0) else (some false)
theorem laws_eqSlotS.mono_l : ∀ k, (∀ y0 y1 y2, LeO (laws_eqSlotS.l0 k y0 y1 y2) (laws_eqSlotS.l0 (k + 1) y0 y1 y2))
  | 0 => fun _ _ _ r h => by simp [laws_eqSlotS.l0] at h
  | k + 1 => by
    have ih0 := laws_eqSlotS.mono_l k
    · intro y0 y1 y2
      unfold laws_eqSlotS.l0
      repeat' first
      | (with_reducible exact ih0 _ _ _)
      | (with_reducible exact LeO.refl _)
      | (with_reducible exact LeO.none _)
      | (with_reducible refine LeO.ite ?_ ?_)
      | (with_reducible refine LeO.bind ?_ (fun _ => ?_))
      | exact ih0 _ _ _
      | exact LeO.none _
      | refine LeO.ite ?_ ?_
      | refine LeO.bind ?_ (fun _ => ?_)
theorem laws_eqSlotS.mono : ∀ a0 a1 k, LeO (laws_eqSlotS.f k a0 a1) (laws_eqSlotS.f (k + 1) a0 a1) := by
  intro a0 a1 k
  have ih0 := laws_eqSlotS.mono_l k
  unfold laws_eqSlotS.f
  repeat' first
      | (with_reducible exact ih0 _ _ _)
      | (with_reducible exact LeO.refl _)
      | (with_reducible exact LeO.none _)
      | (with_reducible refine LeO.ite ?_ ?_)
      | (with_reducible refine LeO.bind ?_ (fun _ => ?_))
      | exact ih0 _ _ _
      | exact LeO.none _
      | refine LeO.ite ?_ ?_
      | refine LeO.bind ?_ (fun _ => ?_)
def laws_eqSlotS.T6 : Bool × List (List Nat × List Nat) := (true, [([], []), ([], []), ([0, 1], [0, 1]), ([2], [2]), ([], []), ([], []), ([4, 5], [4, 5]), ([6], [6]), ([3, 7], [3, 7]), ([8], [8])])
def laws_eqSlotS.B6 : List Nat := [0, 0, 3, 7, 0, 0, 48, 112, 255, 511]
theorem laws_eqSlotS.tab6 : rtab .any (opsOf Try.f43 6) = laws_eqSlotS.T6 := by kernel_rfl
theorem laws_eqSlotS.bits6 : waitsOk laws_eqSlotS.T6.2 laws_eqSlotS.B6 = true := by kernel_rfl
set_option maxHeartbeats 8000000 in
set_option maxRecDepth 100000 in
theorem laws_eqSlotS.calls (k : Nat) (A0 : Option Addr) (c0 : Nat) (l0 : List (S78)) (A1 : Option Addr) (c1 : Nat) (l1 : List (S78)) (r : Bool) (w : World) (hr0 : Kd.C k78 w A0 l0.length l0) (hc0 : l0.length ≤ c0) (hr1 : Kd.C k78 w A1 l1.length l1) (hc1 : l1.length ≤ c1) (h : laws_eqSlotS.f k l0 l1 = some r) :
    Calls Try.prog 43 #[.slice A0 l0.length c0, .slice A1 l1.length c1] w fun e w' => e = .returned (.bool r) ∧ Below w.heap.size w w' := by
  have hu78 := Try.underlying78
  have HR0 := Aside0.mk hr0
  have HC0 := Aside0.mk hc0
  clear hr0 hc0
  have HR1 := Aside0.mk hr1
  have HC1 := Aside0.mk hc1
  clear hr1 hc1
  have HB := Aside0.mk (Below.refl w.heap.size w)
  have H : (if (l0.length : Int) = (l1.length : Int) then (laws_eqSlotS.l0 k l0 l1 0) else (some false)) = some r := h
  clear h
  by_cases c3 : (l0.length : Int) = (l1.length : Int)
  · rw [if_pos c3] at H
    have c3b0 : ((l0.length : Int) == (l1.length : Int)) = true := beq_iff_eq.mpr c3
    have c3b1 : ((l0.length : Int) != (l1.length : Int)) = false := bne_eq_false_iff_eq.mpr c3
    have c3b2 : (l0.length == l1.length) = true := by first | simpa using c3 | (simp at c3 ⊢; omega)
    clear c3
    have H' := Aside0.mk H
    clear H
    go_enter Try.func43, Try.ntmps43
    go_wp2
    go_loopg [5] k (fun kq v5 w' => ∃ (x5_1 : Int), v5 = .int .i64 x5_1 ∧ Aside0 (laws_eqSlotS.l0 kq l0 l1 x5_1 = some r) ∧ Aside0 (kq ≤ k) ∧ Aside0 (Below w.heap.size w w'))
    case atStart => exact ⟨(0), (by first | rfl | (simp; done) | (simp [*]; done)), H', ⟨Nat.le_refl _⟩, ⟨hb_ HB.out⟩⟩
    case round =>
      clear H'
      try clear c1
      try clear p2
      try clear c3
      try clear c3b0
      try clear c3b1
      try clear c3b2
      obtain ⟨x5_1, rfl, HA, HK1, HB⟩ := hrel
      cases gk with
      | zero => exact absurd HA.out (by simp [laws_eqSlotS.l0])
      | succ k1 =>
        have H := HA.out
        clear HA
        simp only [laws_eqSlotS.l0] at H
        by_cases c4 : x5_1 < (l0.length : Int)
        · rw [if_pos c4] at H
          have c4b0 : decide (x5_1 < (l0.length : Int)) = true := decide_eq_true c4
          clear c4
          by_cases c5 : 0 ≤ x5_1
          · rw [if_pos c5] at H
            have c5b0 : decide (0 ≤ x5_1) = true := decide_eq_true c5
            clear c5
            by_cases c6 : x5_1 < (l1.length : Int)
            · rw [if_pos c6] at H
              have c6b0 : decide (x5_1 < (l1.length : Int)) = true := decide_eq_true c6
              clear c6
              replace H := Option.bind_eq_some_iff.mp H
              obtain ⟨t301, A70, H⟩ := H
              replace H : (if t301 = true then (laws_eqSlotS.l0 k1 l0 l1 (wrap64 (x5_1 + 1))) else (some false)) = some r := H
              have A7 := Aside0.mk A70
              clear A70
              by_cases c8 : t301 = true
              · subst c8
                have H1 : (laws_eqSlotS.l0 k1 l0 l1 (wrap64 (x5_1 + 1))) = some r := by rw [if_pos rfl] at H; exact H
                clear H
                have H := H1
                clear H1
                have H' := Aside0.mk H
                clear H
                try go_wp2
                have n0_ := Aside0.mk (below_drew1 HB.out)
                clear HB
                have HB := n0_
                clear n0_
                have p299 : 0 ≤ (x5_1 : Int) := of_decide_eq_true (by first | (with_reducible assumption) | assumption)
                have q299 : x5_1 < (l0.length : Int) := of_decide_eq_true (by first | (with_reducible assumption) | assumption)
                obtain ⟨ad299, e299, hx299_0, hx299_1⟩ := at_T78 HR0.out x5_1 p299 q299
                have hw299_1 := hx299_1
                have hw299_0 := hx299_0
                cases e299
                replace hx299_0 := (HB.out.cell (World.block_lt_of_cell? w _ hx299_0)).trans hx299_0
                replace hx299_1 := (HB.out.cell (World.block_lt_of_cell? w _ hx299_1)).trans hx299_1
                replace p299 := eq_true p299
                replace q299 := eq_true q299
                have p300 : 0 ≤ (x5_1 : Int) := of_decide_eq_true (by first | (with_reducible assumption) | assumption)
                have q300 : x5_1 < (l1.length : Int) := of_decide_eq_true (by first | (with_reducible assumption) | assumption)
                obtain ⟨ad300, e300, hx300_0, hx300_1⟩ := at_T78 HR1.out x5_1 p300 q300
                have hw300_1 := hx300_1
                have hw300_0 := hx300_0
                cases e300
                replace hx300_0 := (HB.out.cell (World.block_lt_of_cell? w _ hx300_0)).trans hx300_0
                replace hx300_1 := (HB.out.cell (World.block_lt_of_cell? w _ hx300_1)).trans hx300_1
                replace p300 := eq_true p300
                replace q300 := eq_true q300
                refine start_ (n := 10) (S := fun w' => w'.cell? (ad299.add ((x5_1).toNat * 2)) = some (.int .i64 ((rd_T78 l0 x5_1).f0)) ∧ w'.cell? ⟨(ad299.add ((x5_1).toNat * 2)).block, (ad299.add ((x5_1).toNat * 2)).off + 1, none⟩ = some (.int .i64 ((rd_T78 l0 x5_1).f1)) ∧ w'.cell? (ad300.add ((x5_1).toNat * 2)) = some (.int .i64 ((rd_T78 l1 x5_1).f0)) ∧ w'.cell? ⟨(ad300.add ((x5_1).toNat * 2)).block, (ad300.add ((x5_1).toNat * 2)).off + 1, none⟩ = some (.int .i64 ((rd_T78 l1 x5_1).f1))) (ds := []) #[false, false, false, false, false, false, false, false, false, false] (by kernel_rfl) rfl rfl ⟨((HB.out.cell (World.block_lt_of_cell? w _ hw299_0)).trans hw299_0), ((HB.out.cell (World.block_lt_of_cell? w _ hw299_1)).trans hw299_1), ((HB.out.cell (World.block_lt_of_cell? w _ hw300_0)).trans hw300_0), ((HB.out.cell (World.block_lt_of_cell? w _ hw300_1)).trans hw300_1)⟩ (fun hHeld => ?_); refine with_tabW laws_eqSlotS.tab6 laws_eqSlotS.bits6 (fun HT_ HW_ => ?_)
                generalize wr.drew = w9 at HB hx299_0 hx299_1 hx300_0 hx300_1 hHeld ⊢
                refine pure_ (i := 0) (N := some 17) (v := ?_) (a' := ?_) #[true, false, false, false, false, false, false, false, false, false] rfl rfl (any_of HT_.out (by kernel_rfl)) (fun _ _ _ h => h) (Or.inl ⟨by rfl, ?_⟩) ?_ ?_
                rotate_left
                · intro w'
                  go_simp
                  with_reducible rfl
                rotate_left
                · simp only [Act.put, List.setIfInBounds_toArray, List.set_cons_zero, List.set_cons_succ, i64_w, i32_w]
                  rfl
                refine pure_ (i := 1) (N := some 18) (v := ?_) (a' := ?_) #[true, true, false, false, false, false, false, false, false, false] rfl rfl (any_of HT_.out (by kernel_rfl)) (fun _ _ _ h => h) (Or.inl ⟨by rfl, ?_⟩) ?_ ?_
                rotate_left
                · intro w'
                  go_simp
                  with_reducible rfl
                rotate_left
                · simp only [Act.put, List.setIfInBounds_toArray, List.set_cons_zero, List.set_cons_succ, i64_w, i32_w]
                  rfl
                refine pure_ (i := 2) (N := some 19) (v := ?_) (a' := ?_) #[true, true, true, false, false, false, false, false, false, false] rfl rfl (any_of HT_.out (by kernel_rfl)) (fun _ _ _ h => h) (Or.inl ⟨by rfl, ?_⟩) ?_ ?_
                rotate_left
                · intro w'
                  go_simp
                  with_reducible rfl
                rotate_left
                · simp only [Act.put, List.setIfInBounds_toArray, List.set_cons_zero, List.set_cons_succ, i64_w, i32_w]
                  rfl
                refine pure_ (i := 4) (N := some 21) (v := ?_) (a' := ?_) #[true, true, true, false, true, false, false, false, false, false] rfl rfl (any_of HT_.out (by kernel_rfl)) (fun _ _ _ h => h) (Or.inl ⟨by rfl, ?_⟩) ?_ ?_
                rotate_left
                · intro w'
                  go_simp
                  with_reducible rfl
                rotate_left
                · simp only [Act.put, List.setIfInBounds_toArray, List.set_cons_zero, List.set_cons_succ, i64_w, i32_w]
                  rfl
                refine pure_ (i := 5) (N := some 22) (v := ?_) (a' := ?_) #[true, true, true, false, true, true, false, false, false, false] rfl rfl (any_of HT_.out (by kernel_rfl)) (fun _ _ _ h => h) (Or.inl ⟨by rfl, ?_⟩) ?_ ?_
                rotate_left
                · intro w'
                  go_simp
                  with_reducible rfl
                rotate_left
                · simp only [Act.put, List.setIfInBounds_toArray, List.set_cons_zero, List.set_cons_succ, i64_w, i32_w]
                  rfl
                refine pure_ (i := 6) (N := some 23) (v := ?_) (a' := ?_) #[true, true, true, false, true, true, true, false, false, false] rfl rfl (any_of HT_.out (by kernel_rfl)) (fun _ _ _ h => h) (Or.inl ⟨by rfl, ?_⟩) ?_ ?_
                rotate_left
                · intro w'
                  go_simp
                  with_reducible rfl
                rotate_left
                · simp only [Act.put, List.setIfInBounds_toArray, List.set_cons_zero, List.set_cons_succ, i64_w, i32_w]
                  rfl
                refine take_ (i := 3) (N := some 20) (v := ?_) (a' := ?_) #[true, true, true, true, true, true, true, false, false, false] rfl rfl (take_ofW HT_.out HW_.out (by kernel_rfl)) (fun _ _ _ h => h) (Or.inl ⟨by rfl, ?_⟩) hHeld ?_ ?_
                rotate_left
                · rintro w' ⟨s0, s1, s2, s3⟩
                  go_simp
                  with_reducible rfl
                rotate_left
                · simp only [Act.put, List.setIfInBounds_toArray, List.set_cons_zero, List.set_cons_succ, i64_w, i32_w]
                  rfl
                refine take_ (i := 7) (N := some 24) (v := ?_) (a' := ?_) #[true, true, true, true, true, true, true, true, false, false] rfl rfl (take_ofW HT_.out HW_.out (by kernel_rfl)) (fun _ _ _ h => h) (Or.inl ⟨by rfl, ?_⟩) hHeld ?_ ?_
                rotate_left
                · rintro w' ⟨s0, s1, s2, s3⟩
                  go_simp
                  with_reducible rfl
                rotate_left
                · simp only [Act.put, List.setIfInBounds_toArray, List.set_cons_zero, List.set_cons_succ, i64_w, i32_w]
                  rfl
                refine one_ (i := 8) (N := some 25) #[true, true, true, true, true, true, true, true, true, false] rfl rfl (one_of HT_.out (by kernel_rfl)) (by decide) (fun K hK => ?_)
                refine goes_ Try.func81 (by kernel_rfl) rfl #[.agg #[.int .i64 ((rd_T78 l0 x5_1).f0), .int .i64 ((rd_T78 l0 x5_1).f1)], .agg #[.int .i64 ((rd_T78 l1 x5_1).f0), .int .i64 ((rd_T78 l1 x5_1).f1)]] (by rfl) rfl rfl arr_ ?_
                with_reducible refine (laws_eqSlot.calls ((rd_T78 l0 x5_1).f0) ((rd_T78 l0 x5_1).f1) ((rd_T78 l1 x5_1).f0) ((rd_T78 l1 x5_1).f1) true _ A7.out).mono ?_
                rintro e w10 ⟨rfl, hb⟩
                refine ⟨_, rfl, ?_⟩
                have n0_ := Aside0.mk (below_step (hb_ HB.out) hb)
                clear HB
                have HB := n0_
                clear n0_
                (try clear hb)
                (try clear hb2)
                (try clear hk)
                (try clear hi)
                refine hK.out _ _ ⟨((HB.out.cell (World.block_lt_of_cell? w _ hw299_0)).trans hw299_0), ((HB.out.cell (World.block_lt_of_cell? w _ hw299_1)).trans hw299_1), ((HB.out.cell (World.block_lt_of_cell? w _ hw300_0)).trans hw300_0), ((HB.out.cell (World.block_lt_of_cell? w _ hw300_1)).trans hw300_1)⟩ (fun hHeld => ?_)
                clear hK K
                refine norm_ (a' := ?_) ?_ ?_
                rotate_left
                · show Act.put _ (some 25) _ = _
                  simp only [Act.put, List.setIfInBounds_toArray, List.set_cons_zero, List.set_cons_succ, i64_w, i32_w]
                  rfl
                refine pure_ (i := 9) (N := some 26) (v := ?_) (a' := ?_) #[true, true, true, true, true, true, true, true, true, true] rfl rfl (any_of HT_.out (by kernel_rfl)) (fun _ _ _ h => h) (Or.inl ⟨by rfl, ?_⟩) ?_ ?_
                rotate_left
                · intro w'
                  go_simp
                  with_reducible rfl
                rotate_left
                · simp only [Act.put, List.setIfInBounds_toArray, List.set_cons_zero, List.set_cons_succ, i64_w, i32_w]
                  rfl
                refine done_ (done_of HT_.out (by kernel_rfl)) ?_
                try go_wp2
                go_roundg k1
                case measure => have := HK1.out; omega
                case rel => exact ⟨(wrap64 (x5_1 + 1)), (by first | rfl | (simp; done) | (simp [*]; done)), H', ⟨by have := HK1.out; omega⟩, ⟨hb_ HB.out⟩⟩
              · replace c8 := Bool.eq_false_iff.mpr c8
                subst c8
                have H1 : (some false) = some r := by rw [if_neg (show ¬ (false = true) by decide)] at H; exact H
                clear H
                have H := H1
                clear H1
                obtain rfl := Option.some.inj H
                try go_wp2
                have n0_ := Aside0.mk (below_drew1 HB.out)
                clear HB
                have HB := n0_
                clear n0_
                have p299 : 0 ≤ (x5_1 : Int) := of_decide_eq_true (by first | (with_reducible assumption) | assumption)
                have q299 : x5_1 < (l0.length : Int) := of_decide_eq_true (by first | (with_reducible assumption) | assumption)
                obtain ⟨ad299, e299, hx299_0, hx299_1⟩ := at_T78 HR0.out x5_1 p299 q299
                have hw299_1 := hx299_1
                have hw299_0 := hx299_0
                cases e299
                replace hx299_0 := (HB.out.cell (World.block_lt_of_cell? w _ hx299_0)).trans hx299_0
                replace hx299_1 := (HB.out.cell (World.block_lt_of_cell? w _ hx299_1)).trans hx299_1
                replace p299 := eq_true p299
                replace q299 := eq_true q299
                have p300 : 0 ≤ (x5_1 : Int) := of_decide_eq_true (by first | (with_reducible assumption) | assumption)
                have q300 : x5_1 < (l1.length : Int) := of_decide_eq_true (by first | (with_reducible assumption) | assumption)
                obtain ⟨ad300, e300, hx300_0, hx300_1⟩ := at_T78 HR1.out x5_1 p300 q300
                have hw300_1 := hx300_1
                have hw300_0 := hx300_0
                cases e300
                replace hx300_0 := (HB.out.cell (World.block_lt_of_cell? w _ hx300_0)).trans hx300_0
                replace hx300_1 := (HB.out.cell (World.block_lt_of_cell? w _ hx300_1)).trans hx300_1
                replace p300 := eq_true p300
                replace q300 := eq_true q300
                refine start_ (n := 10) (S := fun w' => w'.cell? (ad299.add ((x5_1).toNat * 2)) = some (.int .i64 ((rd_T78 l0 x5_1).f0)) ∧ w'.cell? ⟨(ad299.add ((x5_1).toNat * 2)).block, (ad299.add ((x5_1).toNat * 2)).off + 1, none⟩ = some (.int .i64 ((rd_T78 l0 x5_1).f1)) ∧ w'.cell? (ad300.add ((x5_1).toNat * 2)) = some (.int .i64 ((rd_T78 l1 x5_1).f0)) ∧ w'.cell? ⟨(ad300.add ((x5_1).toNat * 2)).block, (ad300.add ((x5_1).toNat * 2)).off + 1, none⟩ = some (.int .i64 ((rd_T78 l1 x5_1).f1))) (ds := []) #[false, false, false, false, false, false, false, false, false, false] (by kernel_rfl) rfl rfl ⟨((HB.out.cell (World.block_lt_of_cell? w _ hw299_0)).trans hw299_0), ((HB.out.cell (World.block_lt_of_cell? w _ hw299_1)).trans hw299_1), ((HB.out.cell (World.block_lt_of_cell? w _ hw300_0)).trans hw300_0), ((HB.out.cell (World.block_lt_of_cell? w _ hw300_1)).trans hw300_1)⟩ (fun hHeld => ?_); refine with_tabW laws_eqSlotS.tab6 laws_eqSlotS.bits6 (fun HT_ HW_ => ?_)
                generalize wr.drew = w11 at HB hx299_0 hx299_1 hx300_0 hx300_1 hHeld ⊢
                refine pure_ (i := 0) (N := some 17) (v := ?_) (a' := ?_) #[true, false, false, false, false, false, false, false, false, false] rfl rfl (any_of HT_.out (by kernel_rfl)) (fun _ _ _ h => h) (Or.inl ⟨by rfl, ?_⟩) ?_ ?_
                rotate_left
                · intro w'
                  go_simp
                  with_reducible rfl
                rotate_left
                · simp only [Act.put, List.setIfInBounds_toArray, List.set_cons_zero, List.set_cons_succ, i64_w, i32_w]
                  rfl
                refine pure_ (i := 1) (N := some 18) (v := ?_) (a' := ?_) #[true, true, false, false, false, false, false, false, false, false] rfl rfl (any_of HT_.out (by kernel_rfl)) (fun _ _ _ h => h) (Or.inl ⟨by rfl, ?_⟩) ?_ ?_
                rotate_left
                · intro w'
                  go_simp
                  with_reducible rfl
                rotate_left
                · simp only [Act.put, List.setIfInBounds_toArray, List.set_cons_zero, List.set_cons_succ, i64_w, i32_w]
                  rfl
                refine pure_ (i := 2) (N := some 19) (v := ?_) (a' := ?_) #[true, true, true, false, false, false, false, false, false, false] rfl rfl (any_of HT_.out (by kernel_rfl)) (fun _ _ _ h => h) (Or.inl ⟨by rfl, ?_⟩) ?_ ?_
                rotate_left
                · intro w'
                  go_simp
                  with_reducible rfl
                rotate_left
                · simp only [Act.put, List.setIfInBounds_toArray, List.set_cons_zero, List.set_cons_succ, i64_w, i32_w]
                  rfl
                refine pure_ (i := 4) (N := some 21) (v := ?_) (a' := ?_) #[true, true, true, false, true, false, false, false, false, false] rfl rfl (any_of HT_.out (by kernel_rfl)) (fun _ _ _ h => h) (Or.inl ⟨by rfl, ?_⟩) ?_ ?_
                rotate_left
                · intro w'
                  go_simp
                  with_reducible rfl
                rotate_left
                · simp only [Act.put, List.setIfInBounds_toArray, List.set_cons_zero, List.set_cons_succ, i64_w, i32_w]
                  rfl
                refine pure_ (i := 5) (N := some 22) (v := ?_) (a' := ?_) #[true, true, true, false, true, true, false, false, false, false] rfl rfl (any_of HT_.out (by kernel_rfl)) (fun _ _ _ h => h) (Or.inl ⟨by rfl, ?_⟩) ?_ ?_
                rotate_left
                · intro w'
                  go_simp
                  with_reducible rfl
                rotate_left
                · simp only [Act.put, List.setIfInBounds_toArray, List.set_cons_zero, List.set_cons_succ, i64_w, i32_w]
                  rfl
                refine pure_ (i := 6) (N := some 23) (v := ?_) (a' := ?_) #[true, true, true, false, true, true, true, false, false, false] rfl rfl (any_of HT_.out (by kernel_rfl)) (fun _ _ _ h => h) (Or.inl ⟨by rfl, ?_⟩) ?_ ?_
                rotate_left
                · intro w'
                  go_simp
                  with_reducible rfl
                rotate_left
                · simp only [Act.put, List.setIfInBounds_toArray, List.set_cons_zero, List.set_cons_succ, i64_w, i32_w]
                  rfl
                refine take_ (i := 3) (N := some 20) (v := ?_) (a' := ?_) #[true, true, true, true, true, true, true, false, false, false] rfl rfl (take_ofW HT_.out HW_.out (by kernel_rfl)) (fun _ _ _ h => h) (Or.inl ⟨by rfl, ?_⟩) hHeld ?_ ?_
                rotate_left
                · rintro w' ⟨s0, s1, s2, s3⟩
                  go_simp
                  with_reducible rfl
                rotate_left
                · simp only [Act.put, List.setIfInBounds_toArray, List.set_cons_zero, List.set_cons_succ, i64_w, i32_w]
                  rfl
                refine take_ (i := 7) (N := some 24) (v := ?_) (a' := ?_) #[true, true, true, true, true, true, true, true, false, false] rfl rfl (take_ofW HT_.out HW_.out (by kernel_rfl)) (fun _ _ _ h => h) (Or.inl ⟨by rfl, ?_⟩) hHeld ?_ ?_
                rotate_left
                · rintro w' ⟨s0, s1, s2, s3⟩
                  go_simp
                  with_reducible rfl
                rotate_left
                · simp only [Act.put, List.setIfInBounds_toArray, List.set_cons_zero, List.set_cons_succ, i64_w, i32_w]
                  rfl
                refine one_ (i := 8) (N := some 25) #[true, true, true, true, true, true, true, true, true, false] rfl rfl (one_of HT_.out (by kernel_rfl)) (by decide) (fun K hK => ?_)
                refine goes_ Try.func81 (by kernel_rfl) rfl #[.agg #[.int .i64 ((rd_T78 l0 x5_1).f0), .int .i64 ((rd_T78 l0 x5_1).f1)], .agg #[.int .i64 ((rd_T78 l1 x5_1).f0), .int .i64 ((rd_T78 l1 x5_1).f1)]] (by rfl) rfl rfl arr_ ?_
                with_reducible refine (laws_eqSlot.calls ((rd_T78 l0 x5_1).f0) ((rd_T78 l0 x5_1).f1) ((rd_T78 l1 x5_1).f0) ((rd_T78 l1 x5_1).f1) false _ A7.out).mono ?_
                rintro e w12 ⟨rfl, hb⟩
                refine ⟨_, rfl, ?_⟩
                have n0_ := Aside0.mk (below_step (hb_ HB.out) hb)
                clear HB
                have HB := n0_
                clear n0_
                (try clear hb)
                (try clear hb2)
                (try clear hk)
                (try clear hi)
                refine hK.out _ _ ⟨((HB.out.cell (World.block_lt_of_cell? w _ hw299_0)).trans hw299_0), ((HB.out.cell (World.block_lt_of_cell? w _ hw299_1)).trans hw299_1), ((HB.out.cell (World.block_lt_of_cell? w _ hw300_0)).trans hw300_0), ((HB.out.cell (World.block_lt_of_cell? w _ hw300_1)).trans hw300_1)⟩ (fun hHeld => ?_)
                clear hK K
                refine norm_ (a' := ?_) ?_ ?_
                rotate_left
                · show Act.put _ (some 25) _ = _
                  simp only [Act.put, List.setIfInBounds_toArray, List.set_cons_zero, List.set_cons_succ, i64_w, i32_w]
                  rfl
                refine pure_ (i := 9) (N := some 26) (v := ?_) (a' := ?_) #[true, true, true, true, true, true, true, true, true, true] rfl rfl (any_of HT_.out (by kernel_rfl)) (fun _ _ _ h => h) (Or.inl ⟨by rfl, ?_⟩) ?_ ?_
                rotate_left
                · intro w'
                  go_simp
                  with_reducible rfl
                rotate_left
                · simp only [Act.put, List.setIfInBounds_toArray, List.set_cons_zero, List.set_cons_succ, i64_w, i32_w]
                  rfl
                refine done_ (done_of HT_.out (by kernel_rfl)) ?_
                try go_wp2
                go_ret
                exact ⟨er_, hb_ HB.out⟩
            · rw [if_neg c6] at H
              exact absurd H (by simp)
          · rw [if_neg c5] at H
            exact absurd H (by simp)
        · rw [if_neg c4] at H
          have c4b0 : decide (x5_1 < (l0.length : Int)) = false := decide_eq_false c4
          clear c4
          obtain rfl := Option.some.inj H
          go_wp2
          go_ret
          exact ⟨er_, hb_ HB.out⟩
  · rw [if_neg c3] at H
    have c3b0 : ((l0.length : Int) == (l1.length : Int)) = false := beq_eq_false_iff_ne.mpr c3
    have c3b1 : ((l0.length : Int) != (l1.length : Int)) = true := bne_iff_ne.mpr c3
    have c3b2 : (l0.length == l1.length) = false := by first | simpa using c3 | (simp at c3 ⊢; omega)
    obtain rfl := Option.some.inj H
    go_enter Try.func43, Try.ntmps43
    go_wp2
    go_ret
    exact ⟨er_, hb_ HB.out⟩
def laws_eqPlan.f (k : Nat) (a0_0 : Int) (a0_1 : Int) (l0_2 : List (S78)) (a1_0 : Int) (a1_1 : Int) (l1_2 : List (S78)) : Option (Bool) := if a0_0 = a1_0 then (if a0_1 = a1_1 then ((laws_eqSlotS.f k l0_2 l1_2).bind fun t304 => (if t304 = true then (some true) else (some false))) else (some false)) else (some false)
theorem laws_eqPlan.mono : ∀ a0 a1 a2 a3 a4 a5 k, LeO (laws_eqPlan.f k a0 a1 a2 a3 a4 a5) (laws_eqPlan.f (k + 1) a0 a1 a2 a3 a4 a5) := by
  intro a0 a1 a2 a3 a4 a5 k
  unfold laws_eqPlan.f
  repeat' first
      | (with_reducible exact laws_eqSlotS.mono _ _ _)
      | (with_reducible exact LeO.refl _)
      | (with_reducible exact LeO.none _)
      | (with_reducible refine LeO.ite ?_ ?_)
      | (with_reducible refine LeO.bind ?_ (fun _ => ?_))
      | exact laws_eqSlotS.mono _ _ _
      | exact LeO.none _
      | refine LeO.ite ?_ ?_
      | refine LeO.bind ?_ (fun _ => ?_)
set_option maxHeartbeats 8000000 in
set_option maxRecDepth 100000 in
theorem laws_eqPlan.calls (k : Nat) (a0_0 : Int) (a0_1 : Int) (A0_2 : Option Addr) (c0_2 : Nat) (l0_2 : List (S78)) (a1_0 : Int) (a1_1 : Int) (A1_2 : Option Addr) (c1_2 : Nat) (l1_2 : List (S78)) (r : Bool) (w : World) (hr0_2 : Kd.C k78 w A0_2 l0_2.length l0_2) (hc0_2 : l0_2.length ≤ c0_2) (hr1_2 : Kd.C k78 w A1_2 l1_2.length l1_2) (hc1_2 : l1_2.length ≤ c1_2) (h : laws_eqPlan.f k a0_0 a0_1 l0_2 a1_0 a1_1 l1_2 = some r) :
    Calls Try.prog 13 #[.agg #[.int .i64 a0_0, .int .i64 a0_1, .slice A0_2 l0_2.length c0_2], .agg #[.int .i64 a1_0, .int .i64 a1_1, .slice A1_2 l1_2.length c1_2]] w fun e w' => e = .returned (.bool r) ∧ Below w.heap.size w w' := by
  have hu30 := Try.underlying30
  have HR0_2 := Aside0.mk hr0_2
  have HC0_2 := Aside0.mk hc0_2
  clear hr0_2 hc0_2
  have HR1_2 := Aside0.mk hr1_2
  have HC1_2 := Aside0.mk hc1_2
  clear hr1_2 hc1_2
  have HB := Aside0.mk (Below.refl w.heap.size w)
  have H : (if a0_0 = a1_0 then (if a0_1 = a1_1 then ((laws_eqSlotS.f k l0_2 l1_2).bind fun t304 => (if t304 = true then (some true) else (some false))) else (some false)) else (some false)) = some r := h
  clear h
  by_cases c3 : a0_0 = a1_0
  · rw [if_pos c3] at H
    have c3b0 : (a0_0 == a1_0) = true := beq_iff_eq.mpr c3
    have c3b1 : (a0_0 != a1_0) = false := bne_eq_false_iff_eq.mpr c3
    clear c3
    by_cases c4 : a0_1 = a1_1
    · rw [if_pos c4] at H
      have c4b0 : (a0_1 == a1_1) = true := beq_iff_eq.mpr c4
      have c4b1 : (a0_1 != a1_1) = false := bne_eq_false_iff_eq.mpr c4
      clear c4
      replace H := Option.bind_eq_some_iff.mp H
      obtain ⟨t304, A50, H⟩ := H
      replace H : (if t304 = true then (some true) else (some false)) = some r := H
      have A5 := Aside0.mk A50
      clear A50
      by_cases c6 : t304 = true
      · subst c6
        have H1 : (some true) = some r := by rw [if_pos rfl] at H; exact H
        clear H
        have H := H1
        clear H1
        obtain rfl := Option.some.inj H
        go_enter Try.func13, Try.ntmps13
        go_wp2_with (first | ((with_reducible refine gate_dst (N := 2) rfl ?_); refine box_event ?hg (N := 2) ?hd (cs := #[.int .i64 a0_0, .int .i64 a0_1, .slice A0_2 l0_2.length c0_2]) (t := 30) ?hr ?_; (case hd => rfl); (case hg => rfl); (case hr => first | (go_simp; done) | (go_simp; rfl)); intro gb302 hg w7 hbox hb; have n0_ := Aside0.mk (below_step (hb_ HB.out) hb); have n1_ := Aside0.mk (hbox); have n2_ := Aside0.mk ((by rw [hg]; exact (below_size (hb_ HB.out)) : w.heap.size ≤ gb302)); have n3_ := Aside0.mk ((by rw [hg]; exact (below_size (hb_ HB.out)) : w.heap.size ≤ gb302)); clear HB; have HB := n0_; have BK302 := n1_; have GW302 := n2_; have GE302 := n3_; clear n0_ n1_ n2_ n3_; clear hb hbox hg) | ((with_reducible refine gate_dst (N := 3) rfl ?_); refine box_event ?hg (N := 3) ?hd (cs := #[.int .i64 a1_0, .int .i64 a1_1, .slice A1_2 l1_2.length c1_2]) (t := 30) ?hr ?_; (case hd => rfl); (case hg => rfl); (case hr => first | (go_simp; done) | (go_simp; rfl)); intro gb303 hg w8 hbox hb; have n0_ := Aside0.mk (bb_ BK302.out hb); have n1_ := Aside0.mk (below_step (hb1_ HB.out GE302.out) hb); have n2_ := Aside0.mk (hbox); have n3_ := Aside0.mk ((by rw [hg]; exact (below_size (hb1_ HB.out GE302.out)) : w.heap.size ≤ gb303)); have n4_ := Aside0.mk ((by rw [hg]; exact (below_size (hb1_ HB.out GE302.out)) : w.heap.size ≤ gb303)); have n5_ := Aside0.mk ((bl_ hg BK302.out : gb302 ≠ gb303)); have n6_ := Aside0.mk ((bg_ hg BK302.out : gb303 ≠ gb302)); clear BK302; clear HB; have BK302 := n0_; have HB := n1_; have BK303 := n2_; have GW303 := n3_; have GE303 := n4_; have NB302_303 := n5_; have NB303_302 := n6_; clear n0_ n1_ n2_ n3_ n4_ n5_ n6_; clear hb hbox hg; have hnb9 := NB302_303.out; have hnc9 := NB303_302.out; have hcz10_0 := bc_ BK302.out 0 (.int .i64 a0_0) rfl; have hcz10_1 := bc_ BK302.out 1 (.int .i64 a0_1) rfl; have hcz10_2 := bc_ BK302.out 2 (.slice A0_2 l0_2.length c0_2) rfl; have hfz10_0 := blk_frozen BK302.out 0; have hfz10_1 := blk_frozen BK302.out 1; have hfz10_2 := blk_frozen BK302.out 2; have hcz11_0 := bc_ BK303.out 0 (.int .i64 a1_0) rfl; have hcz11_1 := bc_ BK303.out 1 (.int .i64 a1_1) rfl; have hcz11_2 := bc_ BK303.out 2 (.slice A1_2 l1_2.length c1_2) rfl; have hfz11_0 := blk_frozen BK303.out 0; have hfz11_1 := blk_frozen BK303.out 1; have hfz11_2 := blk_frozen BK303.out 2) | ((with_reducible refine gate_callee (f := 43) rfl ?_); refine goesL_ (some 19) rfl rfl Try.func43 (by kernel_rfl) rfl #[.slice A0_2 l0_2.length c0_2, .slice A1_2 l1_2.length c1_2] rfl arr_ ?_; (with_reducible refine (laws_eqSlotS.calls k _ _ l0_2 _ _ l1_2 true _ ?side1 ?side2 ?side3 ?side4 A5.out).mono ?_); (case side1 => exact kc_ (Kd.C_below HR0_2.out HB.out)); (case side2 => exact HC0_2.out); (case side3 => exact kc_ (Kd.C_below HR1_2.out HB.out)); (case side4 => exact HC1_2.out); rintro e w12 ⟨rfl, hb⟩; refine ⟨_, rfl, ?_⟩; have n0_ := Aside0.mk (bb_ BK302.out hb); have n1_ := Aside0.mk (bb_ BK303.out hb); have n2_ := Aside0.mk (below_step (hb2_ HB.out GE302.out GE303.out) hb); clear BK302; clear BK303; clear HB; have BK302 := n0_; have BK303 := n1_; have HB := n2_; clear n0_ n1_ n2_; (try clear hb); (try clear hb2); (try clear hk); (try clear hi)))
        go_ret
        exact ⟨er_, hb2_ HB.out GE302.out GE303.out⟩
      · replace c6 := Bool.eq_false_iff.mpr c6
        subst c6
        have H1 : (some false) = some r := by rw [if_neg (show ¬ (false = true) by decide)] at H; exact H
        clear H
        have H := H1
        clear H1
        obtain rfl := Option.some.inj H
        go_enter Try.func13, Try.ntmps13
        go_wp2_with (first | ((with_reducible refine gate_dst (N := 2) rfl ?_); refine box_event ?hg (N := 2) ?hd (cs := #[.int .i64 a0_0, .int .i64 a0_1, .slice A0_2 l0_2.length c0_2]) (t := 30) ?hr ?_; (case hd => rfl); (case hg => rfl); (case hr => first | (go_simp; done) | (go_simp; rfl)); intro gb302 hg w13 hbox hb; have n0_ := Aside0.mk (below_step (hb_ HB.out) hb); have n1_ := Aside0.mk (hbox); have n2_ := Aside0.mk ((by rw [hg]; exact (below_size (hb_ HB.out)) : w.heap.size ≤ gb302)); have n3_ := Aside0.mk ((by rw [hg]; exact (below_size (hb_ HB.out)) : w.heap.size ≤ gb302)); clear HB; have HB := n0_; have BK302 := n1_; have GW302 := n2_; have GE302 := n3_; clear n0_ n1_ n2_ n3_; clear hb hbox hg) | ((with_reducible refine gate_dst (N := 3) rfl ?_); refine box_event ?hg (N := 3) ?hd (cs := #[.int .i64 a1_0, .int .i64 a1_1, .slice A1_2 l1_2.length c1_2]) (t := 30) ?hr ?_; (case hd => rfl); (case hg => rfl); (case hr => first | (go_simp; done) | (go_simp; rfl)); intro gb303 hg w14 hbox hb; have n0_ := Aside0.mk (bb_ BK302.out hb); have n1_ := Aside0.mk (below_step (hb1_ HB.out GE302.out) hb); have n2_ := Aside0.mk (hbox); have n3_ := Aside0.mk ((by rw [hg]; exact (below_size (hb1_ HB.out GE302.out)) : w.heap.size ≤ gb303)); have n4_ := Aside0.mk ((by rw [hg]; exact (below_size (hb1_ HB.out GE302.out)) : w.heap.size ≤ gb303)); have n5_ := Aside0.mk ((bl_ hg BK302.out : gb302 ≠ gb303)); have n6_ := Aside0.mk ((bg_ hg BK302.out : gb303 ≠ gb302)); clear BK302; clear HB; have BK302 := n0_; have HB := n1_; have BK303 := n2_; have GW303 := n3_; have GE303 := n4_; have NB302_303 := n5_; have NB303_302 := n6_; clear n0_ n1_ n2_ n3_ n4_ n5_ n6_; clear hb hbox hg; have hnb15 := NB302_303.out; have hnc15 := NB303_302.out; have hcz16_0 := bc_ BK302.out 0 (.int .i64 a0_0) rfl; have hcz16_1 := bc_ BK302.out 1 (.int .i64 a0_1) rfl; have hcz16_2 := bc_ BK302.out 2 (.slice A0_2 l0_2.length c0_2) rfl; have hfz16_0 := blk_frozen BK302.out 0; have hfz16_1 := blk_frozen BK302.out 1; have hfz16_2 := blk_frozen BK302.out 2; have hcz17_0 := bc_ BK303.out 0 (.int .i64 a1_0) rfl; have hcz17_1 := bc_ BK303.out 1 (.int .i64 a1_1) rfl; have hcz17_2 := bc_ BK303.out 2 (.slice A1_2 l1_2.length c1_2) rfl; have hfz17_0 := blk_frozen BK303.out 0; have hfz17_1 := blk_frozen BK303.out 1; have hfz17_2 := blk_frozen BK303.out 2) | ((with_reducible refine gate_callee (f := 43) rfl ?_); refine goesL_ (some 19) rfl rfl Try.func43 (by kernel_rfl) rfl #[.slice A0_2 l0_2.length c0_2, .slice A1_2 l1_2.length c1_2] rfl arr_ ?_; (with_reducible refine (laws_eqSlotS.calls k _ _ l0_2 _ _ l1_2 false _ ?side1 ?side2 ?side3 ?side4 A5.out).mono ?_); (case side1 => exact kc_ (Kd.C_below HR0_2.out HB.out)); (case side2 => exact HC0_2.out); (case side3 => exact kc_ (Kd.C_below HR1_2.out HB.out)); (case side4 => exact HC1_2.out); rintro e w18 ⟨rfl, hb⟩; refine ⟨_, rfl, ?_⟩; have n0_ := Aside0.mk (bb_ BK302.out hb); have n1_ := Aside0.mk (bb_ BK303.out hb); have n2_ := Aside0.mk (below_step (hb2_ HB.out GE302.out GE303.out) hb); clear BK302; clear BK303; clear HB; have BK302 := n0_; have BK303 := n1_; have HB := n2_; clear n0_ n1_ n2_; (try clear hb); (try clear hb2); (try clear hk); (try clear hi)))
        go_ret
        exact ⟨er_, hb2_ HB.out GE302.out GE303.out⟩
    · rw [if_neg c4] at H
      have c4b0 : (a0_1 == a1_1) = false := beq_eq_false_iff_ne.mpr c4
      have c4b1 : (a0_1 != a1_1) = true := bne_iff_ne.mpr c4
      obtain rfl := Option.some.inj H
      go_enter Try.func13, Try.ntmps13
      go_wp2_with (first | ((with_reducible refine gate_dst (N := 2) rfl ?_); refine box_event ?hg (N := 2) ?hd (cs := #[.int .i64 a0_0, .int .i64 a0_1, .slice A0_2 l0_2.length c0_2]) (t := 30) ?hr ?_; (case hd => rfl); (case hg => rfl); (case hr => first | (go_simp; done) | (go_simp; rfl)); intro gb302 hg w19 hbox hb; have n0_ := Aside0.mk (below_step (hb_ HB.out) hb); have n1_ := Aside0.mk (hbox); have n2_ := Aside0.mk ((by rw [hg]; exact (below_size (hb_ HB.out)) : w.heap.size ≤ gb302)); have n3_ := Aside0.mk ((by rw [hg]; exact (below_size (hb_ HB.out)) : w.heap.size ≤ gb302)); clear HB; have HB := n0_; have BK302 := n1_; have GW302 := n2_; have GE302 := n3_; clear n0_ n1_ n2_ n3_; clear hb hbox hg) | ((with_reducible refine gate_dst (N := 3) rfl ?_); refine box_event ?hg (N := 3) ?hd (cs := #[.int .i64 a1_0, .int .i64 a1_1, .slice A1_2 l1_2.length c1_2]) (t := 30) ?hr ?_; (case hd => rfl); (case hg => rfl); (case hr => first | (go_simp; done) | (go_simp; rfl)); intro gb303 hg w20 hbox hb; have n0_ := Aside0.mk (bb_ BK302.out hb); have n1_ := Aside0.mk (below_step (hb1_ HB.out GE302.out) hb); have n2_ := Aside0.mk (hbox); have n3_ := Aside0.mk ((by rw [hg]; exact (below_size (hb1_ HB.out GE302.out)) : w.heap.size ≤ gb303)); have n4_ := Aside0.mk ((by rw [hg]; exact (below_size (hb1_ HB.out GE302.out)) : w.heap.size ≤ gb303)); have n5_ := Aside0.mk ((bl_ hg BK302.out : gb302 ≠ gb303)); have n6_ := Aside0.mk ((bg_ hg BK302.out : gb303 ≠ gb302)); clear BK302; clear HB; have BK302 := n0_; have HB := n1_; have BK303 := n2_; have GW303 := n3_; have GE303 := n4_; have NB302_303 := n5_; have NB303_302 := n6_; clear n0_ n1_ n2_ n3_ n4_ n5_ n6_; clear hb hbox hg; have hnb21 := NB302_303.out; have hnc21 := NB303_302.out; have hcz22_0 := bc_ BK302.out 0 (.int .i64 a0_0) rfl; have hcz22_1 := bc_ BK302.out 1 (.int .i64 a0_1) rfl; have hcz22_2 := bc_ BK302.out 2 (.slice A0_2 l0_2.length c0_2) rfl; have hfz22_0 := blk_frozen BK302.out 0; have hfz22_1 := blk_frozen BK302.out 1; have hfz22_2 := blk_frozen BK302.out 2; have hcz23_0 := bc_ BK303.out 0 (.int .i64 a1_0) rfl; have hcz23_1 := bc_ BK303.out 1 (.int .i64 a1_1) rfl; have hcz23_2 := bc_ BK303.out 2 (.slice A1_2 l1_2.length c1_2) rfl; have hfz23_0 := blk_frozen BK303.out 0; have hfz23_1 := blk_frozen BK303.out 1; have hfz23_2 := blk_frozen BK303.out 2))
      go_ret
      exact ⟨er_, hb2_ HB.out GE302.out GE303.out⟩
  · rw [if_neg c3] at H
    have c3b0 : (a0_0 == a1_0) = false := beq_eq_false_iff_ne.mpr c3
    have c3b1 : (a0_0 != a1_0) = true := bne_iff_ne.mpr c3
    obtain rfl := Option.some.inj H
    go_enter Try.func13, Try.ntmps13
    go_wp2_with (first | ((with_reducible refine gate_dst (N := 2) rfl ?_); refine box_event ?hg (N := 2) ?hd (cs := #[.int .i64 a0_0, .int .i64 a0_1, .slice A0_2 l0_2.length c0_2]) (t := 30) ?hr ?_; (case hd => rfl); (case hg => rfl); (case hr => first | (go_simp; done) | (go_simp; rfl)); intro gb302 hg w24 hbox hb; have n0_ := Aside0.mk (below_step (hb_ HB.out) hb); have n1_ := Aside0.mk (hbox); have n2_ := Aside0.mk ((by rw [hg]; exact (below_size (hb_ HB.out)) : w.heap.size ≤ gb302)); have n3_ := Aside0.mk ((by rw [hg]; exact (below_size (hb_ HB.out)) : w.heap.size ≤ gb302)); clear HB; have HB := n0_; have BK302 := n1_; have GW302 := n2_; have GE302 := n3_; clear n0_ n1_ n2_ n3_; clear hb hbox hg) | ((with_reducible refine gate_dst (N := 3) rfl ?_); refine box_event ?hg (N := 3) ?hd (cs := #[.int .i64 a1_0, .int .i64 a1_1, .slice A1_2 l1_2.length c1_2]) (t := 30) ?hr ?_; (case hd => rfl); (case hg => rfl); (case hr => first | (go_simp; done) | (go_simp; rfl)); intro gb303 hg w25 hbox hb; have n0_ := Aside0.mk (bb_ BK302.out hb); have n1_ := Aside0.mk (below_step (hb1_ HB.out GE302.out) hb); have n2_ := Aside0.mk (hbox); have n3_ := Aside0.mk ((by rw [hg]; exact (below_size (hb1_ HB.out GE302.out)) : w.heap.size ≤ gb303)); have n4_ := Aside0.mk ((by rw [hg]; exact (below_size (hb1_ HB.out GE302.out)) : w.heap.size ≤ gb303)); have n5_ := Aside0.mk ((bl_ hg BK302.out : gb302 ≠ gb303)); have n6_ := Aside0.mk ((bg_ hg BK302.out : gb303 ≠ gb302)); clear BK302; clear HB; have BK302 := n0_; have HB := n1_; have BK303 := n2_; have GW303 := n3_; have GE303 := n4_; have NB302_303 := n5_; have NB303_302 := n6_; clear n0_ n1_ n2_ n3_ n4_ n5_ n6_; clear hb hbox hg; have hnb26 := NB302_303.out; have hnc26 := NB303_302.out; have hcz27_0 := bc_ BK302.out 0 (.int .i64 a0_0) rfl; have hcz27_1 := bc_ BK302.out 1 (.int .i64 a0_1) rfl; have hcz27_2 := bc_ BK302.out 2 (.slice A0_2 l0_2.length c0_2) rfl; have hfz27_0 := blk_frozen BK302.out 0; have hfz27_1 := blk_frozen BK302.out 1; have hfz27_2 := blk_frozen BK302.out 2; have hcz28_0 := bc_ BK303.out 0 (.int .i64 a1_0) rfl; have hcz28_1 := bc_ BK303.out 1 (.int .i64 a1_1) rfl; have hcz28_2 := bc_ BK303.out 2 (.slice A1_2 l1_2.length c1_2) rfl; have hfz28_0 := blk_frozen BK303.out 0; have hfz28_1 := blk_frozen BK303.out 1; have hfz28_2 := blk_frozen BK303.out 2))
    go_ret
    exact ⟨er_, hb2_ HB.out GE302.out GE303.out⟩
def laws_eqDrift.f (a0_0 : Int) (a0_1 : Int) (a1_0 : Int) (a1_1 : Int) : Option (Bool) := if a0_0 = a1_0 then (if a0_1 = a1_1 then (some true) else (some false)) else (some false)
set_option maxHeartbeats 8000000 in
set_option maxRecDepth 100000 in
theorem laws_eqDrift.calls (a0_0 : Int) (a0_1 : Int) (a1_0 : Int) (a1_1 : Int) (r : Bool) (w : World) (h : laws_eqDrift.f a0_0 a0_1 a1_0 a1_1 = some r) :
    Calls Try.prog 74 #[.agg #[.int .i64 a0_0, .int .i64 a0_1], .agg #[.int .i64 a1_0, .int .i64 a1_1]] w fun e w' => e = .returned (.bool r) ∧ Below w.heap.size w w' := by
  have hu70 := Try.underlying70
  have HB := Aside0.mk (Below.refl w.heap.size w)
  have H : (if a0_0 = a1_0 then (if a0_1 = a1_1 then (some true) else (some false)) else (some false)) = some r := h
  clear h
  by_cases c3 : a0_0 = a1_0
  · rw [if_pos c3] at H
    have c3b0 : (a0_0 == a1_0) = true := beq_iff_eq.mpr c3
    have c3b1 : (a0_0 != a1_0) = false := bne_eq_false_iff_eq.mpr c3
    clear c3
    by_cases c4 : a0_1 = a1_1
    · rw [if_pos c4] at H
      have c4b0 : (a0_1 == a1_1) = true := beq_iff_eq.mpr c4
      have c4b1 : (a0_1 != a1_1) = false := bne_eq_false_iff_eq.mpr c4
      clear c4
      obtain rfl := Option.some.inj H
      go_enter Try.func74, Try.ntmps74
      go_wp2_with (first | ((with_reducible refine gate_dst (N := 2) rfl ?_); refine box_event ?hg (N := 2) ?hd (cs := #[.int .i64 a0_0, .int .i64 a0_1]) (t := 70) ?hr ?_; (case hd => rfl); (case hg => rfl); (case hr => first | (go_simp; done) | (go_simp; rfl)); intro gb803 hg w5 hbox hb; have n0_ := Aside0.mk (below_step (hb_ HB.out) hb); have n1_ := Aside0.mk (hbox); have n2_ := Aside0.mk ((by rw [hg]; exact (below_size (hb_ HB.out)) : w.heap.size ≤ gb803)); have n3_ := Aside0.mk ((by rw [hg]; exact (below_size (hb_ HB.out)) : w.heap.size ≤ gb803)); clear HB; have HB := n0_; have BK803 := n1_; have GW803 := n2_; have GE803 := n3_; clear n0_ n1_ n2_ n3_; clear hb hbox hg) | ((with_reducible refine gate_dst (N := 3) rfl ?_); refine box_event ?hg (N := 3) ?hd (cs := #[.int .i64 a1_0, .int .i64 a1_1]) (t := 70) ?hr ?_; (case hd => rfl); (case hg => rfl); (case hr => first | (go_simp; done) | (go_simp; rfl)); intro gb804 hg w6 hbox hb; have n0_ := Aside0.mk (bb_ BK803.out hb); have n1_ := Aside0.mk (below_step (hb1_ HB.out GE803.out) hb); have n2_ := Aside0.mk (hbox); have n3_ := Aside0.mk ((by rw [hg]; exact (below_size (hb1_ HB.out GE803.out)) : w.heap.size ≤ gb804)); have n4_ := Aside0.mk ((by rw [hg]; exact (below_size (hb1_ HB.out GE803.out)) : w.heap.size ≤ gb804)); have n5_ := Aside0.mk ((bl_ hg BK803.out : gb803 ≠ gb804)); have n6_ := Aside0.mk ((bg_ hg BK803.out : gb804 ≠ gb803)); clear BK803; clear HB; have BK803 := n0_; have HB := n1_; have BK804 := n2_; have GW804 := n3_; have GE804 := n4_; have NB803_804 := n5_; have NB804_803 := n6_; clear n0_ n1_ n2_ n3_ n4_ n5_ n6_; clear hb hbox hg; have hnb7 := NB803_804.out; have hnc7 := NB804_803.out; have hcz8_0 := bc_ BK803.out 0 (.int .i64 a0_0) rfl; have hcz8_1 := bc_ BK803.out 1 (.int .i64 a0_1) rfl; have hfz8_0 := blk_frozen BK803.out 0; have hfz8_1 := blk_frozen BK803.out 1; have hcz9_0 := bc_ BK804.out 0 (.int .i64 a1_0) rfl; have hcz9_1 := bc_ BK804.out 1 (.int .i64 a1_1) rfl; have hfz9_0 := blk_frozen BK804.out 0; have hfz9_1 := blk_frozen BK804.out 1))
      go_ret
      exact ⟨er_, hb2_ HB.out GE803.out GE804.out⟩
    · rw [if_neg c4] at H
      have c4b0 : (a0_1 == a1_1) = false := beq_eq_false_iff_ne.mpr c4
      have c4b1 : (a0_1 != a1_1) = true := bne_iff_ne.mpr c4
      obtain rfl := Option.some.inj H
      go_enter Try.func74, Try.ntmps74
      go_wp2_with (first | ((with_reducible refine gate_dst (N := 2) rfl ?_); refine box_event ?hg (N := 2) ?hd (cs := #[.int .i64 a0_0, .int .i64 a0_1]) (t := 70) ?hr ?_; (case hd => rfl); (case hg => rfl); (case hr => first | (go_simp; done) | (go_simp; rfl)); intro gb803 hg w10 hbox hb; have n0_ := Aside0.mk (below_step (hb_ HB.out) hb); have n1_ := Aside0.mk (hbox); have n2_ := Aside0.mk ((by rw [hg]; exact (below_size (hb_ HB.out)) : w.heap.size ≤ gb803)); have n3_ := Aside0.mk ((by rw [hg]; exact (below_size (hb_ HB.out)) : w.heap.size ≤ gb803)); clear HB; have HB := n0_; have BK803 := n1_; have GW803 := n2_; have GE803 := n3_; clear n0_ n1_ n2_ n3_; clear hb hbox hg) | ((with_reducible refine gate_dst (N := 3) rfl ?_); refine box_event ?hg (N := 3) ?hd (cs := #[.int .i64 a1_0, .int .i64 a1_1]) (t := 70) ?hr ?_; (case hd => rfl); (case hg => rfl); (case hr => first | (go_simp; done) | (go_simp; rfl)); intro gb804 hg w11 hbox hb; have n0_ := Aside0.mk (bb_ BK803.out hb); have n1_ := Aside0.mk (below_step (hb1_ HB.out GE803.out) hb); have n2_ := Aside0.mk (hbox); have n3_ := Aside0.mk ((by rw [hg]; exact (below_size (hb1_ HB.out GE803.out)) : w.heap.size ≤ gb804)); have n4_ := Aside0.mk ((by rw [hg]; exact (below_size (hb1_ HB.out GE803.out)) : w.heap.size ≤ gb804)); have n5_ := Aside0.mk ((bl_ hg BK803.out : gb803 ≠ gb804)); have n6_ := Aside0.mk ((bg_ hg BK803.out : gb804 ≠ gb803)); clear BK803; clear HB; have BK803 := n0_; have HB := n1_; have BK804 := n2_; have GW804 := n3_; have GE804 := n4_; have NB803_804 := n5_; have NB804_803 := n6_; clear n0_ n1_ n2_ n3_ n4_ n5_ n6_; clear hb hbox hg; have hnb12 := NB803_804.out; have hnc12 := NB804_803.out; have hcz13_0 := bc_ BK803.out 0 (.int .i64 a0_0) rfl; have hcz13_1 := bc_ BK803.out 1 (.int .i64 a0_1) rfl; have hfz13_0 := blk_frozen BK803.out 0; have hfz13_1 := blk_frozen BK803.out 1; have hcz14_0 := bc_ BK804.out 0 (.int .i64 a1_0) rfl; have hcz14_1 := bc_ BK804.out 1 (.int .i64 a1_1) rfl; have hfz14_0 := blk_frozen BK804.out 0; have hfz14_1 := blk_frozen BK804.out 1))
      go_ret
      exact ⟨er_, hb2_ HB.out GE803.out GE804.out⟩
  · rw [if_neg c3] at H
    have c3b0 : (a0_0 == a1_0) = false := beq_eq_false_iff_ne.mpr c3
    have c3b1 : (a0_0 != a1_0) = true := bne_iff_ne.mpr c3
    obtain rfl := Option.some.inj H
    go_enter Try.func74, Try.ntmps74
    go_wp2_with (first | ((with_reducible refine gate_dst (N := 2) rfl ?_); refine box_event ?hg (N := 2) ?hd (cs := #[.int .i64 a0_0, .int .i64 a0_1]) (t := 70) ?hr ?_; (case hd => rfl); (case hg => rfl); (case hr => first | (go_simp; done) | (go_simp; rfl)); intro gb803 hg w15 hbox hb; have n0_ := Aside0.mk (below_step (hb_ HB.out) hb); have n1_ := Aside0.mk (hbox); have n2_ := Aside0.mk ((by rw [hg]; exact (below_size (hb_ HB.out)) : w.heap.size ≤ gb803)); have n3_ := Aside0.mk ((by rw [hg]; exact (below_size (hb_ HB.out)) : w.heap.size ≤ gb803)); clear HB; have HB := n0_; have BK803 := n1_; have GW803 := n2_; have GE803 := n3_; clear n0_ n1_ n2_ n3_; clear hb hbox hg) | ((with_reducible refine gate_dst (N := 3) rfl ?_); refine box_event ?hg (N := 3) ?hd (cs := #[.int .i64 a1_0, .int .i64 a1_1]) (t := 70) ?hr ?_; (case hd => rfl); (case hg => rfl); (case hr => first | (go_simp; done) | (go_simp; rfl)); intro gb804 hg w16 hbox hb; have n0_ := Aside0.mk (bb_ BK803.out hb); have n1_ := Aside0.mk (below_step (hb1_ HB.out GE803.out) hb); have n2_ := Aside0.mk (hbox); have n3_ := Aside0.mk ((by rw [hg]; exact (below_size (hb1_ HB.out GE803.out)) : w.heap.size ≤ gb804)); have n4_ := Aside0.mk ((by rw [hg]; exact (below_size (hb1_ HB.out GE803.out)) : w.heap.size ≤ gb804)); have n5_ := Aside0.mk ((bl_ hg BK803.out : gb803 ≠ gb804)); have n6_ := Aside0.mk ((bg_ hg BK803.out : gb804 ≠ gb803)); clear BK803; clear HB; have BK803 := n0_; have HB := n1_; have BK804 := n2_; have GW804 := n3_; have GE804 := n4_; have NB803_804 := n5_; have NB804_803 := n6_; clear n0_ n1_ n2_ n3_ n4_ n5_ n6_; clear hb hbox hg; have hnb17 := NB803_804.out; have hnc17 := NB804_803.out; have hcz18_0 := bc_ BK803.out 0 (.int .i64 a0_0) rfl; have hcz18_1 := bc_ BK803.out 1 (.int .i64 a0_1) rfl; have hfz18_0 := blk_frozen BK803.out 0; have hfz18_1 := blk_frozen BK803.out 1; have hcz19_0 := bc_ BK804.out 0 (.int .i64 a1_0) rfl; have hcz19_1 := bc_ BK804.out 1 (.int .i64 a1_1) rfl; have hfz19_0 := blk_frozen BK804.out 0; have hfz19_1 := blk_frozen BK804.out 1))
    go_ret
    exact ⟨er_, hb2_ HB.out GE803.out GE804.out⟩
def laws_eqCfg.f (k : Nat) (a0_0 : Int) (a0_1 : Int) (a0_2 : Int) (a0_3 : Int) (a0_4 : Int) (a0_5 : Int) (a0_6 : Int) (a0_7 : Int) (a0_8 : Int) (a0_9 : Int) (l0_10 : List (S78)) (a1_0 : Int) (a1_1 : Int) (a1_2 : Int) (a1_3 : Int) (a1_4 : Int) (a1_5 : Int) (a1_6 : Int) (a1_7 : Int) (a1_8 : Int) (a1_9 : Int) (l1_10 : List (S78)) : Option (Bool) := (laws_eqDrift.f a0_0 a0_1 a1_0 a1_1).bind fun t807 => (if t807 = true then (if a0_2 = a1_2 then (if a0_3 = a1_3 then (if a0_4 = a1_4 then (if a0_5 = a1_5 then (if a0_6 = a1_6 then (if a0_7 = a1_7 then ((laws_eqPlan.f k a0_8 a0_9 l0_10 a1_8 a1_9 l1_10).bind fun t808 => (if t808 = true then (some true) else (some false))) else (some false)) else (some false)) else (some false)) else (some false)) else (some false)) else (some false)) else (some false))
theorem laws_eqCfg.mono : ∀ a0 a1 a2 a3 a4 a5 a6 a7 a8 a9 a10 a11 a12 a13 a14 a15 a16 a17 a18 a19 a20 a21 k, LeO (laws_eqCfg.f k a0 a1 a2 a3 a4 a5 a6 a7 a8 a9 a10 a11 a12 a13 a14 a15 a16 a17 a18 a19 a20 a21) (laws_eqCfg.f (k + 1) a0 a1 a2 a3 a4 a5 a6 a7 a8 a9 a10 a11 a12 a13 a14 a15 a16 a17 a18 a19 a20 a21) := by
  intro a0 a1 a2 a3 a4 a5 a6 a7 a8 a9 a10 a11 a12 a13 a14 a15 a16 a17 a18 a19 a20 a21 k
  unfold laws_eqCfg.f
  repeat' first
      | (with_reducible exact laws_eqPlan.mono _ _ _ _ _ _ _)
      | (with_reducible exact LeO.refl _)
      | (with_reducible exact LeO.none _)
      | (with_reducible refine LeO.ite ?_ ?_)
      | (with_reducible refine LeO.bind ?_ (fun _ => ?_))
      | exact laws_eqPlan.mono _ _ _ _ _ _ _
      | exact LeO.none _
      | refine LeO.ite ?_ ?_
      | refine LeO.bind ?_ (fun _ => ?_)
set_option maxHeartbeats 8000000 in
set_option maxRecDepth 100000 in
theorem laws_eqCfg.calls (k : Nat) (a0_0 : Int) (a0_1 : Int) (a0_2 : Int) (a0_3 : Int) (a0_4 : Int) (a0_5 : Int) (a0_6 : Int) (a0_7 : Int) (a0_8 : Int) (a0_9 : Int) (A0_10 : Option Addr) (c0_10 : Nat) (l0_10 : List (S78)) (a1_0 : Int) (a1_1 : Int) (a1_2 : Int) (a1_3 : Int) (a1_4 : Int) (a1_5 : Int) (a1_6 : Int) (a1_7 : Int) (a1_8 : Int) (a1_9 : Int) (A1_10 : Option Addr) (c1_10 : Nat) (l1_10 : List (S78)) (r : Bool) (w : World) (hr0_10 : Kd.C k78 w A0_10 l0_10.length l0_10) (hc0_10 : l0_10.length ≤ c0_10) (hr1_10 : Kd.C k78 w A1_10 l1_10.length l1_10) (hc1_10 : l1_10.length ≤ c1_10) (h : laws_eqCfg.f k a0_0 a0_1 a0_2 a0_3 a0_4 a0_5 a0_6 a0_7 a0_8 a0_9 l0_10 a1_0 a1_1 a1_2 a1_3 a1_4 a1_5 a1_6 a1_7 a1_8 a1_9 l1_10 = some r) :
    Calls Try.prog 37 #[.agg #[.int .i64 a0_0, .int .i64 a0_1, .int .i64 a0_2, .int .i64 a0_3, .int .i64 a0_4, .int .i64 a0_5, .int .i64 a0_6, .int .i64 a0_7, .int .i64 a0_8, .int .i64 a0_9, .slice A0_10 l0_10.length c0_10], .agg #[.int .i64 a1_0, .int .i64 a1_1, .int .i64 a1_2, .int .i64 a1_3, .int .i64 a1_4, .int .i64 a1_5, .int .i64 a1_6, .int .i64 a1_7, .int .i64 a1_8, .int .i64 a1_9, .slice A1_10 l1_10.length c1_10]] w fun e w' => e = .returned (.bool r) ∧ Below w.heap.size w w' := by
  have hu72 := Try.underlying72
  have hu70 := Try.underlying70
  have hu30 := Try.underlying30
  have HR0_10 := Aside0.mk hr0_10
  have HC0_10 := Aside0.mk hc0_10
  clear hr0_10 hc0_10
  have HR1_10 := Aside0.mk hr1_10
  have HC1_10 := Aside0.mk hc1_10
  clear hr1_10 hc1_10
  have HB := Aside0.mk (Below.refl w.heap.size w)
  have H : ((laws_eqDrift.f a0_0 a0_1 a1_0 a1_1).bind fun t807 => (if t807 = true then (if a0_2 = a1_2 then (if a0_3 = a1_3 then (if a0_4 = a1_4 then (if a0_5 = a1_5 then (if a0_6 = a1_6 then (if a0_7 = a1_7 then ((laws_eqPlan.f k a0_8 a0_9 l0_10 a1_8 a1_9 l1_10).bind fun t808 => (if t808 = true then (some true) else (some false))) else (some false)) else (some false)) else (some false)) else (some false)) else (some false)) else (some false)) else (some false))) = some r := h
  clear h
  replace H := Option.bind_eq_some_iff.mp H
  obtain ⟨t807, A30, H⟩ := H
  replace H : (if t807 = true then (if a0_2 = a1_2 then (if a0_3 = a1_3 then (if a0_4 = a1_4 then (if a0_5 = a1_5 then (if a0_6 = a1_6 then (if a0_7 = a1_7 then ((laws_eqPlan.f k a0_8 a0_9 l0_10 a1_8 a1_9 l1_10).bind fun t808 => (if t808 = true then (some true) else (some false))) else (some false)) else (some false)) else (some false)) else (some false)) else (some false)) else (some false)) else (some false)) = some r := H
  have A3 := Aside0.mk A30
  clear A30
  by_cases c4 : t807 = true
  · subst c4
    have H1 : (if a0_2 = a1_2 then (if a0_3 = a1_3 then (if a0_4 = a1_4 then (if a0_5 = a1_5 then (if a0_6 = a1_6 then (if a0_7 = a1_7 then ((laws_eqPlan.f k a0_8 a0_9 l0_10 a1_8 a1_9 l1_10).bind fun t808 => (if t808 = true then (some true) else (some false))) else (some false)) else (some false)) else (some false)) else (some false)) else (some false)) else (some false)) = some r := by rw [if_pos rfl] at H; exact H
    clear H
    have H := H1
    clear H1
    by_cases c5 : a0_2 = a1_2
    · rw [if_pos c5] at H
      have c5b0 : (a0_2 == a1_2) = true := beq_iff_eq.mpr c5
      have c5b1 : (a0_2 != a1_2) = false := bne_eq_false_iff_eq.mpr c5
      clear c5
      by_cases c6 : a0_3 = a1_3
      · rw [if_pos c6] at H
        have c6b0 : (a0_3 == a1_3) = true := beq_iff_eq.mpr c6
        have c6b1 : (a0_3 != a1_3) = false := bne_eq_false_iff_eq.mpr c6
        clear c6
        by_cases c7 : a0_4 = a1_4
        · rw [if_pos c7] at H
          have c7b0 : (a0_4 == a1_4) = true := beq_iff_eq.mpr c7
          have c7b1 : (a0_4 != a1_4) = false := bne_eq_false_iff_eq.mpr c7
          clear c7
          by_cases c8 : a0_5 = a1_5
          · rw [if_pos c8] at H
            have c8b0 : (a0_5 == a1_5) = true := beq_iff_eq.mpr c8
            have c8b1 : (a0_5 != a1_5) = false := bne_eq_false_iff_eq.mpr c8
            clear c8
            by_cases c9 : a0_6 = a1_6
            · rw [if_pos c9] at H
              have c9b0 : (a0_6 == a1_6) = true := beq_iff_eq.mpr c9
              have c9b1 : (a0_6 != a1_6) = false := bne_eq_false_iff_eq.mpr c9
              clear c9
              by_cases c10 : a0_7 = a1_7
              · rw [if_pos c10] at H
                have c10b0 : (a0_7 == a1_7) = true := beq_iff_eq.mpr c10
                have c10b1 : (a0_7 != a1_7) = false := bne_eq_false_iff_eq.mpr c10
                clear c10
                replace H := Option.bind_eq_some_iff.mp H
                obtain ⟨t808, A110, H⟩ := H
                replace H : (if t808 = true then (some true) else (some false)) = some r := H
                have A11 := Aside0.mk A110
                clear A110
                by_cases c12 : t808 = true
                · subst c12
                  have H1 : (some true) = some r := by rw [if_pos rfl] at H; exact H
                  clear H
                  have H := H1
                  clear H1
                  obtain rfl := Option.some.inj H
                  go_enter Try.func37, Try.ntmps37
                  go_wp2_with (first | ((with_reducible refine gate_dst (N := 2) rfl ?_); refine box_event ?hg (N := 2) ?hd (cs := #[.int .i64 a0_0, .int .i64 a0_1, .int .i64 a0_2, .int .i64 a0_3, .int .i64 a0_4, .int .i64 a0_5, .int .i64 a0_6, .int .i64 a0_7, .int .i64 a0_8, .int .i64 a0_9, .slice A0_10 l0_10.length c0_10]) (t := 72) ?hr ?_; (case hd => rfl); (case hg => rfl); (case hr => first | (go_simp; done) | (go_simp; rfl)); intro gb805 hg w13 hbox hb; have n0_ := Aside0.mk (below_step (hb_ HB.out) hb); have n1_ := Aside0.mk (hbox); have n2_ := Aside0.mk ((by rw [hg]; exact (below_size (hb_ HB.out)) : w.heap.size ≤ gb805)); have n3_ := Aside0.mk ((by rw [hg]; exact (below_size (hb_ HB.out)) : w.heap.size ≤ gb805)); clear HB; have HB := n0_; have BK805 := n1_; have GW805 := n2_; have GE805 := n3_; clear n0_ n1_ n2_ n3_; clear hb hbox hg) | ((with_reducible refine gate_dst (N := 3) rfl ?_); refine box_event ?hg (N := 3) ?hd (cs := #[.int .i64 a1_0, .int .i64 a1_1, .int .i64 a1_2, .int .i64 a1_3, .int .i64 a1_4, .int .i64 a1_5, .int .i64 a1_6, .int .i64 a1_7, .int .i64 a1_8, .int .i64 a1_9, .slice A1_10 l1_10.length c1_10]) (t := 72) ?hr ?_; (case hd => rfl); (case hg => rfl); (case hr => first | (go_simp; done) | (go_simp; rfl)); intro gb806 hg w14 hbox hb; have n0_ := Aside0.mk (bb_ BK805.out hb); have n1_ := Aside0.mk (below_step (hb1_ HB.out GE805.out) hb); have n2_ := Aside0.mk (hbox); have n3_ := Aside0.mk ((by rw [hg]; exact (below_size (hb1_ HB.out GE805.out)) : w.heap.size ≤ gb806)); have n4_ := Aside0.mk ((by rw [hg]; exact (below_size (hb1_ HB.out GE805.out)) : w.heap.size ≤ gb806)); have n5_ := Aside0.mk ((bl_ hg BK805.out : gb805 ≠ gb806)); have n6_ := Aside0.mk ((bg_ hg BK805.out : gb806 ≠ gb805)); clear BK805; clear HB; have BK805 := n0_; have HB := n1_; have BK806 := n2_; have GW806 := n3_; have GE806 := n4_; have NB805_806 := n5_; have NB806_805 := n6_; clear n0_ n1_ n2_ n3_ n4_ n5_ n6_; clear hb hbox hg; have hnb15 := NB805_806.out; have hnc15 := NB806_805.out; have hcz16_0 := bc_ BK805.out 0 (.int .i64 a0_0) rfl; have hcz16_1 := bc_ BK805.out 1 (.int .i64 a0_1) rfl; have hcz16_2 := bc_ BK805.out 2 (.int .i64 a0_2) rfl; have hcz16_3 := bc_ BK805.out 3 (.int .i64 a0_3) rfl; have hcz16_4 := bc_ BK805.out 4 (.int .i64 a0_4) rfl; have hcz16_5 := bc_ BK805.out 5 (.int .i64 a0_5) rfl; have hcz16_6 := bc_ BK805.out 6 (.int .i64 a0_6) rfl; have hcz16_7 := bc_ BK805.out 7 (.int .i64 a0_7) rfl; have hcz16_8 := bc_ BK805.out 8 (.int .i64 a0_8) rfl; have hcz16_9 := bc_ BK805.out 9 (.int .i64 a0_9) rfl; have hcz16_10 := bc_ BK805.out 10 (.slice A0_10 l0_10.length c0_10) rfl; have hfz16_0 := blk_frozen BK805.out 0; have hfz16_1 := blk_frozen BK805.out 1; have hfz16_2 := blk_frozen BK805.out 2; have hfz16_3 := blk_frozen BK805.out 3; have hfz16_4 := blk_frozen BK805.out 4; have hfz16_5 := blk_frozen BK805.out 5; have hfz16_6 := blk_frozen BK805.out 6; have hfz16_7 := blk_frozen BK805.out 7; have hfz16_8 := blk_frozen BK805.out 8; have hfz16_9 := blk_frozen BK805.out 9; have hfz16_10 := blk_frozen BK805.out 10; have hcz17_0 := bc_ BK806.out 0 (.int .i64 a1_0) rfl; have hcz17_1 := bc_ BK806.out 1 (.int .i64 a1_1) rfl; have hcz17_2 := bc_ BK806.out 2 (.int .i64 a1_2) rfl; have hcz17_3 := bc_ BK806.out 3 (.int .i64 a1_3) rfl; have hcz17_4 := bc_ BK806.out 4 (.int .i64 a1_4) rfl; have hcz17_5 := bc_ BK806.out 5 (.int .i64 a1_5) rfl; have hcz17_6 := bc_ BK806.out 6 (.int .i64 a1_6) rfl; have hcz17_7 := bc_ BK806.out 7 (.int .i64 a1_7) rfl; have hcz17_8 := bc_ BK806.out 8 (.int .i64 a1_8) rfl; have hcz17_9 := bc_ BK806.out 9 (.int .i64 a1_9) rfl; have hcz17_10 := bc_ BK806.out 10 (.slice A1_10 l1_10.length c1_10) rfl; have hfz17_0 := blk_frozen BK806.out 0; have hfz17_1 := blk_frozen BK806.out 1; have hfz17_2 := blk_frozen BK806.out 2; have hfz17_3 := blk_frozen BK806.out 3; have hfz17_4 := blk_frozen BK806.out 4; have hfz17_5 := blk_frozen BK806.out 5; have hfz17_6 := blk_frozen BK806.out 6; have hfz17_7 := blk_frozen BK806.out 7; have hfz17_8 := blk_frozen BK806.out 8; have hfz17_9 := blk_frozen BK806.out 9; have hfz17_10 := blk_frozen BK806.out 10) | ((with_reducible refine gate_callee (f := 74) rfl ?_); refine goesL_ (some 9) rfl rfl Try.func74 (by kernel_rfl) rfl #[.agg #[.int .i64 a0_0, .int .i64 a0_1], .agg #[.int .i64 a1_0, .int .i64 a1_1]] rfl arr_ ?_; (with_reducible refine (laws_eqDrift.calls a0_0 a0_1 a1_0 a1_1 true _ A3.out).mono ?_); rintro e w18 ⟨rfl, hb⟩; refine ⟨_, rfl, ?_⟩; have n0_ := Aside0.mk (bb_ BK805.out hb); have n1_ := Aside0.mk (bb_ BK806.out hb); have n2_ := Aside0.mk (below_step (hb2_ HB.out GE805.out GE806.out) hb); clear BK805; clear BK806; clear HB; have BK805 := n0_; have BK806 := n1_; have HB := n2_; clear n0_ n1_ n2_; (try clear hb); (try clear hb2); (try clear hk); (try clear hi); have hcz19_0 := bc_ BK805.out 0 (.int .i64 a0_0) rfl; have hcz19_1 := bc_ BK805.out 1 (.int .i64 a0_1) rfl; have hcz19_2 := bc_ BK805.out 2 (.int .i64 a0_2) rfl; have hcz19_3 := bc_ BK805.out 3 (.int .i64 a0_3) rfl; have hcz19_4 := bc_ BK805.out 4 (.int .i64 a0_4) rfl; have hcz19_5 := bc_ BK805.out 5 (.int .i64 a0_5) rfl; have hcz19_6 := bc_ BK805.out 6 (.int .i64 a0_6) rfl; have hcz19_7 := bc_ BK805.out 7 (.int .i64 a0_7) rfl; have hcz19_8 := bc_ BK805.out 8 (.int .i64 a0_8) rfl; have hcz19_9 := bc_ BK805.out 9 (.int .i64 a0_9) rfl; have hcz19_10 := bc_ BK805.out 10 (.slice A0_10 l0_10.length c0_10) rfl; have hfz19_0 := blk_frozen BK805.out 0; have hfz19_1 := blk_frozen BK805.out 1; have hfz19_2 := blk_frozen BK805.out 2; have hfz19_3 := blk_frozen BK805.out 3; have hfz19_4 := blk_frozen BK805.out 4; have hfz19_5 := blk_frozen BK805.out 5; have hfz19_6 := blk_frozen BK805.out 6; have hfz19_7 := blk_frozen BK805.out 7; have hfz19_8 := blk_frozen BK805.out 8; have hfz19_9 := blk_frozen BK805.out 9; have hfz19_10 := blk_frozen BK805.out 10; have hcz20_0 := bc_ BK806.out 0 (.int .i64 a1_0) rfl; have hcz20_1 := bc_ BK806.out 1 (.int .i64 a1_1) rfl; have hcz20_2 := bc_ BK806.out 2 (.int .i64 a1_2) rfl; have hcz20_3 := bc_ BK806.out 3 (.int .i64 a1_3) rfl; have hcz20_4 := bc_ BK806.out 4 (.int .i64 a1_4) rfl; have hcz20_5 := bc_ BK806.out 5 (.int .i64 a1_5) rfl; have hcz20_6 := bc_ BK806.out 6 (.int .i64 a1_6) rfl; have hcz20_7 := bc_ BK806.out 7 (.int .i64 a1_7) rfl; have hcz20_8 := bc_ BK806.out 8 (.int .i64 a1_8) rfl; have hcz20_9 := bc_ BK806.out 9 (.int .i64 a1_9) rfl; have hcz20_10 := bc_ BK806.out 10 (.slice A1_10 l1_10.length c1_10) rfl; have hfz20_0 := blk_frozen BK806.out 0; have hfz20_1 := blk_frozen BK806.out 1; have hfz20_2 := blk_frozen BK806.out 2; have hfz20_3 := blk_frozen BK806.out 3; have hfz20_4 := blk_frozen BK806.out 4; have hfz20_5 := blk_frozen BK806.out 5; have hfz20_6 := blk_frozen BK806.out 6; have hfz20_7 := blk_frozen BK806.out 7; have hfz20_8 := blk_frozen BK806.out 8; have hfz20_9 := blk_frozen BK806.out 9; have hfz20_10 := blk_frozen BK806.out 10) | ((with_reducible refine gate_callee (f := 13) rfl ?_); refine goesL_ (some 45) rfl rfl Try.func13 (by kernel_rfl) rfl #[.agg #[.int .i64 a0_8, .int .i64 a0_9, .slice A0_10 l0_10.length c0_10], .agg #[.int .i64 a1_8, .int .i64 a1_9, .slice A1_10 l1_10.length c1_10]] rfl arr_ ?_; (with_reducible refine (laws_eqPlan.calls k a0_8 a0_9 _ _ l0_10 a1_8 a1_9 _ _ l1_10 true _ ?side1 ?side2 ?side3 ?side4 A11.out).mono ?_); (case side1 => exact kc_ (Kd.C_below HR0_10.out HB.out)); (case side2 => exact HC0_10.out); (case side3 => exact kc_ (Kd.C_below HR1_10.out HB.out)); (case side4 => exact HC1_10.out); rintro e w21 ⟨rfl, hb⟩; refine ⟨_, rfl, ?_⟩; have n0_ := Aside0.mk (bb_ BK805.out hb); have n1_ := Aside0.mk (bb_ BK806.out hb); have n2_ := Aside0.mk (below_step (hb2_ HB.out GE805.out GE806.out) hb); clear BK805; clear BK806; clear HB; have BK805 := n0_; have BK806 := n1_; have HB := n2_; clear n0_ n1_ n2_; (try clear hb); (try clear hb2); (try clear hk); (try clear hi)))
                  go_ret
                  exact ⟨er_, hb2_ HB.out GE805.out GE806.out⟩
                · replace c12 := Bool.eq_false_iff.mpr c12
                  subst c12
                  have H1 : (some false) = some r := by rw [if_neg (show ¬ (false = true) by decide)] at H; exact H
                  clear H
                  have H := H1
                  clear H1
                  obtain rfl := Option.some.inj H
                  go_enter Try.func37, Try.ntmps37
                  go_wp2_with (first | ((with_reducible refine gate_dst (N := 2) rfl ?_); refine box_event ?hg (N := 2) ?hd (cs := #[.int .i64 a0_0, .int .i64 a0_1, .int .i64 a0_2, .int .i64 a0_3, .int .i64 a0_4, .int .i64 a0_5, .int .i64 a0_6, .int .i64 a0_7, .int .i64 a0_8, .int .i64 a0_9, .slice A0_10 l0_10.length c0_10]) (t := 72) ?hr ?_; (case hd => rfl); (case hg => rfl); (case hr => first | (go_simp; done) | (go_simp; rfl)); intro gb805 hg w22 hbox hb; have n0_ := Aside0.mk (below_step (hb_ HB.out) hb); have n1_ := Aside0.mk (hbox); have n2_ := Aside0.mk ((by rw [hg]; exact (below_size (hb_ HB.out)) : w.heap.size ≤ gb805)); have n3_ := Aside0.mk ((by rw [hg]; exact (below_size (hb_ HB.out)) : w.heap.size ≤ gb805)); clear HB; have HB := n0_; have BK805 := n1_; have GW805 := n2_; have GE805 := n3_; clear n0_ n1_ n2_ n3_; clear hb hbox hg) | ((with_reducible refine gate_dst (N := 3) rfl ?_); refine box_event ?hg (N := 3) ?hd (cs := #[.int .i64 a1_0, .int .i64 a1_1, .int .i64 a1_2, .int .i64 a1_3, .int .i64 a1_4, .int .i64 a1_5, .int .i64 a1_6, .int .i64 a1_7, .int .i64 a1_8, .int .i64 a1_9, .slice A1_10 l1_10.length c1_10]) (t := 72) ?hr ?_; (case hd => rfl); (case hg => rfl); (case hr => first | (go_simp; done) | (go_simp; rfl)); intro gb806 hg w23 hbox hb; have n0_ := Aside0.mk (bb_ BK805.out hb); have n1_ := Aside0.mk (below_step (hb1_ HB.out GE805.out) hb); have n2_ := Aside0.mk (hbox); have n3_ := Aside0.mk ((by rw [hg]; exact (below_size (hb1_ HB.out GE805.out)) : w.heap.size ≤ gb806)); have n4_ := Aside0.mk ((by rw [hg]; exact (below_size (hb1_ HB.out GE805.out)) : w.heap.size ≤ gb806)); have n5_ := Aside0.mk ((bl_ hg BK805.out : gb805 ≠ gb806)); have n6_ := Aside0.mk ((bg_ hg BK805.out : gb806 ≠ gb805)); clear BK805; clear HB; have BK805 := n0_; have HB := n1_; have BK806 := n2_; have GW806 := n3_; have GE806 := n4_; have NB805_806 := n5_; have NB806_805 := n6_; clear n0_ n1_ n2_ n3_ n4_ n5_ n6_; clear hb hbox hg; have hnb24 := NB805_806.out; have hnc24 := NB806_805.out; have hcz25_0 := bc_ BK805.out 0 (.int .i64 a0_0) rfl; have hcz25_1 := bc_ BK805.out 1 (.int .i64 a0_1) rfl; have hcz25_2 := bc_ BK805.out 2 (.int .i64 a0_2) rfl; have hcz25_3 := bc_ BK805.out 3 (.int .i64 a0_3) rfl; have hcz25_4 := bc_ BK805.out 4 (.int .i64 a0_4) rfl; have hcz25_5 := bc_ BK805.out 5 (.int .i64 a0_5) rfl; have hcz25_6 := bc_ BK805.out 6 (.int .i64 a0_6) rfl; have hcz25_7 := bc_ BK805.out 7 (.int .i64 a0_7) rfl; have hcz25_8 := bc_ BK805.out 8 (.int .i64 a0_8) rfl; have hcz25_9 := bc_ BK805.out 9 (.int .i64 a0_9) rfl; have hcz25_10 := bc_ BK805.out 10 (.slice A0_10 l0_10.length c0_10) rfl; have hfz25_0 := blk_frozen BK805.out 0; have hfz25_1 := blk_frozen BK805.out 1; have hfz25_2 := blk_frozen BK805.out 2; have hfz25_3 := blk_frozen BK805.out 3; have hfz25_4 := blk_frozen BK805.out 4; have hfz25_5 := blk_frozen BK805.out 5; have hfz25_6 := blk_frozen BK805.out 6; have hfz25_7 := blk_frozen BK805.out 7; have hfz25_8 := blk_frozen BK805.out 8; have hfz25_9 := blk_frozen BK805.out 9; have hfz25_10 := blk_frozen BK805.out 10; have hcz26_0 := bc_ BK806.out 0 (.int .i64 a1_0) rfl; have hcz26_1 := bc_ BK806.out 1 (.int .i64 a1_1) rfl; have hcz26_2 := bc_ BK806.out 2 (.int .i64 a1_2) rfl; have hcz26_3 := bc_ BK806.out 3 (.int .i64 a1_3) rfl; have hcz26_4 := bc_ BK806.out 4 (.int .i64 a1_4) rfl; have hcz26_5 := bc_ BK806.out 5 (.int .i64 a1_5) rfl; have hcz26_6 := bc_ BK806.out 6 (.int .i64 a1_6) rfl; have hcz26_7 := bc_ BK806.out 7 (.int .i64 a1_7) rfl; have hcz26_8 := bc_ BK806.out 8 (.int .i64 a1_8) rfl; have hcz26_9 := bc_ BK806.out 9 (.int .i64 a1_9) rfl; have hcz26_10 := bc_ BK806.out 10 (.slice A1_10 l1_10.length c1_10) rfl; have hfz26_0 := blk_frozen BK806.out 0; have hfz26_1 := blk_frozen BK806.out 1; have hfz26_2 := blk_frozen BK806.out 2; have hfz26_3 := blk_frozen BK806.out 3; have hfz26_4 := blk_frozen BK806.out 4; have hfz26_5 := blk_frozen BK806.out 5; have hfz26_6 := blk_frozen BK806.out 6; have hfz26_7 := blk_frozen BK806.out 7; have hfz26_8 := blk_frozen BK806.out 8; have hfz26_9 := blk_frozen BK806.out 9; have hfz26_10 := blk_frozen BK806.out 10) | ((with_reducible refine gate_callee (f := 74) rfl ?_); refine goesL_ (some 9) rfl rfl Try.func74 (by kernel_rfl) rfl #[.agg #[.int .i64 a0_0, .int .i64 a0_1], .agg #[.int .i64 a1_0, .int .i64 a1_1]] rfl arr_ ?_; (with_reducible refine (laws_eqDrift.calls a0_0 a0_1 a1_0 a1_1 true _ A3.out).mono ?_); rintro e w27 ⟨rfl, hb⟩; refine ⟨_, rfl, ?_⟩; have n0_ := Aside0.mk (bb_ BK805.out hb); have n1_ := Aside0.mk (bb_ BK806.out hb); have n2_ := Aside0.mk (below_step (hb2_ HB.out GE805.out GE806.out) hb); clear BK805; clear BK806; clear HB; have BK805 := n0_; have BK806 := n1_; have HB := n2_; clear n0_ n1_ n2_; (try clear hb); (try clear hb2); (try clear hk); (try clear hi); have hcz28_0 := bc_ BK805.out 0 (.int .i64 a0_0) rfl; have hcz28_1 := bc_ BK805.out 1 (.int .i64 a0_1) rfl; have hcz28_2 := bc_ BK805.out 2 (.int .i64 a0_2) rfl; have hcz28_3 := bc_ BK805.out 3 (.int .i64 a0_3) rfl; have hcz28_4 := bc_ BK805.out 4 (.int .i64 a0_4) rfl; have hcz28_5 := bc_ BK805.out 5 (.int .i64 a0_5) rfl; have hcz28_6 := bc_ BK805.out 6 (.int .i64 a0_6) rfl; have hcz28_7 := bc_ BK805.out 7 (.int .i64 a0_7) rfl; have hcz28_8 := bc_ BK805.out 8 (.int .i64 a0_8) rfl; have hcz28_9 := bc_ BK805.out 9 (.int .i64 a0_9) rfl; have hcz28_10 := bc_ BK805.out 10 (.slice A0_10 l0_10.length c0_10) rfl; have hfz28_0 := blk_frozen BK805.out 0; have hfz28_1 := blk_frozen BK805.out 1; have hfz28_2 := blk_frozen BK805.out 2; have hfz28_3 := blk_frozen BK805.out 3; have hfz28_4 := blk_frozen BK805.out 4; have hfz28_5 := blk_frozen BK805.out 5; have hfz28_6 := blk_frozen BK805.out 6; have hfz28_7 := blk_frozen BK805.out 7; have hfz28_8 := blk_frozen BK805.out 8; have hfz28_9 := blk_frozen BK805.out 9; have hfz28_10 := blk_frozen BK805.out 10; have hcz29_0 := bc_ BK806.out 0 (.int .i64 a1_0) rfl; have hcz29_1 := bc_ BK806.out 1 (.int .i64 a1_1) rfl; have hcz29_2 := bc_ BK806.out 2 (.int .i64 a1_2) rfl; have hcz29_3 := bc_ BK806.out 3 (.int .i64 a1_3) rfl; have hcz29_4 := bc_ BK806.out 4 (.int .i64 a1_4) rfl; have hcz29_5 := bc_ BK806.out 5 (.int .i64 a1_5) rfl; have hcz29_6 := bc_ BK806.out 6 (.int .i64 a1_6) rfl; have hcz29_7 := bc_ BK806.out 7 (.int .i64 a1_7) rfl; have hcz29_8 := bc_ BK806.out 8 (.int .i64 a1_8) rfl; have hcz29_9 := bc_ BK806.out 9 (.int .i64 a1_9) rfl; have hcz29_10 := bc_ BK806.out 10 (.slice A1_10 l1_10.length c1_10) rfl; have hfz29_0 := blk_frozen BK806.out 0; have hfz29_1 := blk_frozen BK806.out 1; have hfz29_2 := blk_frozen BK806.out 2; have hfz29_3 := blk_frozen BK806.out 3; have hfz29_4 := blk_frozen BK806.out 4; have hfz29_5 := blk_frozen BK806.out 5; have hfz29_6 := blk_frozen BK806.out 6; have hfz29_7 := blk_frozen BK806.out 7; have hfz29_8 := blk_frozen BK806.out 8; have hfz29_9 := blk_frozen BK806.out 9; have hfz29_10 := blk_frozen BK806.out 10) | ((with_reducible refine gate_callee (f := 13) rfl ?_); refine goesL_ (some 45) rfl rfl Try.func13 (by kernel_rfl) rfl #[.agg #[.int .i64 a0_8, .int .i64 a0_9, .slice A0_10 l0_10.length c0_10], .agg #[.int .i64 a1_8, .int .i64 a1_9, .slice A1_10 l1_10.length c1_10]] rfl arr_ ?_; (with_reducible refine (laws_eqPlan.calls k a0_8 a0_9 _ _ l0_10 a1_8 a1_9 _ _ l1_10 false _ ?side1 ?side2 ?side3 ?side4 A11.out).mono ?_); (case side1 => exact kc_ (Kd.C_below HR0_10.out HB.out)); (case side2 => exact HC0_10.out); (case side3 => exact kc_ (Kd.C_below HR1_10.out HB.out)); (case side4 => exact HC1_10.out); rintro e w30 ⟨rfl, hb⟩; refine ⟨_, rfl, ?_⟩; have n0_ := Aside0.mk (bb_ BK805.out hb); have n1_ := Aside0.mk (bb_ BK806.out hb); have n2_ := Aside0.mk (below_step (hb2_ HB.out GE805.out GE806.out) hb); clear BK805; clear BK806; clear HB; have BK805 := n0_; have BK806 := n1_; have HB := n2_; clear n0_ n1_ n2_; (try clear hb); (try clear hb2); (try clear hk); (try clear hi)))
                  go_ret
                  exact ⟨er_, hb2_ HB.out GE805.out GE806.out⟩
              · rw [if_neg c10] at H
                have c10b0 : (a0_7 == a1_7) = false := beq_eq_false_iff_ne.mpr c10
                have c10b1 : (a0_7 != a1_7) = true := bne_iff_ne.mpr c10
                obtain rfl := Option.some.inj H
                go_enter Try.func37, Try.ntmps37
                go_wp2_with (first | ((with_reducible refine gate_dst (N := 2) rfl ?_); refine box_event ?hg (N := 2) ?hd (cs := #[.int .i64 a0_0, .int .i64 a0_1, .int .i64 a0_2, .int .i64 a0_3, .int .i64 a0_4, .int .i64 a0_5, .int .i64 a0_6, .int .i64 a0_7, .int .i64 a0_8, .int .i64 a0_9, .slice A0_10 l0_10.length c0_10]) (t := 72) ?hr ?_; (case hd => rfl); (case hg => rfl); (case hr => first | (go_simp; done) | (go_simp; rfl)); intro gb805 hg w31 hbox hb; have n0_ := Aside0.mk (below_step (hb_ HB.out) hb); have n1_ := Aside0.mk (hbox); have n2_ := Aside0.mk ((by rw [hg]; exact (below_size (hb_ HB.out)) : w.heap.size ≤ gb805)); have n3_ := Aside0.mk ((by rw [hg]; exact (below_size (hb_ HB.out)) : w.heap.size ≤ gb805)); clear HB; have HB := n0_; have BK805 := n1_; have GW805 := n2_; have GE805 := n3_; clear n0_ n1_ n2_ n3_; clear hb hbox hg) | ((with_reducible refine gate_dst (N := 3) rfl ?_); refine box_event ?hg (N := 3) ?hd (cs := #[.int .i64 a1_0, .int .i64 a1_1, .int .i64 a1_2, .int .i64 a1_3, .int .i64 a1_4, .int .i64 a1_5, .int .i64 a1_6, .int .i64 a1_7, .int .i64 a1_8, .int .i64 a1_9, .slice A1_10 l1_10.length c1_10]) (t := 72) ?hr ?_; (case hd => rfl); (case hg => rfl); (case hr => first | (go_simp; done) | (go_simp; rfl)); intro gb806 hg w32 hbox hb; have n0_ := Aside0.mk (bb_ BK805.out hb); have n1_ := Aside0.mk (below_step (hb1_ HB.out GE805.out) hb); have n2_ := Aside0.mk (hbox); have n3_ := Aside0.mk ((by rw [hg]; exact (below_size (hb1_ HB.out GE805.out)) : w.heap.size ≤ gb806)); have n4_ := Aside0.mk ((by rw [hg]; exact (below_size (hb1_ HB.out GE805.out)) : w.heap.size ≤ gb806)); have n5_ := Aside0.mk ((bl_ hg BK805.out : gb805 ≠ gb806)); have n6_ := Aside0.mk ((bg_ hg BK805.out : gb806 ≠ gb805)); clear BK805; clear HB; have BK805 := n0_; have HB := n1_; have BK806 := n2_; have GW806 := n3_; have GE806 := n4_; have NB805_806 := n5_; have NB806_805 := n6_; clear n0_ n1_ n2_ n3_ n4_ n5_ n6_; clear hb hbox hg; have hnb33 := NB805_806.out; have hnc33 := NB806_805.out; have hcz34_0 := bc_ BK805.out 0 (.int .i64 a0_0) rfl; have hcz34_1 := bc_ BK805.out 1 (.int .i64 a0_1) rfl; have hcz34_2 := bc_ BK805.out 2 (.int .i64 a0_2) rfl; have hcz34_3 := bc_ BK805.out 3 (.int .i64 a0_3) rfl; have hcz34_4 := bc_ BK805.out 4 (.int .i64 a0_4) rfl; have hcz34_5 := bc_ BK805.out 5 (.int .i64 a0_5) rfl; have hcz34_6 := bc_ BK805.out 6 (.int .i64 a0_6) rfl; have hcz34_7 := bc_ BK805.out 7 (.int .i64 a0_7) rfl; have hcz34_8 := bc_ BK805.out 8 (.int .i64 a0_8) rfl; have hcz34_9 := bc_ BK805.out 9 (.int .i64 a0_9) rfl; have hcz34_10 := bc_ BK805.out 10 (.slice A0_10 l0_10.length c0_10) rfl; have hfz34_0 := blk_frozen BK805.out 0; have hfz34_1 := blk_frozen BK805.out 1; have hfz34_2 := blk_frozen BK805.out 2; have hfz34_3 := blk_frozen BK805.out 3; have hfz34_4 := blk_frozen BK805.out 4; have hfz34_5 := blk_frozen BK805.out 5; have hfz34_6 := blk_frozen BK805.out 6; have hfz34_7 := blk_frozen BK805.out 7; have hfz34_8 := blk_frozen BK805.out 8; have hfz34_9 := blk_frozen BK805.out 9; have hfz34_10 := blk_frozen BK805.out 10; have hcz35_0 := bc_ BK806.out 0 (.int .i64 a1_0) rfl; have hcz35_1 := bc_ BK806.out 1 (.int .i64 a1_1) rfl; have hcz35_2 := bc_ BK806.out 2 (.int .i64 a1_2) rfl; have hcz35_3 := bc_ BK806.out 3 (.int .i64 a1_3) rfl; have hcz35_4 := bc_ BK806.out 4 (.int .i64 a1_4) rfl; have hcz35_5 := bc_ BK806.out 5 (.int .i64 a1_5) rfl; have hcz35_6 := bc_ BK806.out 6 (.int .i64 a1_6) rfl; have hcz35_7 := bc_ BK806.out 7 (.int .i64 a1_7) rfl; have hcz35_8 := bc_ BK806.out 8 (.int .i64 a1_8) rfl; have hcz35_9 := bc_ BK806.out 9 (.int .i64 a1_9) rfl; have hcz35_10 := bc_ BK806.out 10 (.slice A1_10 l1_10.length c1_10) rfl; have hfz35_0 := blk_frozen BK806.out 0; have hfz35_1 := blk_frozen BK806.out 1; have hfz35_2 := blk_frozen BK806.out 2; have hfz35_3 := blk_frozen BK806.out 3; have hfz35_4 := blk_frozen BK806.out 4; have hfz35_5 := blk_frozen BK806.out 5; have hfz35_6 := blk_frozen BK806.out 6; have hfz35_7 := blk_frozen BK806.out 7; have hfz35_8 := blk_frozen BK806.out 8; have hfz35_9 := blk_frozen BK806.out 9; have hfz35_10 := blk_frozen BK806.out 10) | ((with_reducible refine gate_callee (f := 74) rfl ?_); refine goesL_ (some 9) rfl rfl Try.func74 (by kernel_rfl) rfl #[.agg #[.int .i64 a0_0, .int .i64 a0_1], .agg #[.int .i64 a1_0, .int .i64 a1_1]] rfl arr_ ?_; (with_reducible refine (laws_eqDrift.calls a0_0 a0_1 a1_0 a1_1 true _ A3.out).mono ?_); rintro e w36 ⟨rfl, hb⟩; refine ⟨_, rfl, ?_⟩; have n0_ := Aside0.mk (bb_ BK805.out hb); have n1_ := Aside0.mk (bb_ BK806.out hb); have n2_ := Aside0.mk (below_step (hb2_ HB.out GE805.out GE806.out) hb); clear BK805; clear BK806; clear HB; have BK805 := n0_; have BK806 := n1_; have HB := n2_; clear n0_ n1_ n2_; (try clear hb); (try clear hb2); (try clear hk); (try clear hi); have hcz37_0 := bc_ BK805.out 0 (.int .i64 a0_0) rfl; have hcz37_1 := bc_ BK805.out 1 (.int .i64 a0_1) rfl; have hcz37_2 := bc_ BK805.out 2 (.int .i64 a0_2) rfl; have hcz37_3 := bc_ BK805.out 3 (.int .i64 a0_3) rfl; have hcz37_4 := bc_ BK805.out 4 (.int .i64 a0_4) rfl; have hcz37_5 := bc_ BK805.out 5 (.int .i64 a0_5) rfl; have hcz37_6 := bc_ BK805.out 6 (.int .i64 a0_6) rfl; have hcz37_7 := bc_ BK805.out 7 (.int .i64 a0_7) rfl; have hcz37_8 := bc_ BK805.out 8 (.int .i64 a0_8) rfl; have hcz37_9 := bc_ BK805.out 9 (.int .i64 a0_9) rfl; have hcz37_10 := bc_ BK805.out 10 (.slice A0_10 l0_10.length c0_10) rfl; have hfz37_0 := blk_frozen BK805.out 0; have hfz37_1 := blk_frozen BK805.out 1; have hfz37_2 := blk_frozen BK805.out 2; have hfz37_3 := blk_frozen BK805.out 3; have hfz37_4 := blk_frozen BK805.out 4; have hfz37_5 := blk_frozen BK805.out 5; have hfz37_6 := blk_frozen BK805.out 6; have hfz37_7 := blk_frozen BK805.out 7; have hfz37_8 := blk_frozen BK805.out 8; have hfz37_9 := blk_frozen BK805.out 9; have hfz37_10 := blk_frozen BK805.out 10; have hcz38_0 := bc_ BK806.out 0 (.int .i64 a1_0) rfl; have hcz38_1 := bc_ BK806.out 1 (.int .i64 a1_1) rfl; have hcz38_2 := bc_ BK806.out 2 (.int .i64 a1_2) rfl; have hcz38_3 := bc_ BK806.out 3 (.int .i64 a1_3) rfl; have hcz38_4 := bc_ BK806.out 4 (.int .i64 a1_4) rfl; have hcz38_5 := bc_ BK806.out 5 (.int .i64 a1_5) rfl; have hcz38_6 := bc_ BK806.out 6 (.int .i64 a1_6) rfl; have hcz38_7 := bc_ BK806.out 7 (.int .i64 a1_7) rfl; have hcz38_8 := bc_ BK806.out 8 (.int .i64 a1_8) rfl; have hcz38_9 := bc_ BK806.out 9 (.int .i64 a1_9) rfl; have hcz38_10 := bc_ BK806.out 10 (.slice A1_10 l1_10.length c1_10) rfl; have hfz38_0 := blk_frozen BK806.out 0; have hfz38_1 := blk_frozen BK806.out 1; have hfz38_2 := blk_frozen BK806.out 2; have hfz38_3 := blk_frozen BK806.out 3; have hfz38_4 := blk_frozen BK806.out 4; have hfz38_5 := blk_frozen BK806.out 5; have hfz38_6 := blk_frozen BK806.out 6; have hfz38_7 := blk_frozen BK806.out 7; have hfz38_8 := blk_frozen BK806.out 8; have hfz38_9 := blk_frozen BK806.out 9; have hfz38_10 := blk_frozen BK806.out 10))
                go_ret
                exact ⟨er_, hb2_ HB.out GE805.out GE806.out⟩
            · rw [if_neg c9] at H
              have c9b0 : (a0_6 == a1_6) = false := beq_eq_false_iff_ne.mpr c9
              have c9b1 : (a0_6 != a1_6) = true := bne_iff_ne.mpr c9
              obtain rfl := Option.some.inj H
              go_enter Try.func37, Try.ntmps37
              go_wp2_with (first | ((with_reducible refine gate_dst (N := 2) rfl ?_); refine box_event ?hg (N := 2) ?hd (cs := #[.int .i64 a0_0, .int .i64 a0_1, .int .i64 a0_2, .int .i64 a0_3, .int .i64 a0_4, .int .i64 a0_5, .int .i64 a0_6, .int .i64 a0_7, .int .i64 a0_8, .int .i64 a0_9, .slice A0_10 l0_10.length c0_10]) (t := 72) ?hr ?_; (case hd => rfl); (case hg => rfl); (case hr => first | (go_simp; done) | (go_simp; rfl)); intro gb805 hg w39 hbox hb; have n0_ := Aside0.mk (below_step (hb_ HB.out) hb); have n1_ := Aside0.mk (hbox); have n2_ := Aside0.mk ((by rw [hg]; exact (below_size (hb_ HB.out)) : w.heap.size ≤ gb805)); have n3_ := Aside0.mk ((by rw [hg]; exact (below_size (hb_ HB.out)) : w.heap.size ≤ gb805)); clear HB; have HB := n0_; have BK805 := n1_; have GW805 := n2_; have GE805 := n3_; clear n0_ n1_ n2_ n3_; clear hb hbox hg) | ((with_reducible refine gate_dst (N := 3) rfl ?_); refine box_event ?hg (N := 3) ?hd (cs := #[.int .i64 a1_0, .int .i64 a1_1, .int .i64 a1_2, .int .i64 a1_3, .int .i64 a1_4, .int .i64 a1_5, .int .i64 a1_6, .int .i64 a1_7, .int .i64 a1_8, .int .i64 a1_9, .slice A1_10 l1_10.length c1_10]) (t := 72) ?hr ?_; (case hd => rfl); (case hg => rfl); (case hr => first | (go_simp; done) | (go_simp; rfl)); intro gb806 hg w40 hbox hb; have n0_ := Aside0.mk (bb_ BK805.out hb); have n1_ := Aside0.mk (below_step (hb1_ HB.out GE805.out) hb); have n2_ := Aside0.mk (hbox); have n3_ := Aside0.mk ((by rw [hg]; exact (below_size (hb1_ HB.out GE805.out)) : w.heap.size ≤ gb806)); have n4_ := Aside0.mk ((by rw [hg]; exact (below_size (hb1_ HB.out GE805.out)) : w.heap.size ≤ gb806)); have n5_ := Aside0.mk ((bl_ hg BK805.out : gb805 ≠ gb806)); have n6_ := Aside0.mk ((bg_ hg BK805.out : gb806 ≠ gb805)); clear BK805; clear HB; have BK805 := n0_; have HB := n1_; have BK806 := n2_; have GW806 := n3_; have GE806 := n4_; have NB805_806 := n5_; have NB806_805 := n6_; clear n0_ n1_ n2_ n3_ n4_ n5_ n6_; clear hb hbox hg; have hnb41 := NB805_806.out; have hnc41 := NB806_805.out; have hcz42_0 := bc_ BK805.out 0 (.int .i64 a0_0) rfl; have hcz42_1 := bc_ BK805.out 1 (.int .i64 a0_1) rfl; have hcz42_2 := bc_ BK805.out 2 (.int .i64 a0_2) rfl; have hcz42_3 := bc_ BK805.out 3 (.int .i64 a0_3) rfl; have hcz42_4 := bc_ BK805.out 4 (.int .i64 a0_4) rfl; have hcz42_5 := bc_ BK805.out 5 (.int .i64 a0_5) rfl; have hcz42_6 := bc_ BK805.out 6 (.int .i64 a0_6) rfl; have hcz42_7 := bc_ BK805.out 7 (.int .i64 a0_7) rfl; have hcz42_8 := bc_ BK805.out 8 (.int .i64 a0_8) rfl; have hcz42_9 := bc_ BK805.out 9 (.int .i64 a0_9) rfl; have hcz42_10 := bc_ BK805.out 10 (.slice A0_10 l0_10.length c0_10) rfl; have hfz42_0 := blk_frozen BK805.out 0; have hfz42_1 := blk_frozen BK805.out 1; have hfz42_2 := blk_frozen BK805.out 2; have hfz42_3 := blk_frozen BK805.out 3; have hfz42_4 := blk_frozen BK805.out 4; have hfz42_5 := blk_frozen BK805.out 5; have hfz42_6 := blk_frozen BK805.out 6; have hfz42_7 := blk_frozen BK805.out 7; have hfz42_8 := blk_frozen BK805.out 8; have hfz42_9 := blk_frozen BK805.out 9; have hfz42_10 := blk_frozen BK805.out 10; have hcz43_0 := bc_ BK806.out 0 (.int .i64 a1_0) rfl; have hcz43_1 := bc_ BK806.out 1 (.int .i64 a1_1) rfl; have hcz43_2 := bc_ BK806.out 2 (.int .i64 a1_2) rfl; have hcz43_3 := bc_ BK806.out 3 (.int .i64 a1_3) rfl; have hcz43_4 := bc_ BK806.out 4 (.int .i64 a1_4) rfl; have hcz43_5 := bc_ BK806.out 5 (.int .i64 a1_5) rfl; have hcz43_6 := bc_ BK806.out 6 (.int .i64 a1_6) rfl; have hcz43_7 := bc_ BK806.out 7 (.int .i64 a1_7) rfl; have hcz43_8 := bc_ BK806.out 8 (.int .i64 a1_8) rfl; have hcz43_9 := bc_ BK806.out 9 (.int .i64 a1_9) rfl; have hcz43_10 := bc_ BK806.out 10 (.slice A1_10 l1_10.length c1_10) rfl; have hfz43_0 := blk_frozen BK806.out 0; have hfz43_1 := blk_frozen BK806.out 1; have hfz43_2 := blk_frozen BK806.out 2; have hfz43_3 := blk_frozen BK806.out 3; have hfz43_4 := blk_frozen BK806.out 4; have hfz43_5 := blk_frozen BK806.out 5; have hfz43_6 := blk_frozen BK806.out 6; have hfz43_7 := blk_frozen BK806.out 7; have hfz43_8 := blk_frozen BK806.out 8; have hfz43_9 := blk_frozen BK806.out 9; have hfz43_10 := blk_frozen BK806.out 10) | ((with_reducible refine gate_callee (f := 74) rfl ?_); refine goesL_ (some 9) rfl rfl Try.func74 (by kernel_rfl) rfl #[.agg #[.int .i64 a0_0, .int .i64 a0_1], .agg #[.int .i64 a1_0, .int .i64 a1_1]] rfl arr_ ?_; (with_reducible refine (laws_eqDrift.calls a0_0 a0_1 a1_0 a1_1 true _ A3.out).mono ?_); rintro e w44 ⟨rfl, hb⟩; refine ⟨_, rfl, ?_⟩; have n0_ := Aside0.mk (bb_ BK805.out hb); have n1_ := Aside0.mk (bb_ BK806.out hb); have n2_ := Aside0.mk (below_step (hb2_ HB.out GE805.out GE806.out) hb); clear BK805; clear BK806; clear HB; have BK805 := n0_; have BK806 := n1_; have HB := n2_; clear n0_ n1_ n2_; (try clear hb); (try clear hb2); (try clear hk); (try clear hi); have hcz45_0 := bc_ BK805.out 0 (.int .i64 a0_0) rfl; have hcz45_1 := bc_ BK805.out 1 (.int .i64 a0_1) rfl; have hcz45_2 := bc_ BK805.out 2 (.int .i64 a0_2) rfl; have hcz45_3 := bc_ BK805.out 3 (.int .i64 a0_3) rfl; have hcz45_4 := bc_ BK805.out 4 (.int .i64 a0_4) rfl; have hcz45_5 := bc_ BK805.out 5 (.int .i64 a0_5) rfl; have hcz45_6 := bc_ BK805.out 6 (.int .i64 a0_6) rfl; have hcz45_7 := bc_ BK805.out 7 (.int .i64 a0_7) rfl; have hcz45_8 := bc_ BK805.out 8 (.int .i64 a0_8) rfl; have hcz45_9 := bc_ BK805.out 9 (.int .i64 a0_9) rfl; have hcz45_10 := bc_ BK805.out 10 (.slice A0_10 l0_10.length c0_10) rfl; have hfz45_0 := blk_frozen BK805.out 0; have hfz45_1 := blk_frozen BK805.out 1; have hfz45_2 := blk_frozen BK805.out 2; have hfz45_3 := blk_frozen BK805.out 3; have hfz45_4 := blk_frozen BK805.out 4; have hfz45_5 := blk_frozen BK805.out 5; have hfz45_6 := blk_frozen BK805.out 6; have hfz45_7 := blk_frozen BK805.out 7; have hfz45_8 := blk_frozen BK805.out 8; have hfz45_9 := blk_frozen BK805.out 9; have hfz45_10 := blk_frozen BK805.out 10; have hcz46_0 := bc_ BK806.out 0 (.int .i64 a1_0) rfl; have hcz46_1 := bc_ BK806.out 1 (.int .i64 a1_1) rfl; have hcz46_2 := bc_ BK806.out 2 (.int .i64 a1_2) rfl; have hcz46_3 := bc_ BK806.out 3 (.int .i64 a1_3) rfl; have hcz46_4 := bc_ BK806.out 4 (.int .i64 a1_4) rfl; have hcz46_5 := bc_ BK806.out 5 (.int .i64 a1_5) rfl; have hcz46_6 := bc_ BK806.out 6 (.int .i64 a1_6) rfl; have hcz46_7 := bc_ BK806.out 7 (.int .i64 a1_7) rfl; have hcz46_8 := bc_ BK806.out 8 (.int .i64 a1_8) rfl; have hcz46_9 := bc_ BK806.out 9 (.int .i64 a1_9) rfl; have hcz46_10 := bc_ BK806.out 10 (.slice A1_10 l1_10.length c1_10) rfl; have hfz46_0 := blk_frozen BK806.out 0; have hfz46_1 := blk_frozen BK806.out 1; have hfz46_2 := blk_frozen BK806.out 2; have hfz46_3 := blk_frozen BK806.out 3; have hfz46_4 := blk_frozen BK806.out 4; have hfz46_5 := blk_frozen BK806.out 5; have hfz46_6 := blk_frozen BK806.out 6; have hfz46_7 := blk_frozen BK806.out 7; have hfz46_8 := blk_frozen BK806.out 8; have hfz46_9 := blk_frozen BK806.out 9; have hfz46_10 := blk_frozen BK806.out 10))
              go_ret
              exact ⟨er_, hb2_ HB.out GE805.out GE806.out⟩
          · rw [if_neg c8] at H
            have c8b0 : (a0_5 == a1_5) = false := beq_eq_false_iff_ne.mpr c8
            have c8b1 : (a0_5 != a1_5) = true := bne_iff_ne.mpr c8
            obtain rfl := Option.some.inj H
            go_enter Try.func37, Try.ntmps37
            go_wp2_with (first | ((with_reducible refine gate_dst (N := 2) rfl ?_); refine box_event ?hg (N := 2) ?hd (cs := #[.int .i64 a0_0, .int .i64 a0_1, .int .i64 a0_2, .int .i64 a0_3, .int .i64 a0_4, .int .i64 a0_5, .int .i64 a0_6, .int .i64 a0_7, .int .i64 a0_8, .int .i64 a0_9, .slice A0_10 l0_10.length c0_10]) (t := 72) ?hr ?_; (case hd => rfl); (case hg => rfl); (case hr => first | (go_simp; done) | (go_simp; rfl)); intro gb805 hg w47 hbox hb; have n0_ := Aside0.mk (below_step (hb_ HB.out) hb); have n1_ := Aside0.mk (hbox); have n2_ := Aside0.mk ((by rw [hg]; exact (below_size (hb_ HB.out)) : w.heap.size ≤ gb805)); have n3_ := Aside0.mk ((by rw [hg]; exact (below_size (hb_ HB.out)) : w.heap.size ≤ gb805)); clear HB; have HB := n0_; have BK805 := n1_; have GW805 := n2_; have GE805 := n3_; clear n0_ n1_ n2_ n3_; clear hb hbox hg) | ((with_reducible refine gate_dst (N := 3) rfl ?_); refine box_event ?hg (N := 3) ?hd (cs := #[.int .i64 a1_0, .int .i64 a1_1, .int .i64 a1_2, .int .i64 a1_3, .int .i64 a1_4, .int .i64 a1_5, .int .i64 a1_6, .int .i64 a1_7, .int .i64 a1_8, .int .i64 a1_9, .slice A1_10 l1_10.length c1_10]) (t := 72) ?hr ?_; (case hd => rfl); (case hg => rfl); (case hr => first | (go_simp; done) | (go_simp; rfl)); intro gb806 hg w48 hbox hb; have n0_ := Aside0.mk (bb_ BK805.out hb); have n1_ := Aside0.mk (below_step (hb1_ HB.out GE805.out) hb); have n2_ := Aside0.mk (hbox); have n3_ := Aside0.mk ((by rw [hg]; exact (below_size (hb1_ HB.out GE805.out)) : w.heap.size ≤ gb806)); have n4_ := Aside0.mk ((by rw [hg]; exact (below_size (hb1_ HB.out GE805.out)) : w.heap.size ≤ gb806)); have n5_ := Aside0.mk ((bl_ hg BK805.out : gb805 ≠ gb806)); have n6_ := Aside0.mk ((bg_ hg BK805.out : gb806 ≠ gb805)); clear BK805; clear HB; have BK805 := n0_; have HB := n1_; have BK806 := n2_; have GW806 := n3_; have GE806 := n4_; have NB805_806 := n5_; have NB806_805 := n6_; clear n0_ n1_ n2_ n3_ n4_ n5_ n6_; clear hb hbox hg; have hnb49 := NB805_806.out; have hnc49 := NB806_805.out; have hcz50_0 := bc_ BK805.out 0 (.int .i64 a0_0) rfl; have hcz50_1 := bc_ BK805.out 1 (.int .i64 a0_1) rfl; have hcz50_2 := bc_ BK805.out 2 (.int .i64 a0_2) rfl; have hcz50_3 := bc_ BK805.out 3 (.int .i64 a0_3) rfl; have hcz50_4 := bc_ BK805.out 4 (.int .i64 a0_4) rfl; have hcz50_5 := bc_ BK805.out 5 (.int .i64 a0_5) rfl; have hcz50_6 := bc_ BK805.out 6 (.int .i64 a0_6) rfl; have hcz50_7 := bc_ BK805.out 7 (.int .i64 a0_7) rfl; have hcz50_8 := bc_ BK805.out 8 (.int .i64 a0_8) rfl; have hcz50_9 := bc_ BK805.out 9 (.int .i64 a0_9) rfl; have hcz50_10 := bc_ BK805.out 10 (.slice A0_10 l0_10.length c0_10) rfl; have hfz50_0 := blk_frozen BK805.out 0; have hfz50_1 := blk_frozen BK805.out 1; have hfz50_2 := blk_frozen BK805.out 2; have hfz50_3 := blk_frozen BK805.out 3; have hfz50_4 := blk_frozen BK805.out 4; have hfz50_5 := blk_frozen BK805.out 5; have hfz50_6 := blk_frozen BK805.out 6; have hfz50_7 := blk_frozen BK805.out 7; have hfz50_8 := blk_frozen BK805.out 8; have hfz50_9 := blk_frozen BK805.out 9; have hfz50_10 := blk_frozen BK805.out 10; have hcz51_0 := bc_ BK806.out 0 (.int .i64 a1_0) rfl; have hcz51_1 := bc_ BK806.out 1 (.int .i64 a1_1) rfl; have hcz51_2 := bc_ BK806.out 2 (.int .i64 a1_2) rfl; have hcz51_3 := bc_ BK806.out 3 (.int .i64 a1_3) rfl; have hcz51_4 := bc_ BK806.out 4 (.int .i64 a1_4) rfl; have hcz51_5 := bc_ BK806.out 5 (.int .i64 a1_5) rfl; have hcz51_6 := bc_ BK806.out 6 (.int .i64 a1_6) rfl; have hcz51_7 := bc_ BK806.out 7 (.int .i64 a1_7) rfl; have hcz51_8 := bc_ BK806.out 8 (.int .i64 a1_8) rfl; have hcz51_9 := bc_ BK806.out 9 (.int .i64 a1_9) rfl; have hcz51_10 := bc_ BK806.out 10 (.slice A1_10 l1_10.length c1_10) rfl; have hfz51_0 := blk_frozen BK806.out 0; have hfz51_1 := blk_frozen BK806.out 1; have hfz51_2 := blk_frozen BK806.out 2; have hfz51_3 := blk_frozen BK806.out 3; have hfz51_4 := blk_frozen BK806.out 4; have hfz51_5 := blk_frozen BK806.out 5; have hfz51_6 := blk_frozen BK806.out 6; have hfz51_7 := blk_frozen BK806.out 7; have hfz51_8 := blk_frozen BK806.out 8; have hfz51_9 := blk_frozen BK806.out 9; have hfz51_10 := blk_frozen BK806.out 10) | ((with_reducible refine gate_callee (f := 74) rfl ?_); refine goesL_ (some 9) rfl rfl Try.func74 (by kernel_rfl) rfl #[.agg #[.int .i64 a0_0, .int .i64 a0_1], .agg #[.int .i64 a1_0, .int .i64 a1_1]] rfl arr_ ?_; (with_reducible refine (laws_eqDrift.calls a0_0 a0_1 a1_0 a1_1 true _ A3.out).mono ?_); rintro e w52 ⟨rfl, hb⟩; refine ⟨_, rfl, ?_⟩; have n0_ := Aside0.mk (bb_ BK805.out hb); have n1_ := Aside0.mk (bb_ BK806.out hb); have n2_ := Aside0.mk (below_step (hb2_ HB.out GE805.out GE806.out) hb); clear BK805; clear BK806; clear HB; have BK805 := n0_; have BK806 := n1_; have HB := n2_; clear n0_ n1_ n2_; (try clear hb); (try clear hb2); (try clear hk); (try clear hi); have hcz53_0 := bc_ BK805.out 0 (.int .i64 a0_0) rfl; have hcz53_1 := bc_ BK805.out 1 (.int .i64 a0_1) rfl; have hcz53_2 := bc_ BK805.out 2 (.int .i64 a0_2) rfl; have hcz53_3 := bc_ BK805.out 3 (.int .i64 a0_3) rfl; have hcz53_4 := bc_ BK805.out 4 (.int .i64 a0_4) rfl; have hcz53_5 := bc_ BK805.out 5 (.int .i64 a0_5) rfl; have hcz53_6 := bc_ BK805.out 6 (.int .i64 a0_6) rfl; have hcz53_7 := bc_ BK805.out 7 (.int .i64 a0_7) rfl; have hcz53_8 := bc_ BK805.out 8 (.int .i64 a0_8) rfl; have hcz53_9 := bc_ BK805.out 9 (.int .i64 a0_9) rfl; have hcz53_10 := bc_ BK805.out 10 (.slice A0_10 l0_10.length c0_10) rfl; have hfz53_0 := blk_frozen BK805.out 0; have hfz53_1 := blk_frozen BK805.out 1; have hfz53_2 := blk_frozen BK805.out 2; have hfz53_3 := blk_frozen BK805.out 3; have hfz53_4 := blk_frozen BK805.out 4; have hfz53_5 := blk_frozen BK805.out 5; have hfz53_6 := blk_frozen BK805.out 6; have hfz53_7 := blk_frozen BK805.out 7; have hfz53_8 := blk_frozen BK805.out 8; have hfz53_9 := blk_frozen BK805.out 9; have hfz53_10 := blk_frozen BK805.out 10; have hcz54_0 := bc_ BK806.out 0 (.int .i64 a1_0) rfl; have hcz54_1 := bc_ BK806.out 1 (.int .i64 a1_1) rfl; have hcz54_2 := bc_ BK806.out 2 (.int .i64 a1_2) rfl; have hcz54_3 := bc_ BK806.out 3 (.int .i64 a1_3) rfl; have hcz54_4 := bc_ BK806.out 4 (.int .i64 a1_4) rfl; have hcz54_5 := bc_ BK806.out 5 (.int .i64 a1_5) rfl; have hcz54_6 := bc_ BK806.out 6 (.int .i64 a1_6) rfl; have hcz54_7 := bc_ BK806.out 7 (.int .i64 a1_7) rfl; have hcz54_8 := bc_ BK806.out 8 (.int .i64 a1_8) rfl; have hcz54_9 := bc_ BK806.out 9 (.int .i64 a1_9) rfl; have hcz54_10 := bc_ BK806.out 10 (.slice A1_10 l1_10.length c1_10) rfl; have hfz54_0 := blk_frozen BK806.out 0; have hfz54_1 := blk_frozen BK806.out 1; have hfz54_2 := blk_frozen BK806.out 2; have hfz54_3 := blk_frozen BK806.out 3; have hfz54_4 := blk_frozen BK806.out 4; have hfz54_5 := blk_frozen BK806.out 5; have hfz54_6 := blk_frozen BK806.out 6; have hfz54_7 := blk_frozen BK806.out 7; have hfz54_8 := blk_frozen BK806.out 8; have hfz54_9 := blk_frozen BK806.out 9; have hfz54_10 := blk_frozen BK806.out 10))
            go_ret
            exact ⟨er_, hb2_ HB.out GE805.out GE806.out⟩
        · rw [if_neg c7] at H
          have c7b0 : (a0_4 == a1_4) = false := beq_eq_false_iff_ne.mpr c7
          have c7b1 : (a0_4 != a1_4) = true := bne_iff_ne.mpr c7
          obtain rfl := Option.some.inj H
          go_enter Try.func37, Try.ntmps37
          go_wp2_with (first | ((with_reducible refine gate_dst (N := 2) rfl ?_); refine box_event ?hg (N := 2) ?hd (cs := #[.int .i64 a0_0, .int .i64 a0_1, .int .i64 a0_2, .int .i64 a0_3, .int .i64 a0_4, .int .i64 a0_5, .int .i64 a0_6, .int .i64 a0_7, .int .i64 a0_8, .int .i64 a0_9, .slice A0_10 l0_10.length c0_10]) (t := 72) ?hr ?_; (case hd => rfl); (case hg => rfl); (case hr => first | (go_simp; done) | (go_simp; rfl)); intro gb805 hg w55 hbox hb; have n0_ := Aside0.mk (below_step (hb_ HB.out) hb); have n1_ := Aside0.mk (hbox); have n2_ := Aside0.mk ((by rw [hg]; exact (below_size (hb_ HB.out)) : w.heap.size ≤ gb805)); have n3_ := Aside0.mk ((by rw [hg]; exact (below_size (hb_ HB.out)) : w.heap.size ≤ gb805)); clear HB; have HB := n0_; have BK805 := n1_; have GW805 := n2_; have GE805 := n3_; clear n0_ n1_ n2_ n3_; clear hb hbox hg) | ((with_reducible refine gate_dst (N := 3) rfl ?_); refine box_event ?hg (N := 3) ?hd (cs := #[.int .i64 a1_0, .int .i64 a1_1, .int .i64 a1_2, .int .i64 a1_3, .int .i64 a1_4, .int .i64 a1_5, .int .i64 a1_6, .int .i64 a1_7, .int .i64 a1_8, .int .i64 a1_9, .slice A1_10 l1_10.length c1_10]) (t := 72) ?hr ?_; (case hd => rfl); (case hg => rfl); (case hr => first | (go_simp; done) | (go_simp; rfl)); intro gb806 hg w56 hbox hb; have n0_ := Aside0.mk (bb_ BK805.out hb); have n1_ := Aside0.mk (below_step (hb1_ HB.out GE805.out) hb); have n2_ := Aside0.mk (hbox); have n3_ := Aside0.mk ((by rw [hg]; exact (below_size (hb1_ HB.out GE805.out)) : w.heap.size ≤ gb806)); have n4_ := Aside0.mk ((by rw [hg]; exact (below_size (hb1_ HB.out GE805.out)) : w.heap.size ≤ gb806)); have n5_ := Aside0.mk ((bl_ hg BK805.out : gb805 ≠ gb806)); have n6_ := Aside0.mk ((bg_ hg BK805.out : gb806 ≠ gb805)); clear BK805; clear HB; have BK805 := n0_; have HB := n1_; have BK806 := n2_; have GW806 := n3_; have GE806 := n4_; have NB805_806 := n5_; have NB806_805 := n6_; clear n0_ n1_ n2_ n3_ n4_ n5_ n6_; clear hb hbox hg; have hnb57 := NB805_806.out; have hnc57 := NB806_805.out; have hcz58_0 := bc_ BK805.out 0 (.int .i64 a0_0) rfl; have hcz58_1 := bc_ BK805.out 1 (.int .i64 a0_1) rfl; have hcz58_2 := bc_ BK805.out 2 (.int .i64 a0_2) rfl; have hcz58_3 := bc_ BK805.out 3 (.int .i64 a0_3) rfl; have hcz58_4 := bc_ BK805.out 4 (.int .i64 a0_4) rfl; have hcz58_5 := bc_ BK805.out 5 (.int .i64 a0_5) rfl; have hcz58_6 := bc_ BK805.out 6 (.int .i64 a0_6) rfl; have hcz58_7 := bc_ BK805.out 7 (.int .i64 a0_7) rfl; have hcz58_8 := bc_ BK805.out 8 (.int .i64 a0_8) rfl; have hcz58_9 := bc_ BK805.out 9 (.int .i64 a0_9) rfl; have hcz58_10 := bc_ BK805.out 10 (.slice A0_10 l0_10.length c0_10) rfl; have hfz58_0 := blk_frozen BK805.out 0; have hfz58_1 := blk_frozen BK805.out 1; have hfz58_2 := blk_frozen BK805.out 2; have hfz58_3 := blk_frozen BK805.out 3; have hfz58_4 := blk_frozen BK805.out 4; have hfz58_5 := blk_frozen BK805.out 5; have hfz58_6 := blk_frozen BK805.out 6; have hfz58_7 := blk_frozen BK805.out 7; have hfz58_8 := blk_frozen BK805.out 8; have hfz58_9 := blk_frozen BK805.out 9; have hfz58_10 := blk_frozen BK805.out 10; have hcz59_0 := bc_ BK806.out 0 (.int .i64 a1_0) rfl; have hcz59_1 := bc_ BK806.out 1 (.int .i64 a1_1) rfl; have hcz59_2 := bc_ BK806.out 2 (.int .i64 a1_2) rfl; have hcz59_3 := bc_ BK806.out 3 (.int .i64 a1_3) rfl; have hcz59_4 := bc_ BK806.out 4 (.int .i64 a1_4) rfl; have hcz59_5 := bc_ BK806.out 5 (.int .i64 a1_5) rfl; have hcz59_6 := bc_ BK806.out 6 (.int .i64 a1_6) rfl; have hcz59_7 := bc_ BK806.out 7 (.int .i64 a1_7) rfl; have hcz59_8 := bc_ BK806.out 8 (.int .i64 a1_8) rfl; have hcz59_9 := bc_ BK806.out 9 (.int .i64 a1_9) rfl; have hcz59_10 := bc_ BK806.out 10 (.slice A1_10 l1_10.length c1_10) rfl; have hfz59_0 := blk_frozen BK806.out 0; have hfz59_1 := blk_frozen BK806.out 1; have hfz59_2 := blk_frozen BK806.out 2; have hfz59_3 := blk_frozen BK806.out 3; have hfz59_4 := blk_frozen BK806.out 4; have hfz59_5 := blk_frozen BK806.out 5; have hfz59_6 := blk_frozen BK806.out 6; have hfz59_7 := blk_frozen BK806.out 7; have hfz59_8 := blk_frozen BK806.out 8; have hfz59_9 := blk_frozen BK806.out 9; have hfz59_10 := blk_frozen BK806.out 10) | ((with_reducible refine gate_callee (f := 74) rfl ?_); refine goesL_ (some 9) rfl rfl Try.func74 (by kernel_rfl) rfl #[.agg #[.int .i64 a0_0, .int .i64 a0_1], .agg #[.int .i64 a1_0, .int .i64 a1_1]] rfl arr_ ?_; (with_reducible refine (laws_eqDrift.calls a0_0 a0_1 a1_0 a1_1 true _ A3.out).mono ?_); rintro e w60 ⟨rfl, hb⟩; refine ⟨_, rfl, ?_⟩; have n0_ := Aside0.mk (bb_ BK805.out hb); have n1_ := Aside0.mk (bb_ BK806.out hb); have n2_ := Aside0.mk (below_step (hb2_ HB.out GE805.out GE806.out) hb); clear BK805; clear BK806; clear HB; have BK805 := n0_; have BK806 := n1_; have HB := n2_; clear n0_ n1_ n2_; (try clear hb); (try clear hb2); (try clear hk); (try clear hi); have hcz61_0 := bc_ BK805.out 0 (.int .i64 a0_0) rfl; have hcz61_1 := bc_ BK805.out 1 (.int .i64 a0_1) rfl; have hcz61_2 := bc_ BK805.out 2 (.int .i64 a0_2) rfl; have hcz61_3 := bc_ BK805.out 3 (.int .i64 a0_3) rfl; have hcz61_4 := bc_ BK805.out 4 (.int .i64 a0_4) rfl; have hcz61_5 := bc_ BK805.out 5 (.int .i64 a0_5) rfl; have hcz61_6 := bc_ BK805.out 6 (.int .i64 a0_6) rfl; have hcz61_7 := bc_ BK805.out 7 (.int .i64 a0_7) rfl; have hcz61_8 := bc_ BK805.out 8 (.int .i64 a0_8) rfl; have hcz61_9 := bc_ BK805.out 9 (.int .i64 a0_9) rfl; have hcz61_10 := bc_ BK805.out 10 (.slice A0_10 l0_10.length c0_10) rfl; have hfz61_0 := blk_frozen BK805.out 0; have hfz61_1 := blk_frozen BK805.out 1; have hfz61_2 := blk_frozen BK805.out 2; have hfz61_3 := blk_frozen BK805.out 3; have hfz61_4 := blk_frozen BK805.out 4; have hfz61_5 := blk_frozen BK805.out 5; have hfz61_6 := blk_frozen BK805.out 6; have hfz61_7 := blk_frozen BK805.out 7; have hfz61_8 := blk_frozen BK805.out 8; have hfz61_9 := blk_frozen BK805.out 9; have hfz61_10 := blk_frozen BK805.out 10; have hcz62_0 := bc_ BK806.out 0 (.int .i64 a1_0) rfl; have hcz62_1 := bc_ BK806.out 1 (.int .i64 a1_1) rfl; have hcz62_2 := bc_ BK806.out 2 (.int .i64 a1_2) rfl; have hcz62_3 := bc_ BK806.out 3 (.int .i64 a1_3) rfl; have hcz62_4 := bc_ BK806.out 4 (.int .i64 a1_4) rfl; have hcz62_5 := bc_ BK806.out 5 (.int .i64 a1_5) rfl; have hcz62_6 := bc_ BK806.out 6 (.int .i64 a1_6) rfl; have hcz62_7 := bc_ BK806.out 7 (.int .i64 a1_7) rfl; have hcz62_8 := bc_ BK806.out 8 (.int .i64 a1_8) rfl; have hcz62_9 := bc_ BK806.out 9 (.int .i64 a1_9) rfl; have hcz62_10 := bc_ BK806.out 10 (.slice A1_10 l1_10.length c1_10) rfl; have hfz62_0 := blk_frozen BK806.out 0; have hfz62_1 := blk_frozen BK806.out 1; have hfz62_2 := blk_frozen BK806.out 2; have hfz62_3 := blk_frozen BK806.out 3; have hfz62_4 := blk_frozen BK806.out 4; have hfz62_5 := blk_frozen BK806.out 5; have hfz62_6 := blk_frozen BK806.out 6; have hfz62_7 := blk_frozen BK806.out 7; have hfz62_8 := blk_frozen BK806.out 8; have hfz62_9 := blk_frozen BK806.out 9; have hfz62_10 := blk_frozen BK806.out 10))
          go_ret
          exact ⟨er_, hb2_ HB.out GE805.out GE806.out⟩
      · rw [if_neg c6] at H
        have c6b0 : (a0_3 == a1_3) = false := beq_eq_false_iff_ne.mpr c6
        have c6b1 : (a0_3 != a1_3) = true := bne_iff_ne.mpr c6
        obtain rfl := Option.some.inj H
        go_enter Try.func37, Try.ntmps37
        go_wp2_with (first | ((with_reducible refine gate_dst (N := 2) rfl ?_); refine box_event ?hg (N := 2) ?hd (cs := #[.int .i64 a0_0, .int .i64 a0_1, .int .i64 a0_2, .int .i64 a0_3, .int .i64 a0_4, .int .i64 a0_5, .int .i64 a0_6, .int .i64 a0_7, .int .i64 a0_8, .int .i64 a0_9, .slice A0_10 l0_10.length c0_10]) (t := 72) ?hr ?_; (case hd => rfl); (case hg => rfl); (case hr => first | (go_simp; done) | (go_simp; rfl)); intro gb805 hg w63 hbox hb; have n0_ := Aside0.mk (below_step (hb_ HB.out) hb); have n1_ := Aside0.mk (hbox); have n2_ := Aside0.mk ((by rw [hg]; exact (below_size (hb_ HB.out)) : w.heap.size ≤ gb805)); have n3_ := Aside0.mk ((by rw [hg]; exact (below_size (hb_ HB.out)) : w.heap.size ≤ gb805)); clear HB; have HB := n0_; have BK805 := n1_; have GW805 := n2_; have GE805 := n3_; clear n0_ n1_ n2_ n3_; clear hb hbox hg) | ((with_reducible refine gate_dst (N := 3) rfl ?_); refine box_event ?hg (N := 3) ?hd (cs := #[.int .i64 a1_0, .int .i64 a1_1, .int .i64 a1_2, .int .i64 a1_3, .int .i64 a1_4, .int .i64 a1_5, .int .i64 a1_6, .int .i64 a1_7, .int .i64 a1_8, .int .i64 a1_9, .slice A1_10 l1_10.length c1_10]) (t := 72) ?hr ?_; (case hd => rfl); (case hg => rfl); (case hr => first | (go_simp; done) | (go_simp; rfl)); intro gb806 hg w64 hbox hb; have n0_ := Aside0.mk (bb_ BK805.out hb); have n1_ := Aside0.mk (below_step (hb1_ HB.out GE805.out) hb); have n2_ := Aside0.mk (hbox); have n3_ := Aside0.mk ((by rw [hg]; exact (below_size (hb1_ HB.out GE805.out)) : w.heap.size ≤ gb806)); have n4_ := Aside0.mk ((by rw [hg]; exact (below_size (hb1_ HB.out GE805.out)) : w.heap.size ≤ gb806)); have n5_ := Aside0.mk ((bl_ hg BK805.out : gb805 ≠ gb806)); have n6_ := Aside0.mk ((bg_ hg BK805.out : gb806 ≠ gb805)); clear BK805; clear HB; have BK805 := n0_; have HB := n1_; have BK806 := n2_; have GW806 := n3_; have GE806 := n4_; have NB805_806 := n5_; have NB806_805 := n6_; clear n0_ n1_ n2_ n3_ n4_ n5_ n6_; clear hb hbox hg; have hnb65 := NB805_806.out; have hnc65 := NB806_805.out; have hcz66_0 := bc_ BK805.out 0 (.int .i64 a0_0) rfl; have hcz66_1 := bc_ BK805.out 1 (.int .i64 a0_1) rfl; have hcz66_2 := bc_ BK805.out 2 (.int .i64 a0_2) rfl; have hcz66_3 := bc_ BK805.out 3 (.int .i64 a0_3) rfl; have hcz66_4 := bc_ BK805.out 4 (.int .i64 a0_4) rfl; have hcz66_5 := bc_ BK805.out 5 (.int .i64 a0_5) rfl; have hcz66_6 := bc_ BK805.out 6 (.int .i64 a0_6) rfl; have hcz66_7 := bc_ BK805.out 7 (.int .i64 a0_7) rfl; have hcz66_8 := bc_ BK805.out 8 (.int .i64 a0_8) rfl; have hcz66_9 := bc_ BK805.out 9 (.int .i64 a0_9) rfl; have hcz66_10 := bc_ BK805.out 10 (.slice A0_10 l0_10.length c0_10) rfl; have hfz66_0 := blk_frozen BK805.out 0; have hfz66_1 := blk_frozen BK805.out 1; have hfz66_2 := blk_frozen BK805.out 2; have hfz66_3 := blk_frozen BK805.out 3; have hfz66_4 := blk_frozen BK805.out 4; have hfz66_5 := blk_frozen BK805.out 5; have hfz66_6 := blk_frozen BK805.out 6; have hfz66_7 := blk_frozen BK805.out 7; have hfz66_8 := blk_frozen BK805.out 8; have hfz66_9 := blk_frozen BK805.out 9; have hfz66_10 := blk_frozen BK805.out 10; have hcz67_0 := bc_ BK806.out 0 (.int .i64 a1_0) rfl; have hcz67_1 := bc_ BK806.out 1 (.int .i64 a1_1) rfl; have hcz67_2 := bc_ BK806.out 2 (.int .i64 a1_2) rfl; have hcz67_3 := bc_ BK806.out 3 (.int .i64 a1_3) rfl; have hcz67_4 := bc_ BK806.out 4 (.int .i64 a1_4) rfl; have hcz67_5 := bc_ BK806.out 5 (.int .i64 a1_5) rfl; have hcz67_6 := bc_ BK806.out 6 (.int .i64 a1_6) rfl; have hcz67_7 := bc_ BK806.out 7 (.int .i64 a1_7) rfl; have hcz67_8 := bc_ BK806.out 8 (.int .i64 a1_8) rfl; have hcz67_9 := bc_ BK806.out 9 (.int .i64 a1_9) rfl; have hcz67_10 := bc_ BK806.out 10 (.slice A1_10 l1_10.length c1_10) rfl; have hfz67_0 := blk_frozen BK806.out 0; have hfz67_1 := blk_frozen BK806.out 1; have hfz67_2 := blk_frozen BK806.out 2; have hfz67_3 := blk_frozen BK806.out 3; have hfz67_4 := blk_frozen BK806.out 4; have hfz67_5 := blk_frozen BK806.out 5; have hfz67_6 := blk_frozen BK806.out 6; have hfz67_7 := blk_frozen BK806.out 7; have hfz67_8 := blk_frozen BK806.out 8; have hfz67_9 := blk_frozen BK806.out 9; have hfz67_10 := blk_frozen BK806.out 10) | ((with_reducible refine gate_callee (f := 74) rfl ?_); refine goesL_ (some 9) rfl rfl Try.func74 (by kernel_rfl) rfl #[.agg #[.int .i64 a0_0, .int .i64 a0_1], .agg #[.int .i64 a1_0, .int .i64 a1_1]] rfl arr_ ?_; (with_reducible refine (laws_eqDrift.calls a0_0 a0_1 a1_0 a1_1 true _ A3.out).mono ?_); rintro e w68 ⟨rfl, hb⟩; refine ⟨_, rfl, ?_⟩; have n0_ := Aside0.mk (bb_ BK805.out hb); have n1_ := Aside0.mk (bb_ BK806.out hb); have n2_ := Aside0.mk (below_step (hb2_ HB.out GE805.out GE806.out) hb); clear BK805; clear BK806; clear HB; have BK805 := n0_; have BK806 := n1_; have HB := n2_; clear n0_ n1_ n2_; (try clear hb); (try clear hb2); (try clear hk); (try clear hi); have hcz69_0 := bc_ BK805.out 0 (.int .i64 a0_0) rfl; have hcz69_1 := bc_ BK805.out 1 (.int .i64 a0_1) rfl; have hcz69_2 := bc_ BK805.out 2 (.int .i64 a0_2) rfl; have hcz69_3 := bc_ BK805.out 3 (.int .i64 a0_3) rfl; have hcz69_4 := bc_ BK805.out 4 (.int .i64 a0_4) rfl; have hcz69_5 := bc_ BK805.out 5 (.int .i64 a0_5) rfl; have hcz69_6 := bc_ BK805.out 6 (.int .i64 a0_6) rfl; have hcz69_7 := bc_ BK805.out 7 (.int .i64 a0_7) rfl; have hcz69_8 := bc_ BK805.out 8 (.int .i64 a0_8) rfl; have hcz69_9 := bc_ BK805.out 9 (.int .i64 a0_9) rfl; have hcz69_10 := bc_ BK805.out 10 (.slice A0_10 l0_10.length c0_10) rfl; have hfz69_0 := blk_frozen BK805.out 0; have hfz69_1 := blk_frozen BK805.out 1; have hfz69_2 := blk_frozen BK805.out 2; have hfz69_3 := blk_frozen BK805.out 3; have hfz69_4 := blk_frozen BK805.out 4; have hfz69_5 := blk_frozen BK805.out 5; have hfz69_6 := blk_frozen BK805.out 6; have hfz69_7 := blk_frozen BK805.out 7; have hfz69_8 := blk_frozen BK805.out 8; have hfz69_9 := blk_frozen BK805.out 9; have hfz69_10 := blk_frozen BK805.out 10; have hcz70_0 := bc_ BK806.out 0 (.int .i64 a1_0) rfl; have hcz70_1 := bc_ BK806.out 1 (.int .i64 a1_1) rfl; have hcz70_2 := bc_ BK806.out 2 (.int .i64 a1_2) rfl; have hcz70_3 := bc_ BK806.out 3 (.int .i64 a1_3) rfl; have hcz70_4 := bc_ BK806.out 4 (.int .i64 a1_4) rfl; have hcz70_5 := bc_ BK806.out 5 (.int .i64 a1_5) rfl; have hcz70_6 := bc_ BK806.out 6 (.int .i64 a1_6) rfl; have hcz70_7 := bc_ BK806.out 7 (.int .i64 a1_7) rfl; have hcz70_8 := bc_ BK806.out 8 (.int .i64 a1_8) rfl; have hcz70_9 := bc_ BK806.out 9 (.int .i64 a1_9) rfl; have hcz70_10 := bc_ BK806.out 10 (.slice A1_10 l1_10.length c1_10) rfl; have hfz70_0 := blk_frozen BK806.out 0; have hfz70_1 := blk_frozen BK806.out 1; have hfz70_2 := blk_frozen BK806.out 2; have hfz70_3 := blk_frozen BK806.out 3; have hfz70_4 := blk_frozen BK806.out 4; have hfz70_5 := blk_frozen BK806.out 5; have hfz70_6 := blk_frozen BK806.out 6; have hfz70_7 := blk_frozen BK806.out 7; have hfz70_8 := blk_frozen BK806.out 8; have hfz70_9 := blk_frozen BK806.out 9; have hfz70_10 := blk_frozen BK806.out 10))
        go_ret
        exact ⟨er_, hb2_ HB.out GE805.out GE806.out⟩
    · rw [if_neg c5] at H
      have c5b0 : (a0_2 == a1_2) = false := beq_eq_false_iff_ne.mpr c5
      have c5b1 : (a0_2 != a1_2) = true := bne_iff_ne.mpr c5
      obtain rfl := Option.some.inj H
      go_enter Try.func37, Try.ntmps37
      go_wp2_with (first | ((with_reducible refine gate_dst (N := 2) rfl ?_); refine box_event ?hg (N := 2) ?hd (cs := #[.int .i64 a0_0, .int .i64 a0_1, .int .i64 a0_2, .int .i64 a0_3, .int .i64 a0_4, .int .i64 a0_5, .int .i64 a0_6, .int .i64 a0_7, .int .i64 a0_8, .int .i64 a0_9, .slice A0_10 l0_10.length c0_10]) (t := 72) ?hr ?_; (case hd => rfl); (case hg => rfl); (case hr => first | (go_simp; done) | (go_simp; rfl)); intro gb805 hg w71 hbox hb; have n0_ := Aside0.mk (below_step (hb_ HB.out) hb); have n1_ := Aside0.mk (hbox); have n2_ := Aside0.mk ((by rw [hg]; exact (below_size (hb_ HB.out)) : w.heap.size ≤ gb805)); have n3_ := Aside0.mk ((by rw [hg]; exact (below_size (hb_ HB.out)) : w.heap.size ≤ gb805)); clear HB; have HB := n0_; have BK805 := n1_; have GW805 := n2_; have GE805 := n3_; clear n0_ n1_ n2_ n3_; clear hb hbox hg) | ((with_reducible refine gate_dst (N := 3) rfl ?_); refine box_event ?hg (N := 3) ?hd (cs := #[.int .i64 a1_0, .int .i64 a1_1, .int .i64 a1_2, .int .i64 a1_3, .int .i64 a1_4, .int .i64 a1_5, .int .i64 a1_6, .int .i64 a1_7, .int .i64 a1_8, .int .i64 a1_9, .slice A1_10 l1_10.length c1_10]) (t := 72) ?hr ?_; (case hd => rfl); (case hg => rfl); (case hr => first | (go_simp; done) | (go_simp; rfl)); intro gb806 hg w72 hbox hb; have n0_ := Aside0.mk (bb_ BK805.out hb); have n1_ := Aside0.mk (below_step (hb1_ HB.out GE805.out) hb); have n2_ := Aside0.mk (hbox); have n3_ := Aside0.mk ((by rw [hg]; exact (below_size (hb1_ HB.out GE805.out)) : w.heap.size ≤ gb806)); have n4_ := Aside0.mk ((by rw [hg]; exact (below_size (hb1_ HB.out GE805.out)) : w.heap.size ≤ gb806)); have n5_ := Aside0.mk ((bl_ hg BK805.out : gb805 ≠ gb806)); have n6_ := Aside0.mk ((bg_ hg BK805.out : gb806 ≠ gb805)); clear BK805; clear HB; have BK805 := n0_; have HB := n1_; have BK806 := n2_; have GW806 := n3_; have GE806 := n4_; have NB805_806 := n5_; have NB806_805 := n6_; clear n0_ n1_ n2_ n3_ n4_ n5_ n6_; clear hb hbox hg; have hnb73 := NB805_806.out; have hnc73 := NB806_805.out; have hcz74_0 := bc_ BK805.out 0 (.int .i64 a0_0) rfl; have hcz74_1 := bc_ BK805.out 1 (.int .i64 a0_1) rfl; have hcz74_2 := bc_ BK805.out 2 (.int .i64 a0_2) rfl; have hcz74_3 := bc_ BK805.out 3 (.int .i64 a0_3) rfl; have hcz74_4 := bc_ BK805.out 4 (.int .i64 a0_4) rfl; have hcz74_5 := bc_ BK805.out 5 (.int .i64 a0_5) rfl; have hcz74_6 := bc_ BK805.out 6 (.int .i64 a0_6) rfl; have hcz74_7 := bc_ BK805.out 7 (.int .i64 a0_7) rfl; have hcz74_8 := bc_ BK805.out 8 (.int .i64 a0_8) rfl; have hcz74_9 := bc_ BK805.out 9 (.int .i64 a0_9) rfl; have hcz74_10 := bc_ BK805.out 10 (.slice A0_10 l0_10.length c0_10) rfl; have hfz74_0 := blk_frozen BK805.out 0; have hfz74_1 := blk_frozen BK805.out 1; have hfz74_2 := blk_frozen BK805.out 2; have hfz74_3 := blk_frozen BK805.out 3; have hfz74_4 := blk_frozen BK805.out 4; have hfz74_5 := blk_frozen BK805.out 5; have hfz74_6 := blk_frozen BK805.out 6; have hfz74_7 := blk_frozen BK805.out 7; have hfz74_8 := blk_frozen BK805.out 8; have hfz74_9 := blk_frozen BK805.out 9; have hfz74_10 := blk_frozen BK805.out 10; have hcz75_0 := bc_ BK806.out 0 (.int .i64 a1_0) rfl; have hcz75_1 := bc_ BK806.out 1 (.int .i64 a1_1) rfl; have hcz75_2 := bc_ BK806.out 2 (.int .i64 a1_2) rfl; have hcz75_3 := bc_ BK806.out 3 (.int .i64 a1_3) rfl; have hcz75_4 := bc_ BK806.out 4 (.int .i64 a1_4) rfl; have hcz75_5 := bc_ BK806.out 5 (.int .i64 a1_5) rfl; have hcz75_6 := bc_ BK806.out 6 (.int .i64 a1_6) rfl; have hcz75_7 := bc_ BK806.out 7 (.int .i64 a1_7) rfl; have hcz75_8 := bc_ BK806.out 8 (.int .i64 a1_8) rfl; have hcz75_9 := bc_ BK806.out 9 (.int .i64 a1_9) rfl; have hcz75_10 := bc_ BK806.out 10 (.slice A1_10 l1_10.length c1_10) rfl; have hfz75_0 := blk_frozen BK806.out 0; have hfz75_1 := blk_frozen BK806.out 1; have hfz75_2 := blk_frozen BK806.out 2; have hfz75_3 := blk_frozen BK806.out 3; have hfz75_4 := blk_frozen BK806.out 4; have hfz75_5 := blk_frozen BK806.out 5; have hfz75_6 := blk_frozen BK806.out 6; have hfz75_7 := blk_frozen BK806.out 7; have hfz75_8 := blk_frozen BK806.out 8; have hfz75_9 := blk_frozen BK806.out 9; have hfz75_10 := blk_frozen BK806.out 10) | ((with_reducible refine gate_callee (f := 74) rfl ?_); refine goesL_ (some 9) rfl rfl Try.func74 (by kernel_rfl) rfl #[.agg #[.int .i64 a0_0, .int .i64 a0_1], .agg #[.int .i64 a1_0, .int .i64 a1_1]] rfl arr_ ?_; (with_reducible refine (laws_eqDrift.calls a0_0 a0_1 a1_0 a1_1 true _ A3.out).mono ?_); rintro e w76 ⟨rfl, hb⟩; refine ⟨_, rfl, ?_⟩; have n0_ := Aside0.mk (bb_ BK805.out hb); have n1_ := Aside0.mk (bb_ BK806.out hb); have n2_ := Aside0.mk (below_step (hb2_ HB.out GE805.out GE806.out) hb); clear BK805; clear BK806; clear HB; have BK805 := n0_; have BK806 := n1_; have HB := n2_; clear n0_ n1_ n2_; (try clear hb); (try clear hb2); (try clear hk); (try clear hi); have hcz77_0 := bc_ BK805.out 0 (.int .i64 a0_0) rfl; have hcz77_1 := bc_ BK805.out 1 (.int .i64 a0_1) rfl; have hcz77_2 := bc_ BK805.out 2 (.int .i64 a0_2) rfl; have hcz77_3 := bc_ BK805.out 3 (.int .i64 a0_3) rfl; have hcz77_4 := bc_ BK805.out 4 (.int .i64 a0_4) rfl; have hcz77_5 := bc_ BK805.out 5 (.int .i64 a0_5) rfl; have hcz77_6 := bc_ BK805.out 6 (.int .i64 a0_6) rfl; have hcz77_7 := bc_ BK805.out 7 (.int .i64 a0_7) rfl; have hcz77_8 := bc_ BK805.out 8 (.int .i64 a0_8) rfl; have hcz77_9 := bc_ BK805.out 9 (.int .i64 a0_9) rfl; have hcz77_10 := bc_ BK805.out 10 (.slice A0_10 l0_10.length c0_10) rfl; have hfz77_0 := blk_frozen BK805.out 0; have hfz77_1 := blk_frozen BK805.out 1; have hfz77_2 := blk_frozen BK805.out 2; have hfz77_3 := blk_frozen BK805.out 3; have hfz77_4 := blk_frozen BK805.out 4; have hfz77_5 := blk_frozen BK805.out 5; have hfz77_6 := blk_frozen BK805.out 6; have hfz77_7 := blk_frozen BK805.out 7; have hfz77_8 := blk_frozen BK805.out 8; have hfz77_9 := blk_frozen BK805.out 9; have hfz77_10 := blk_frozen BK805.out 10; have hcz78_0 := bc_ BK806.out 0 (.int .i64 a1_0) rfl; have hcz78_1 := bc_ BK806.out 1 (.int .i64 a1_1) rfl; have hcz78_2 := bc_ BK806.out 2 (.int .i64 a1_2) rfl; have hcz78_3 := bc_ BK806.out 3 (.int .i64 a1_3) rfl; have hcz78_4 := bc_ BK806.out 4 (.int .i64 a1_4) rfl; have hcz78_5 := bc_ BK806.out 5 (.int .i64 a1_5) rfl; have hcz78_6 := bc_ BK806.out 6 (.int .i64 a1_6) rfl; have hcz78_7 := bc_ BK806.out 7 (.int .i64 a1_7) rfl; have hcz78_8 := bc_ BK806.out 8 (.int .i64 a1_8) rfl; have hcz78_9 := bc_ BK806.out 9 (.int .i64 a1_9) rfl; have hcz78_10 := bc_ BK806.out 10 (.slice A1_10 l1_10.length c1_10) rfl; have hfz78_0 := blk_frozen BK806.out 0; have hfz78_1 := blk_frozen BK806.out 1; have hfz78_2 := blk_frozen BK806.out 2; have hfz78_3 := blk_frozen BK806.out 3; have hfz78_4 := blk_frozen BK806.out 4; have hfz78_5 := blk_frozen BK806.out 5; have hfz78_6 := blk_frozen BK806.out 6; have hfz78_7 := blk_frozen BK806.out 7; have hfz78_8 := blk_frozen BK806.out 8; have hfz78_9 := blk_frozen BK806.out 9; have hfz78_10 := blk_frozen BK806.out 10))
      go_ret
      exact ⟨er_, hb2_ HB.out GE805.out GE806.out⟩
  · replace c4 := Bool.eq_false_iff.mpr c4
    subst c4
    have H1 : (some false) = some r := by rw [if_neg (show ¬ (false = true) by decide)] at H; exact H
    clear H
    have H := H1
    clear H1
    obtain rfl := Option.some.inj H
    go_enter Try.func37, Try.ntmps37
    go_wp2_with (first | ((with_reducible refine gate_dst (N := 2) rfl ?_); refine box_event ?hg (N := 2) ?hd (cs := #[.int .i64 a0_0, .int .i64 a0_1, .int .i64 a0_2, .int .i64 a0_3, .int .i64 a0_4, .int .i64 a0_5, .int .i64 a0_6, .int .i64 a0_7, .int .i64 a0_8, .int .i64 a0_9, .slice A0_10 l0_10.length c0_10]) (t := 72) ?hr ?_; (case hd => rfl); (case hg => rfl); (case hr => first | (go_simp; done) | (go_simp; rfl)); intro gb805 hg w79 hbox hb; have n0_ := Aside0.mk (below_step (hb_ HB.out) hb); have n1_ := Aside0.mk (hbox); have n2_ := Aside0.mk ((by rw [hg]; exact (below_size (hb_ HB.out)) : w.heap.size ≤ gb805)); have n3_ := Aside0.mk ((by rw [hg]; exact (below_size (hb_ HB.out)) : w.heap.size ≤ gb805)); clear HB; have HB := n0_; have BK805 := n1_; have GW805 := n2_; have GE805 := n3_; clear n0_ n1_ n2_ n3_; clear hb hbox hg) | ((with_reducible refine gate_dst (N := 3) rfl ?_); refine box_event ?hg (N := 3) ?hd (cs := #[.int .i64 a1_0, .int .i64 a1_1, .int .i64 a1_2, .int .i64 a1_3, .int .i64 a1_4, .int .i64 a1_5, .int .i64 a1_6, .int .i64 a1_7, .int .i64 a1_8, .int .i64 a1_9, .slice A1_10 l1_10.length c1_10]) (t := 72) ?hr ?_; (case hd => rfl); (case hg => rfl); (case hr => first | (go_simp; done) | (go_simp; rfl)); intro gb806 hg w80 hbox hb; have n0_ := Aside0.mk (bb_ BK805.out hb); have n1_ := Aside0.mk (below_step (hb1_ HB.out GE805.out) hb); have n2_ := Aside0.mk (hbox); have n3_ := Aside0.mk ((by rw [hg]; exact (below_size (hb1_ HB.out GE805.out)) : w.heap.size ≤ gb806)); have n4_ := Aside0.mk ((by rw [hg]; exact (below_size (hb1_ HB.out GE805.out)) : w.heap.size ≤ gb806)); have n5_ := Aside0.mk ((bl_ hg BK805.out : gb805 ≠ gb806)); have n6_ := Aside0.mk ((bg_ hg BK805.out : gb806 ≠ gb805)); clear BK805; clear HB; have BK805 := n0_; have HB := n1_; have BK806 := n2_; have GW806 := n3_; have GE806 := n4_; have NB805_806 := n5_; have NB806_805 := n6_; clear n0_ n1_ n2_ n3_ n4_ n5_ n6_; clear hb hbox hg; have hnb81 := NB805_806.out; have hnc81 := NB806_805.out; have hcz82_0 := bc_ BK805.out 0 (.int .i64 a0_0) rfl; have hcz82_1 := bc_ BK805.out 1 (.int .i64 a0_1) rfl; have hcz82_2 := bc_ BK805.out 2 (.int .i64 a0_2) rfl; have hcz82_3 := bc_ BK805.out 3 (.int .i64 a0_3) rfl; have hcz82_4 := bc_ BK805.out 4 (.int .i64 a0_4) rfl; have hcz82_5 := bc_ BK805.out 5 (.int .i64 a0_5) rfl; have hcz82_6 := bc_ BK805.out 6 (.int .i64 a0_6) rfl; have hcz82_7 := bc_ BK805.out 7 (.int .i64 a0_7) rfl; have hcz82_8 := bc_ BK805.out 8 (.int .i64 a0_8) rfl; have hcz82_9 := bc_ BK805.out 9 (.int .i64 a0_9) rfl; have hcz82_10 := bc_ BK805.out 10 (.slice A0_10 l0_10.length c0_10) rfl; have hfz82_0 := blk_frozen BK805.out 0; have hfz82_1 := blk_frozen BK805.out 1; have hfz82_2 := blk_frozen BK805.out 2; have hfz82_3 := blk_frozen BK805.out 3; have hfz82_4 := blk_frozen BK805.out 4; have hfz82_5 := blk_frozen BK805.out 5; have hfz82_6 := blk_frozen BK805.out 6; have hfz82_7 := blk_frozen BK805.out 7; have hfz82_8 := blk_frozen BK805.out 8; have hfz82_9 := blk_frozen BK805.out 9; have hfz82_10 := blk_frozen BK805.out 10; have hcz83_0 := bc_ BK806.out 0 (.int .i64 a1_0) rfl; have hcz83_1 := bc_ BK806.out 1 (.int .i64 a1_1) rfl; have hcz83_2 := bc_ BK806.out 2 (.int .i64 a1_2) rfl; have hcz83_3 := bc_ BK806.out 3 (.int .i64 a1_3) rfl; have hcz83_4 := bc_ BK806.out 4 (.int .i64 a1_4) rfl; have hcz83_5 := bc_ BK806.out 5 (.int .i64 a1_5) rfl; have hcz83_6 := bc_ BK806.out 6 (.int .i64 a1_6) rfl; have hcz83_7 := bc_ BK806.out 7 (.int .i64 a1_7) rfl; have hcz83_8 := bc_ BK806.out 8 (.int .i64 a1_8) rfl; have hcz83_9 := bc_ BK806.out 9 (.int .i64 a1_9) rfl; have hcz83_10 := bc_ BK806.out 10 (.slice A1_10 l1_10.length c1_10) rfl; have hfz83_0 := blk_frozen BK806.out 0; have hfz83_1 := blk_frozen BK806.out 1; have hfz83_2 := blk_frozen BK806.out 2; have hfz83_3 := blk_frozen BK806.out 3; have hfz83_4 := blk_frozen BK806.out 4; have hfz83_5 := blk_frozen BK806.out 5; have hfz83_6 := blk_frozen BK806.out 6; have hfz83_7 := blk_frozen BK806.out 7; have hfz83_8 := blk_frozen BK806.out 8; have hfz83_9 := blk_frozen BK806.out 9; have hfz83_10 := blk_frozen BK806.out 10) | ((with_reducible refine gate_callee (f := 74) rfl ?_); refine goesL_ (some 9) rfl rfl Try.func74 (by kernel_rfl) rfl #[.agg #[.int .i64 a0_0, .int .i64 a0_1], .agg #[.int .i64 a1_0, .int .i64 a1_1]] rfl arr_ ?_; (with_reducible refine (laws_eqDrift.calls a0_0 a0_1 a1_0 a1_1 false _ A3.out).mono ?_); rintro e w84 ⟨rfl, hb⟩; refine ⟨_, rfl, ?_⟩; have n0_ := Aside0.mk (bb_ BK805.out hb); have n1_ := Aside0.mk (bb_ BK806.out hb); have n2_ := Aside0.mk (below_step (hb2_ HB.out GE805.out GE806.out) hb); clear BK805; clear BK806; clear HB; have BK805 := n0_; have BK806 := n1_; have HB := n2_; clear n0_ n1_ n2_; (try clear hb); (try clear hb2); (try clear hk); (try clear hi)))
    go_ret
    exact ⟨er_, hb2_ HB.out GE805.out GE806.out⟩
end Go.Proofs.Ytcbglmoeogbakaa.P
