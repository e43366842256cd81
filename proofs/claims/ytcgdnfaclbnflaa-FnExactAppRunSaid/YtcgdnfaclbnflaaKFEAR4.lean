/- Texts of the seat's proofs, part 4: functions of the program told as plain functions, with their contracts, and what is shown of them. No condition. -/
import Derived.Test.YtcgdnfaclbnflaaUKFEAR
import Derived.Test.YtcgdnfaclbnflaaKFEAR1
import Derived.Test.YtcgdnfaclbnflaaKFEAR3
import Derived.Test.YtcgdnfaclbnflaaKFEAR2
set_option linter.unusedVariables false
set_option linter.unusedSimpArgs false
namespace Go.Proofs.Ytcgdnfaclbnflaa.P
open Go.RowKit Go.Proofs.YtcgdnfaclbnflaaW.PrintWords Go.Proofs.YtcgdnfaclbnflaaW.PrintLast Go.Proofs.YtcgdnfaclbnflaaW.PrintMore
attribute [local go_sem] max2_int min2_int max_two min_two max_three min_three max_four min_four
set_option linter.unusedVariables false
set_option linter.unusedSimpArgs false
def laws_eqLookS.l0 : Nat → List (S83) → List (S83) → Int → Option (Bool)
  | 0, _, _, _ => none
  | k + 1, x0, x1, x5 => if x5 < (x0.length : Int) then (if 0 ≤ x5 then (if x5 < (x1.length : Int) then ((laws_eqLook.f ((rd_T83 x0 x5).f0) ((rd_T83 x0 x5).f1.f0) ((rd_T83 x0 x5).f1.f1) ((rd_T83 x1 x5).f0) ((rd_T83 x1 x5).f1.f0) ((rd_T83 x1 x5).f1.f1)).bind fun t620 => (if t620 = true then (laws_eqLookS.l0 k x0 x1 (wrap64 (x5 + 1))) else (some false))) else (none)) else (none)) else (some true)
def laws_eqLookS.f (k : Nat) (l0 : List (S83)) (l1 : List (S83)) : Option (Bool) := if (l0.length : Int) = (l1.length : Int) then (laws_eqLookS.l0 k l0 l1 0) else (some false)
def laws_eqLookS.T6 : Bool × List (List Nat × List Nat) := (true, [([], []), ([], []), ([0, 1], [0, 1]), ([2], [2]), ([], []), ([], []), ([4, 5], [4, 5]), ([6], [6]), ([3, 7], [3, 7]), ([8], [8])])
def laws_eqLookS.B6 : List Nat := [0, 0, 3, 7, 0, 0, 48, 112, 255, 511]
theorem laws_eqLookS.tab6 : rtab .any (opsOf Try.f44 6) = laws_eqLookS.T6 := by kernel_rfl
theorem laws_eqLookS.bits6 : waitsOk laws_eqLookS.T6.2 laws_eqLookS.B6 = true := by kernel_rfl
set_option maxHeartbeats 8000000 in
set_option maxRecDepth 100000 in
theorem laws_eqLookS.calls (k : Nat) (A0 : Option Addr) (c0 : Nat) (l0 : List (S83)) (A1 : Option Addr) (c1 : Nat) (l1 : List (S83)) (r : Bool) (w : World) (hr0 : Kd.C k83 w A0 l0.length l0) (hc0 : l0.length ≤ c0) (hr1 : Kd.C k83 w A1 l1.length l1) (hc1 : l1.length ≤ c1) (h : laws_eqLookS.f k l0 l1 = some r) :
    Calls Try.prog 44 #[.slice A0 l0.length c0, .slice A1 l1.length c1] w fun e w' => e = .returned (.bool r) ∧ Below w.heap.size w w' := by
  have hu83 := Try.underlying83
  have HR0 := Aside0.mk hr0
  have HC0 := Aside0.mk hc0
  clear hr0 hc0
  have HR1 := Aside0.mk hr1
  have HC1 := Aside0.mk hc1
  clear hr1 hc1
  have HB := Aside0.mk (Below.refl w.heap.size w)
  have H : (if (l0.length : Int) = (l1.length : Int) then (laws_eqLookS.l0 k l0 l1 0) else (some false)) = some r := h
  clear h
  by_cases c3 : (l0.length : Int) = (l1.length : Int)
  · rw [if_pos c3] at H
    have c3b0 : ((l0.length : Int) == (l1.length : Int)) = true := beq_iff_eq.mpr c3
    have c3b1 : ((l0.length : Int) != (l1.length : Int)) = false := bne_eq_false_iff_eq.mpr c3
    have c3b2 : (l0.length == l1.length) = true := by first | simpa using c3 | (simp at c3 ⊢; omega)
    clear c3
    have H' := Aside0.mk H
    clear H
    go_enter Try.func44, Try.ntmps44
    go_wp2
    go_loopg [5] k (fun kq v5 w' => ∃ (x5_1 : Int), v5 = .int .i64 x5_1 ∧ Aside0 (laws_eqLookS.l0 kq l0 l1 x5_1 = some r) ∧ Aside0 (kq ≤ k) ∧ Aside0 (Below w.heap.size w w'))
    case atStart => exact ⟨(0), (by first | rfl | (simp; done) | (simp [*]; done)), H', ⟨Nat.le_refl _⟩, ⟨hb_ HB.out⟩⟩
    case round =>
      clear H'
      try clear c1
      try clear p2
      try clear c3
      try clear c3b0
      try clear c3b1
      try clear c3b2
      obtain ⟨x5_1, rfl, HA, HK1, HB⟩ := hrel
      cases gk with
      | zero => exact absurd HA.out (by simp [laws_eqLookS.l0])
      | succ k1 =>
        have H := HA.out
        clear HA
        simp only [laws_eqLookS.l0] at H
        by_cases c4 : x5_1 < (l0.length : Int)
        · rw [if_pos c4] at H
          have c4b0 : decide (x5_1 < (l0.length : Int)) = true := decide_eq_true c4
          clear c4
          by_cases c5 : 0 ≤ x5_1
          · rw [if_pos c5] at H
            have c5b0 : decide (0 ≤ x5_1) = true := decide_eq_true c5
            clear c5
            by_cases c6 : x5_1 < (l1.length : Int)
            · rw [if_pos c6] at H
              have c6b0 : decide (x5_1 < (l1.length : Int)) = true := decide_eq_true c6
              clear c6
              replace H := Option.bind_eq_some_iff.mp H
              obtain ⟨t620, A70, H⟩ := H
              replace H : (if t620 = true then (laws_eqLookS.l0 k1 l0 l1 (wrap64 (x5_1 + 1))) else (some false)) = some r := H
              have A7 := Aside0.mk A70
              clear A70
              by_cases c8 : t620 = true
              · subst c8
                have H1 : (laws_eqLookS.l0 k1 l0 l1 (wrap64 (x5_1 + 1))) = some r := by rw [if_pos rfl] at H; exact H
                clear H
                have H := H1
                clear H1
                have H' := Aside0.mk H
                clear H
                try go_wp2
                have n0_ := Aside0.mk (below_drew1 HB.out)
                clear HB
                have HB := n0_
                clear n0_
                have p618 : 0 ≤ (x5_1 : Int) := of_decide_eq_true (by first | (with_reducible assumption) | assumption)
                have q618 : x5_1 < (l0.length : Int) := of_decide_eq_true (by first | (with_reducible assumption) | assumption)
                obtain ⟨ad618, e618, hx618_0, hx618_1, hx618_2⟩ := at_T83 HR0.out x5_1 p618 q618
                have hw618_2 := hx618_2
                have hw618_1 := hx618_1
                have hw618_0 := hx618_0
                cases e618
                replace hx618_0 := (HB.out.cell (World.block_lt_of_cell? w _ hx618_0)).trans hx618_0
                replace hx618_1 := (HB.out.cell (World.block_lt_of_cell? w _ hx618_1)).trans hx618_1
                replace hx618_2 := (HB.out.cell (World.block_lt_of_cell? w _ hx618_2)).trans hx618_2
                replace p618 := eq_true p618
                replace q618 := eq_true q618
                have p619 : 0 ≤ (x5_1 : Int) := of_decide_eq_true (by first | (with_reducible assumption) | assumption)
                have q619 : x5_1 < (l1.length : Int) := of_decide_eq_true (by first | (with_reducible assumption) | assumption)
                obtain ⟨ad619, e619, hx619_0, hx619_1, hx619_2⟩ := at_T83 HR1.out x5_1 p619 q619
                have hw619_2 := hx619_2
                have hw619_1 := hx619_1
                have hw619_0 := hx619_0
                cases e619
                replace hx619_0 := (HB.out.cell (World.block_lt_of_cell? w _ hx619_0)).trans hx619_0
                replace hx619_1 := (HB.out.cell (World.block_lt_of_cell? w _ hx619_1)).trans hx619_1
                replace hx619_2 := (HB.out.cell (World.block_lt_of_cell? w _ hx619_2)).trans hx619_2
                replace p619 := eq_true p619
                replace q619 := eq_true q619
                refine start_ (n := 10) (S := fun w' => w'.cell? (ad618.add ((x5_1).toNat * 3)) = some (.bool ((rd_T83 l0 x5_1).f0)) ∧ w'.cell? ⟨(ad618.add ((x5_1).toNat * 3)).block, (ad618.add ((x5_1).toNat * 3)).off + 1, none⟩ = some (.int .i64 ((rd_T83 l0 x5_1).f1.f0)) ∧ w'.cell? ⟨(ad618.add ((x5_1).toNat * 3)).block, (ad618.add ((x5_1).toNat * 3)).off + 2, none⟩ = some (.int .i64 ((rd_T83 l0 x5_1).f1.f1)) ∧ w'.cell? (ad619.add ((x5_1).toNat * 3)) = some (.bool ((rd_T83 l1 x5_1).f0)) ∧ w'.cell? ⟨(ad619.add ((x5_1).toNat * 3)).block, (ad619.add ((x5_1).toNat * 3)).off + 1, none⟩ = some (.int .i64 ((rd_T83 l1 x5_1).f1.f0)) ∧ w'.cell? ⟨(ad619.add ((x5_1).toNat * 3)).block, (ad619.add ((x5_1).toNat * 3)).off + 2, none⟩ = some (.int .i64 ((rd_T83 l1 x5_1).f1.f1))) (ds := []) #[false, false, false, false, false, false, false, false, false, false] (by kernel_rfl) rfl rfl ⟨((HB.out.cell (World.block_lt_of_cell? w _ hw618_0)).trans hw618_0), ((HB.out.cell (World.block_lt_of_cell? w _ hw618_1)).trans hw618_1), ((HB.out.cell (World.block_lt_of_cell? w _ hw618_2)).trans hw618_2), ((HB.out.cell (World.block_lt_of_cell? w _ hw619_0)).trans hw619_0), ((HB.out.cell (World.block_lt_of_cell? w _ hw619_1)).trans hw619_1), ((HB.out.cell (World.block_lt_of_cell? w _ hw619_2)).trans hw619_2)⟩ (fun hHeld => ?_); refine with_tabW laws_eqLookS.tab6 laws_eqLookS.bits6 (fun HT_ HW_ => ?_)
                generalize wr.drew = w9 at HB hx618_0 hx618_1 hx618_2 hx619_0 hx619_1 hx619_2 hHeld ⊢
                refine pure_ (i := 0) (N := some 17) (v := ?_) (a' := ?_) #[true, false, false, false, false, false, false, false, false, false] rfl rfl (any_of HT_.out (by kernel_rfl)) (fun _ _ _ h => h) (Or.inl ⟨by rfl, ?_⟩) ?_ ?_
                rotate_left
                · intro w'
                  go_simp
                  with_reducible rfl
                rotate_left
                · simp only [Act.put, List.setIfInBounds_toArray, List.set_cons_zero, List.set_cons_succ, i64_w, i32_w]
                  rfl
                refine pure_ (i := 1) (N := some 18) (v := ?_) (a' := ?_) #[true, true, false, false, false, false, false, false, false, false] rfl rfl (any_of HT_.out (by kernel_rfl)) (fun _ _ _ h => h) (Or.inl ⟨by rfl, ?_⟩) ?_ ?_
                rotate_left
                · intro w'
                  go_simp
                  with_reducible rfl
                rotate_left
                · simp only [Act.put, List.setIfInBounds_toArray, List.set_cons_zero, List.set_cons_succ, i64_w, i32_w]
                  rfl
                refine pure_ (i := 2) (N := some 19) (v := ?_) (a' := ?_) #[true, true, true, false, false, false, false, false, false, false] rfl rfl (any_of HT_.out (by kernel_rfl)) (fun _ _ _ h => h) (Or.inl ⟨by rfl, ?_⟩) ?_ ?_
                rotate_left
                · intro w'
                  go_simp
                  with_reducible rfl
                rotate_left
                · simp only [Act.put, List.setIfInBounds_toArray, List.set_cons_zero, List.set_cons_succ, i64_w, i32_w]
                  rfl
                refine pure_ (i := 4) (N := some 21) (v := ?_) (a' := ?_) #[true, true, true, false, true, false, false, false, false, false] rfl rfl (any_of HT_.out (by kernel_rfl)) (fun _ _ _ h => h) (Or.inl ⟨by rfl, ?_⟩) ?_ ?_
                rotate_left
                · intro w'
                  go_simp
                  with_reducible rfl
                rotate_left
                · simp only [Act.put, List.setIfInBounds_toArray, List.set_cons_zero, List.set_cons_succ, i64_w, i32_w]
                  rfl
                refine pure_ (i := 5) (N := some 22) (v := ?_) (a' := ?_) #[true, true, true, false, true, true, false, false, false, false] rfl rfl (any_of HT_.out (by kernel_rfl)) (fun _ _ _ h => h) (Or.inl ⟨by rfl, ?_⟩) ?_ ?_
                rotate_left
                · intro w'
                  go_simp
                  with_reducible rfl
                rotate_left
                · simp only [Act.put, List.setIfInBounds_toArray, List.set_cons_zero, List.set_cons_succ, i64_w, i32_w]
                  rfl
                refine pure_ (i := 6) (N := some 23) (v := ?_) (a' := ?_) #[true, true, true, false, true, true, true, false, false, false] rfl rfl (any_of HT_.out (by kernel_rfl)) (fun _ _ _ h => h) (Or.inl ⟨by rfl, ?_⟩) ?_ ?_
                rotate_left
                · intro w'
                  go_simp
                  with_reducible rfl
                rotate_left
                · simp only [Act.put, List.setIfInBounds_toArray, List.set_cons_zero, List.set_cons_succ, i64_w, i32_w]
                  rfl
                refine take_ (i := 3) (N := some 20) (v := ?_) (a' := ?_) #[true, true, true, true, true, true, true, false, false, false] rfl rfl (take_ofW HT_.out HW_.out (by kernel_rfl)) (fun _ _ _ h => h) (Or.inl ⟨by rfl, ?_⟩) hHeld ?_ ?_
                rotate_left
                · rintro w' ⟨s0, s1, s2, s3, s4, s5⟩
                  go_simp
                  with_reducible rfl
                rotate_left
                · simp only [Act.put, List.setIfInBounds_toArray, List.set_cons_zero, List.set_cons_succ, i64_w, i32_w]
                  rfl
                refine take_ (i := 7) (N := some 24) (v := ?_) (a' := ?_) #[true, true, true, true, true, true, true, true, false, false] rfl rfl (take_ofW HT_.out HW_.out (by kernel_rfl)) (fun _ _ _ h => h) (Or.inl ⟨by rfl, ?_⟩) hHeld ?_ ?_
                rotate_left
                · rintro w' ⟨s0, s1, s2, s3, s4, s5⟩
                  go_simp
                  with_reducible rfl
                rotate_left
                · simp only [Act.put, List.setIfInBounds_toArray, List.set_cons_zero, List.set_cons_succ, i64_w, i32_w]
                  rfl
                refine one_ (i := 8) (N := some 25) #[true, true, true, true, true, true, true, true, true, false] rfl rfl (one_of HT_.out (by kernel_rfl)) (by decide) (fun K hK => ?_)
                refine goes_ Try.func91 (by kernel_rfl) rfl #[.agg #[.bool ((rd_T83 l0 x5_1).f0), .int .i64 ((rd_T83 l0 x5_1).f1.f0), .int .i64 ((rd_T83 l0 x5_1).f1.f1)], .agg #[.bool ((rd_T83 l1 x5_1).f0), .int .i64 ((rd_T83 l1 x5_1).f1.f0), .int .i64 ((rd_T83 l1 x5_1).f1.f1)]] (by rfl) rfl rfl arr_ ?_
                with_reducible refine (laws_eqLook.calls ((rd_T83 l0 x5_1).f0) ((rd_T83 l0 x5_1).f1.f0) ((rd_T83 l0 x5_1).f1.f1) ((rd_T83 l1 x5_1).f0) ((rd_T83 l1 x5_1).f1.f0) ((rd_T83 l1 x5_1).f1.f1) true _ A7.out).mono ?_
                rintro e w10 ⟨rfl, hb⟩
                refine ⟨_, rfl, ?_⟩
                have n0_ := Aside0.mk (below_step (hb_ HB.out) hb)
                clear HB
                have HB := n0_
                clear n0_
                (try clear hb)
                (try clear hb2)
                (try clear hk)
                (try clear hi)
                refine hK.out _ _ ⟨((HB.out.cell (World.block_lt_of_cell? w _ hw618_0)).trans hw618_0), ((HB.out.cell (World.block_lt_of_cell? w _ hw618_1)).trans hw618_1), ((HB.out.cell (World.block_lt_of_cell? w _ hw618_2)).trans hw618_2), ((HB.out.cell (World.block_lt_of_cell? w _ hw619_0)).trans hw619_0), ((HB.out.cell (World.block_lt_of_cell? w _ hw619_1)).trans hw619_1), ((HB.out.cell (World.block_lt_of_cell? w _ hw619_2)).trans hw619_2)⟩ (fun hHeld => ?_)
                clear hK K
                refine norm_ (a' := ?_) ?_ ?_
                rotate_left
                · show Act.put _ (some 25) _ = _
                  simp only [Act.put, List.setIfInBounds_toArray, List.set_cons_zero, List.set_cons_succ, i64_w, i32_w]
                  rfl
                refine pure_ (i := 9) (N := some 26) (v := ?_) (a' := ?_) #[true, true, true, true, true, true, true, true, true, true] rfl rfl (any_of HT_.out (by kernel_rfl)) (fun _ _ _ h => h) (Or.inl ⟨by rfl, ?_⟩) ?_ ?_
                rotate_left
                · intro w'
                  go_simp
                  with_reducible rfl
                rotate_left
                · simp only [Act.put, List.setIfInBounds_toArray, List.set_cons_zero, List.set_cons_succ, i64_w, i32_w]
                  rfl
                refine done_ (done_of HT_.out (by kernel_rfl)) ?_
                try go_wp2
                go_roundg k1
                case measure => have := HK1.out; omega
                case rel => exact ⟨(wrap64 (x5_1 + 1)), (by first | rfl | (simp; done) | (simp [*]; done)), H', ⟨by have := HK1.out; omega⟩, ⟨hb_ HB.out⟩⟩
              · replace c8 := Bool.eq_false_iff.mpr c8
                subst c8
                have H1 : (some false) = some r := by rw [if_neg (show ¬ (false = true) by decide)] at H; exact H
                clear H
                have H := H1
                clear H1
                obtain rfl := Option.some.inj H
                try go_wp2
                have n0_ := Aside0.mk (below_drew1 HB.out)
                clear HB
                have HB := n0_
                clear n0_
                have p618 : 0 ≤ (x5_1 : Int) := of_decide_eq_true (by first | (with_reducible assumption) | assumption)
                have q618 : x5_1 < (l0.length : Int) := of_decide_eq_true (by first | (with_reducible assumption) | assumption)
                obtain ⟨ad618, e618, hx618_0, hx618_1, hx618_2⟩ := at_T83 HR0.out x5_1 p618 q618
                have hw618_2 := hx618_2
                have hw618_1 := hx618_1
                have hw618_0 := hx618_0
                cases e618
                replace hx618_0 := (HB.out.cell (World.block_lt_of_cell? w _ hx618_0)).trans hx618_0
                replace hx618_1 := (HB.out.cell (World.block_lt_of_cell? w _ hx618_1)).trans hx618_1
                replace hx618_2 := (HB.out.cell (World.block_lt_of_cell? w _ hx618_2)).trans hx618_2
                replace p618 := eq_true p618
                replace q618 := eq_true q618
                have p619 : 0 ≤ (x5_1 : Int) := of_decide_eq_true (by first | (with_reducible assumption) | assumption)
                have q619 : x5_1 < (l1.length : Int) := of_decide_eq_true (by first | (with_reducible assumption) | assumption)
                obtain ⟨ad619, e619, hx619_0, hx619_1, hx619_2⟩ := at_T83 HR1.out x5_1 p619 q619
                have hw619_2 := hx619_2
                have hw619_1 := hx619_1
                have hw619_0 := hx619_0
                cases e619
                replace hx619_0 := (HB.out.cell (World.block_lt_of_cell? w _ hx619_0)).trans hx619_0
                replace hx619_1 := (HB.out.cell (World.block_lt_of_cell? w _ hx619_1)).trans hx619_1
                replace hx619_2 := (HB.out.cell (World.block_lt_of_cell? w _ hx619_2)).trans hx619_2
                replace p619 := eq_true p619
                replace q619 := eq_true q619
                refine start_ (n := 10) (S := fun w' => w'.cell? (ad618.add ((x5_1).toNat * 3)) = some (.bool ((rd_T83 l0 x5_1).f0)) ∧ w'.cell? ⟨(ad618.add ((x5_1).toNat * 3)).block, (ad618.add ((x5_1).toNat * 3)).off + 1, none⟩ = some (.int .i64 ((rd_T83 l0 x5_1).f1.f0)) ∧ w'.cell? ⟨(ad618.add ((x5_1).toNat * 3)).block, (ad618.add ((x5_1).toNat * 3)).off + 2, none⟩ = some (.int .i64 ((rd_T83 l0 x5_1).f1.f1)) ∧ w'.cell? (ad619.add ((x5_1).toNat * 3)) = some (.bool ((rd_T83 l1 x5_1).f0)) ∧ w'.cell? ⟨(ad619.add ((x5_1).toNat * 3)).block, (ad619.add ((x5_1).toNat * 3)).off + 1, none⟩ = some (.int .i64 ((rd_T83 l1 x5_1).f1.f0)) ∧ w'.cell? ⟨(ad619.add ((x5_1).toNat * 3)).block, (ad619.add ((x5_1).toNat * 3)).off + 2, none⟩ = some (.int .i64 ((rd_T83 l1 x5_1).f1.f1))) (ds := []) #[false, false, false, false, false, false, false, false, false, false] (by kernel_rfl) rfl rfl ⟨((HB.out.cell (World.block_lt_of_cell? w _ hw618_0)).trans hw618_0), ((HB.out.cell (World.block_lt_of_cell? w _ hw618_1)).trans hw618_1), ((HB.out.cell (World.block_lt_of_cell? w _ hw618_2)).trans hw618_2), ((HB.out.cell (World.block_lt_of_cell? w _ hw619_0)).trans hw619_0), ((HB.out.cell (World.block_lt_of_cell? w _ hw619_1)).trans hw619_1), ((HB.out.cell (World.block_lt_of_cell? w _ hw619_2)).trans hw619_2)⟩ (fun hHeld => ?_); refine with_tabW laws_eqLookS.tab6 laws_eqLookS.bits6 (fun HT_ HW_ => ?_)
                generalize wr.drew = w11 at HB hx618_0 hx618_1 hx618_2 hx619_0 hx619_1 hx619_2 hHeld ⊢
                refine pure_ (i := 0) (N := some 17) (v := ?_) (a' := ?_) #[true, false, false, false, false, false, false, false, false, false] rfl rfl (any_of HT_.out (by kernel_rfl)) (fun _ _ _ h => h) (Or.inl ⟨by rfl, ?_⟩) ?_ ?_
                rotate_left
                · intro w'
                  go_simp
                  with_reducible rfl
                rotate_left
                · simp only [Act.put, List.setIfInBounds_toArray, List.set_cons_zero, List.set_cons_succ, i64_w, i32_w]
                  rfl
                refine pure_ (i := 1) (N := some 18) (v := ?_) (a' := ?_) #[true, true, false, false, false, false, false, false, false, false] rfl rfl (any_of HT_.out (by kernel_rfl)) (fun _ _ _ h => h) (Or.inl ⟨by rfl, ?_⟩) ?_ ?_
                rotate_left
                · intro w'
                  go_simp
                  with_reducible rfl
                rotate_left
                · simp only [Act.put, List.setIfInBounds_toArray, List.set_cons_zero, List.set_cons_succ, i64_w, i32_w]
                  rfl
                refine pure_ (i := 2) (N := some 19) (v := ?_) (a' := ?_) #[true, true, true, false, false, false, false, false, false, false] rfl rfl (any_of HT_.out (by kernel_rfl)) (fun _ _ _ h => h) (Or.inl ⟨by rfl, ?_⟩) ?_ ?_
                rotate_left
                · intro w'
                  go_simp
                  with_reducible rfl
                rotate_left
                · simp only [Act.put, List.setIfInBounds_toArray, List.set_cons_zero, List.set_cons_succ, i64_w, i32_w]
                  rfl
                refine pure_ (i := 4) (N := some 21) (v := ?_) (a' := ?_) #[true, true, true, false, true, false, false, false, false, false] rfl rfl (any_of HT_.out (by kernel_rfl)) (fun _ _ _ h => h) (Or.inl ⟨by rfl, ?_⟩) ?_ ?_
                rotate_left
                · intro w'
                  go_simp
                  with_reducible rfl
                rotate_left
                · simp only [Act.put, List.setIfInBounds_toArray, List.set_cons_zero, List.set_cons_succ, i64_w, i32_w]
                  rfl
                refine pure_ (i := 5) (N := some 22) (v := ?_) (a' := ?_) #[true, true, true, false, true, true, false, false, false, false] rfl rfl (any_of HT_.out (by kernel_rfl)) (fun _ _ _ h => h) (Or.inl ⟨by rfl, ?_⟩) ?_ ?_
                rotate_left
                · intro w'
                  go_simp
                  with_reducible rfl
                rotate_left
                · simp only [Act.put, List.setIfInBounds_toArray, List.set_cons_zero, List.set_cons_succ, i64_w, i32_w]
                  rfl
                refine pure_ (i := 6) (N := some 23) (v := ?_) (a' := ?_) #[true, true, true, false, true, true, true, false, false, false] rfl rfl (any_of HT_.out (by kernel_rfl)) (fun _ _ _ h => h) (Or.inl ⟨by rfl, ?_⟩) ?_ ?_
                rotate_left
                · intro w'
                  go_simp
                  with_reducible rfl
                rotate_left
                · simp only [Act.put, List.setIfInBounds_toArray, List.set_cons_zero, List.set_cons_succ, i64_w, i32_w]
                  rfl
                refine take_ (i := 3) (N := some 20) (v := ?_) (a' := ?_) #[true, true, true, true, true, true, true, false, false, false] rfl rfl (take_ofW HT_.out HW_.out (by kernel_rfl)) (fun _ _ _ h => h) (Or.inl ⟨by rfl, ?_⟩) hHeld ?_ ?_
                rotate_left
                · rintro w' ⟨s0, s1, s2, s3, s4, s5⟩
                  go_simp
                  with_reducible rfl
                rotate_left
                · simp only [Act.put, List.setIfInBounds_toArray, List.set_cons_zero, List.set_cons_succ, i64_w, i32_w]
                  rfl
                refine take_ (i := 7) (N := some 24) (v := ?_) (a' := ?_) #[true, true, true, true, true, true, true, true, false, false] rfl rfl (take_ofW HT_.out HW_.out (by kernel_rfl)) (fun _ _ _ h => h) (Or.inl ⟨by rfl, ?_⟩) hHeld ?_ ?_
                rotate_left
                · rintro w' ⟨s0, s1, s2, s3, s4, s5⟩
                  go_simp
                  with_reducible rfl
                rotate_left
                · simp only [Act.put, List.setIfInBounds_toArray, List.set_cons_zero, List.set_cons_succ, i64_w, i32_w]
                  rfl
                refine one_ (i := 8) (N := some 25) #[true, true, true, true, true, true, true, true, true, false] rfl rfl (one_of HT_.out (by kernel_rfl)) (by decide) (fun K hK => ?_)
                refine goes_ Try.func91 (by kernel_rfl) rfl #[.agg #[.bool ((rd_T83 l0 x5_1).f0), .int .i64 ((rd_T83 l0 x5_1).f1.f0), .int .i64 ((rd_T83 l0 x5_1).f1.f1)], .agg #[.bool ((rd_T83 l1 x5_1).f0), .int .i64 ((rd_T83 l1 x5_1).f1.f0), .int .i64 ((rd_T83 l1 x5_1).f1.f1)]] (by rfl) rfl rfl arr_ ?_
                with_reducible refine (laws_eqLook.calls ((rd_T83 l0 x5_1).f0) ((rd_T83 l0 x5_1).f1.f0) ((rd_T83 l0 x5_1).f1.f1) ((rd_T83 l1 x5_1).f0) ((rd_T83 l1 x5_1).f1.f0) ((rd_T83 l1 x5_1).f1.f1) false _ A7.out).mono ?_
                rintro e w12 ⟨rfl, hb⟩
                refine ⟨_, rfl, ?_⟩
                have n0_ := Aside0.mk (below_step (hb_ HB.out) hb)
                clear HB
                have HB := n0_
                clear n0_
                (try clear hb)
                (try clear hb2)
                (try clear hk)
                (try clear hi)
                refine hK.out _ _ ⟨((HB.out.cell (World.block_lt_of_cell? w _ hw618_0)).trans hw618_0), ((HB.out.cell (World.block_lt_of_cell? w _ hw618_1)).trans hw618_1), ((HB.out.cell (World.block_lt_of_cell? w _ hw618_2)).trans hw618_2), ((HB.out.cell (World.block_lt_of_cell? w _ hw619_0)).trans hw619_0), ((HB.out.cell (World.block_lt_of_cell? w _ hw619_1)).trans hw619_1), ((HB.out.cell (World.block_lt_of_cell? w _ hw619_2)).trans hw619_2)⟩ (fun hHeld => ?_)
                clear hK K
                refine norm_ (a' := ?_) ?_ ?_
                rotate_left
                · show Act.put _ (some 25) _ = _
                  simp only [Act.put, List.setIfInBounds_toArray, List.set_cons_zero, List.set_cons_succ, i64_w, i32_w]
                  rfl
                refine pure_ (i := 9) (N := some 26) (v := ?_) (a' := ?_) #[true, true, true, true, true, true, true, true, true, true] rfl rfl (any_of HT_.out (by kernel_rfl)) (fun _ _ _ h => h) (Or.inl ⟨by rfl, ?_⟩) ?_ ?_
                rotate_left
                · intro w'
                  go_simp
                  with_reducible rfl
                rotate_left
                · simp only [Act.put, List.setIfInBounds_toArray, List.set_cons_zero, List.set_cons_succ, i64_w, i32_w]
                  rfl
                refine done_ (done_of HT_.out (by kernel_rfl)) ?_
                try go_wp2
                go_ret
                exact ⟨er_, hb_ HB.out⟩
            · rw [if_neg c6] at H
              exact absurd H (by simp)
          · rw [if_neg c5] at H
            exact absurd H (by simp)
        · rw [if_neg c4] at H
          have c4b0 : decide (x5_1 < (l0.length : Int)) = false := decide_eq_false c4
          clear c4
          obtain rfl := Option.some.inj H
          go_wp2
          go_ret
          exact ⟨er_, hb_ HB.out⟩
  · rw [if_neg c3] at H
    have c3b0 : ((l0.length : Int) == (l1.length : Int)) = false := beq_eq_false_iff_ne.mpr c3
    have c3b1 : ((l0.length : Int) != (l1.length : Int)) = true := bne_iff_ne.mpr c3
    have c3b2 : (l0.length == l1.length) = false := by first | simpa using c3 | (simp at c3 ⊢; omega)
    obtain rfl := Option.some.inj H
    go_enter Try.func44, Try.ntmps44
    go_wp2
    go_ret
    exact ⟨er_, hb_ HB.out⟩
def laws_markLookS.l0 : Nat → List (S83) → Int → Int → Option (Int × (List (S83)))
  | 0, _, _, _ => none
  | k + 1, x0, x1, x5 => if x5 < (x0.length : Int) then (if 0 ≤ x5 then ((some (x0.set (x5 : Int).toNat (⟨((Int.tmod x1 3) == 0), (⟨(rd_T83 x0 x5).f1.f0, (rd_T83 x0 x5).f1.f1⟩ : S81)⟩ : S83) : List (S83))).bind fun y621 => ((some (y621.set (x5 : Int).toNat (⟨(rd_T83 y621 x5).f0, (⟨wrap64 (x1 + 1), (rd_T83 y621 x5).f1.f1⟩ : S81)⟩ : S83) : List (S83))).bind fun y622 => (laws_markLookS.l0 k (y622.set (x5 : Int).toNat (⟨(rd_T83 y622 x5).f0, (⟨(rd_T83 y622 x5).f1.f0, wrap64 ((wrap64 (x1 + 1)) + 1)⟩ : S81)⟩ : S83)) (wrap64 ((wrap64 ((wrap64 (x1 + 1)) + 1)) + 1)) (wrap64 (x5 + 1))))) else (none)) else (some (x1, x0))
def laws_markLookS.f (k : Nat) (l0 : List (S83)) (a1 : Int) : Option (Int × (List (S83))) := laws_markLookS.l0 k l0 a1 0
set_option maxHeartbeats 8000000 in
set_option maxRecDepth 100000 in
theorem laws_markLookS.calls (k : Nat) (P0_ : Nat → Prop) (u9000_ : Value) (l0 : List (S83)) (a1 : Int) (r1 : Int) (r2 : List (S83)) (w0 w : World) (hB : Below w0.heap.size w0 w) (ho0 : Kd.R k83 83 w w0.heap.size P0_ u9000_ l0) (h : laws_markLookS.f k l0 a1 = some (r1, r2)) :
    Calls Try.prog 45 #[u9000_, .int .i64 a1] w fun e w' => e = .returned (.int .i64 r1) ∧ Kd.R k83 83 w' w0.heap.size (fun k_ => (P0_ k_ ∨ w.heap.size ≤ k_)) u9000_ r2 ∧ Below w0.heap.size w0 w' ∧ Kept w w' (fun k_ => P0_ k_) := by
  have HO0 := Aside0.mk (show Kd.R k83 83 w w0.heap.size (fun k_ => (P0_ k_ ∨ w.heap.size ≤ k_)) u9000_ l0 from Kd.R_mono ho0 (fun k_ hk => (.inl hk)))
  have HK := Aside0.mk (Kept.refl w (fun k_ => P0_ k_))
  have HW0 := Aside0.mk hB.size
  have HB := Aside0.mk hB
  clear hB
  have H : (laws_markLookS.l0 k l0 a1 0) = some (r1, r2) := h
  clear h
  have H' := Aside0.mk H
  clear H
  go_enter Try.func45, Try.ntmps45
  go_wp2
  go_loopg [1, 5] k (fun kq v1 v5 w' => ∃ (x0_1 : List (S83)) (x1_1 : Int) (x5_1 : Int), v1 = .int .i64 x1_1 ∧ v5 = .int .i64 x5_1 ∧ Aside0 (laws_markLookS.l0 kq x0_1 x1_1 x5_1 = some (r1, r2)) ∧ Aside0 (kq ≤ k) ∧ Aside0 (Kd.R k83 83 w' w0.heap.size (fun k_ => (P0_ k_ ∨ w.heap.size ≤ k_)) u9000_ x0_1) ∧ Aside0 (Kept w w' (fun k_ => P0_ k_)) ∧ Aside0 (Below w0.heap.size w0 w'))
  case atStart => exact ⟨(l0), (a1), (0), (by first | rfl | (simp; done) | (simp [*]; done)), (by first | rfl | (simp; done) | (simp [*]; done)), H', ⟨Nat.le_refl _⟩, ⟨by (with_reducible repeat (first | apply Kd.R_alloc | apply Kd.R_drewN | apply Kd.R_drew)); exact HO0.out⟩, ⟨by repeat (first | (with_reducible first | exact HK.out | apply Kept.alloc | apply Kept.drewN | apply Kept.drew) | exact HK.out)⟩, ⟨hb_ HB.out⟩⟩
  case round =>
    clear H'
    try clear p2
    obtain ⟨x0_1, x1_1, x5_1, rfl, rfl, HA, HK1, HO_0, HK, HB⟩ := hrel
    cases gk with
    | zero => exact absurd HA.out (by simp [laws_markLookS.l0])
    | succ k1 =>
      have H := HA.out
      clear HA
      simp only [laws_markLookS.l0] at H
      by_cases c3 : x5_1 < (x0_1.length : Int)
      · rw [if_pos c3] at H
        have c3b0 : decide (x5_1 < (x0_1.length : Int)) = true := decide_eq_true c3
        clear c3
        by_cases c4 : 0 ≤ x5_1
        · rw [if_pos c4] at H
          have c4b0 : decide (0 ≤ x5_1) = true := decide_eq_true c4
          clear c4
          obtain ⟨y621, hy621⟩ : ∃ y_ : List (S83), y_ = (x0_1.set (x5_1 : Int).toNat (⟨((Int.tmod x1_1 3) == 0), (⟨(rd_T83 x0_1 x5_1).f1.f0, (rd_T83 x0_1 x5_1).f1.f1⟩ : S81)⟩ : S83)) := ⟨_, rfl⟩
          replace H : ((some (y621.set (x5_1 : Int).toNat (⟨(rd_T83 y621 x5_1).f0, (⟨wrap64 (x1_1 + 1), (rd_T83 y621 x5_1).f1.f1⟩ : S81)⟩ : S83) : List (S83))).bind fun y622 => (laws_markLookS.l0 k1 (y622.set (x5_1 : Int).toNat (⟨(rd_T83 y622 x5_1).f0, (⟨(rd_T83 y622 x5_1).f1.f0, wrap64 ((wrap64 (x1_1 + 1)) + 1)⟩ : S81)⟩ : S83)) (wrap64 ((wrap64 ((wrap64 (x1_1 + 1)) + 1)) + 1)) (wrap64 (x5_1 + 1)))) = some (r1, r2) := by first | (rw [hy621]; with_reducible exact H) | (have H2_ := (Option.bind_some _ _).symm.trans H; rw [hy621]; with_reducible exact H2_) | (have H2_ := (Option.bind_some _ _).symm.trans H; with_reducible exact H2_) | with_reducible exact H | (rw [hy621]; exact H) | exact H
          have Ny621 := Aside0.mk hy621
          clear hy621
          obtain ⟨y622, hy622⟩ : ∃ y_ : List (S83), y_ = (y621.set (x5_1 : Int).toNat (⟨(rd_T83 y621 x5_1).f0, (⟨wrap64 (x1_1 + 1), (rd_T83 y621 x5_1).f1.f1⟩ : S81)⟩ : S83)) := ⟨_, rfl⟩
          replace H : (laws_markLookS.l0 k1 (y622.set (x5_1 : Int).toNat (⟨(rd_T83 y622 x5_1).f0, (⟨(rd_T83 y622 x5_1).f1.f0, wrap64 ((wrap64 (x1_1 + 1)) + 1)⟩ : S81)⟩ : S83)) (wrap64 ((wrap64 ((wrap64 (x1_1 + 1)) + 1)) + 1)) (wrap64 (x5_1 + 1))) = some (r1, r2) := by first | (rw [hy622]; with_reducible exact H) | (have H2_ := (Option.bind_some _ _).symm.trans H; rw [hy622]; with_reducible exact H2_) | (have H2_ := (Option.bind_some _ _).symm.trans H; with_reducible exact H2_) | with_reducible exact H | (rw [hy622]; exact H) | exact H
          have Ny622 := Aside0.mk hy622
          clear hy622
          obtain ⟨y623, hy623⟩ : ∃ y_ : List (S83), y_ = (y622.set (x5_1 : Int).toNat (⟨(rd_T83 y622 x5_1).f0, (⟨(rd_T83 y622 x5_1).f1.f0, wrap64 ((wrap64 (x1_1 + 1)) + 1)⟩ : S81)⟩ : S83)) := ⟨_, rfl⟩
          replace H : (laws_markLookS.l0 k1 y623 (wrap64 ((wrap64 ((wrap64 (x1_1 + 1)) + 1)) + 1)) (wrap64 (x5_1 + 1))) = some (r1, r2) := by first | (rw [hy623]; with_reducible exact H) | (have H2_ := (Option.bind_some _ _).symm.trans H; rw [hy623]; with_reducible exact H2_) | (have H2_ := (Option.bind_some _ _).symm.trans H; with_reducible exact H2_) | with_reducible exact H | (rw [hy623]; exact H) | exact H
          have Ny623 := Aside0.mk hy623
          clear hy623
          have H' := Aside0.mk H
          clear H
          obtain ⟨Ao8, co8, eo8⟩ := Kd.R_slice HO_0.out
          subst eo8
          have p5 : 0 ≤ (x5_1 : Int) := of_decide_eq_true (by first | (with_reducible assumption) | assumption)
          have q5 : (x5_1 : Int) < ((x0_1.length : Int) : Int) := of_decide_eq_true (by first | (with_reducible assumption) | assumption)
          obtain ⟨go5, co5, eo5, gb5, gl5, cl5, HG5⟩ := Kd.R_form HO_0.out (by omega)
          (first | cases eo5 | (injection eo5 with ea_ en_ ec_; (first | subst ea_ | (injection ea_ with ea_; subst ea_)); subst ec_; clear en_))
          have GB5 := Aside0.mk gb5
          have GG5 := Aside0.mk HG5
          clear gb5 gl5 HG5
          have HMgo5 := Aside0.mk (show (P0_ go5 ∨ w.heap.size ≤ go5) from (HO_0.out.1 _ rfl))
          obtain ⟨ce5, hcl5, hM5, hcc5, hfr5⟩ := Kd.R_elem HO_0.out z83 (x5_1 : Int) p5 q5
          obtain rfl := k83_openM hM5
          have hx5_0 : wr.cell? ⟨go5, (x5_1 : Int).toNat * 3, none⟩ = some (.bool ((rd_T83 x0_1 x5_1).f0)) := hcc5 0 _ rfl
          have hx5_1 : wr.cell? ⟨go5, (x5_1 : Int).toNat * 3 + 1, none⟩ = some (.int .i64 ((rd_T83 x0_1 x5_1).f1.f0)) := hcc5 1 _ rfl
          have hx5_2 : wr.cell? ⟨go5, (x5_1 : Int).toNat * 3 + 2, none⟩ = some (.int .i64 ((rd_T83 x0_1 x5_1).f1.f1)) := hcc5 2 _ rfl
          have hf5_0 : wr.frozen? ⟨go5, (x5_1 : Int).toNat * 3, none⟩ = false := hfr5 0
          have hf5_1 : wr.frozen? ⟨go5, (x5_1 : Int).toNat * 3 + 1, none⟩ = false := hfr5 1
          have hf5_2 : wr.frozen? ⟨go5, (x5_1 : Int).toNat * 3 + 2, none⟩ = false := hfr5 2
          clear hcl5 hcc5 hfr5 hM5
          replace p5 := eq_true p5
          replace q5 := eq_true q5
          have HX9 := Aside0.mk (show Kd.R k83 83 wr w0.heap.size (fun k_ => (P0_ k_ ∨ w.heap.size ≤ k_)) (.slice (some ⟨go5, 0, none⟩) x0_1.length co8) x0_1 from (by (with_reducible repeat (first | apply Kd.R_alloc | apply Kd.R_drewN | apply Kd.R_drew)); exact HO_0.out))
          obtain ⟨ce9, hcl9, hM9, hcc9, hfr9⟩ := Kd.R_elem HX9.out z83 (x5_1 : Int) (of_decide_eq_true (by first | (with_reducible assumption) | assumption)) (by have h_ : (x5_1 : Int) < ((x0_1.length : Int) : Int) := of_decide_eq_true (by first | (with_reducible assumption) | assumption); first | exact h_ | (have e_ := (Kd.R_reads' HO_0.out).1; omega) | simpa using h_)
          obtain rfl := k83_openM hM9
          have HP9 := Kd.R_seg HX9.out (x5_1 : Int) (of_decide_eq_true (by first | (with_reducible assumption) | assumption)) (by have h_ : (x5_1 : Int) < ((x0_1.length : Int) : Int) := of_decide_eq_true (by first | (with_reducible assumption) | assumption); first | exact h_ | (have e_ := (Kd.R_reads' HO_0.out).1; omega) | simpa using h_) (seg := [.bool ((Int.tmod x1_1 3) == 0)]) (j := 0) hcl9 hcc9 (show 1 ≤ 3 from by decide) (x' := (⟨((Int.tmod x1_1 3) == 0), (⟨(rd_T83 x0_1 x5_1).f1.f0, (rd_T83 x0_1 x5_1).f1.f1⟩ : S81)⟩ : S83)) (k83_mkM _ _ _ (⟨((Int.tmod x1_1 3) == 0), (⟨(rd_T83 x0_1 x5_1).f1.f0, (rd_T83 x0_1 x5_1).f1.f1⟩ : S81)⟩ : S83) ) (fun _ hk => hk)
          have hx9_0 := hcc9 0 _ rfl
          (try simp only [show (k83).sz = 3 from rfl, Nat.mul_one, Nat.add_zero] at hx9_0)
          have hf9_0 := hfr9 0
          (try simp only [show (k83).sz = 3 from rfl, Nat.mul_one, Nat.add_zero] at hf9_0)
          clear hcl9 hcc9 hfr9 hM9
          go_wp2_with (first | ((with_reducible refine gate_store (t := 4) (p := 18) rfl ?_); refine store_event (t := 4) (p := 18) (v := ?vo_w10) (w1 := (wr.setCell ⟨go5, (x5_1 : Int).toNat * 3, none⟩ (.bool ((Int.tmod x1_1 3) == 0)))) ?hg ?ho ?hn ?hr ?_; (case ho => rfl); (case hg => rfl); (case hn => rfl); (case hr => first | (go_simp; done) | (go_simp; rfl)); intro w10 hw; have hg : wr.grownBy w10 (some go5) := (by rw [hw]; exact HP9.2); have hp_ : Kd.R k83 83 w10 w0.heap.size (fun k_ => (P0_ k_ ∨ w.heap.size ≤ k_)) (.slice (some ⟨go5, 0, none⟩) x0_1.length co8) y621 := (by rw [hw, Ny621.out]; exact HP9.1); clear HP9; have n0_ := Aside0.mk (hp_); have n1_ := Aside0.mk ((by rw [hw]; exact below_set (HB.out) GB5.out : Below w0.heap.size w0 w10)); have n2_ := Aside0.mk (Kept.of_grown (S := (fun k_ => P0_ k_)) hg (by repeat (first | (with_reducible first | exact HK.out | apply Kept.alloc | apply Kept.drewN | apply Kept.drew) | exact HK.out)) (fun k_ e_ => (HO_0.out.1 k_ e_))); clear HO_0; clear HB; clear HK; have HO_0 := n0_; have HB := n1_; have HK := n2_; clear n0_ n1_ n2_; clear hg hw hp_; have p6 : 0 ≤ (x5_1 : Int) := of_decide_eq_true (by first | (with_reducible assumption) | assumption); have q6 : (x5_1 : Int) < ((x0_1.length : Int) : Int) := of_decide_eq_true (by first | (with_reducible assumption) | assumption); obtain ⟨ce6, hcl6, hM6, hcc6, hfr6⟩ := Kd.R_elem HO_0.out z83 (x5_1 : Int) p6 q6; obtain rfl := k83_openM hM6; have hx6_0 : w10.cell? ⟨go5, (x5_1 : Int).toNat * 3, none⟩ = some (.bool ((rd_T83 y621 x5_1).f0)) := hcc6 0 _ rfl; have hx6_1 : w10.cell? ⟨go5, (x5_1 : Int).toNat * 3 + 1, none⟩ = some (.int .i64 ((rd_T83 y621 x5_1).f1.f0)) := hcc6 1 _ rfl; have hx6_2 : w10.cell? ⟨go5, (x5_1 : Int).toNat * 3 + 2, none⟩ = some (.int .i64 ((rd_T83 y621 x5_1).f1.f1)) := hcc6 2 _ rfl; have hf6_0 : w10.frozen? ⟨go5, (x5_1 : Int).toNat * 3, none⟩ = false := hfr6 0; have hf6_1 : w10.frozen? ⟨go5, (x5_1 : Int).toNat * 3 + 1, none⟩ = false := hfr6 1; have hf6_2 : w10.frozen? ⟨go5, (x5_1 : Int).toNat * 3 + 2, none⟩ = false := hfr6 2; clear hcl6 hcc6 hfr6 hM6; replace p6 := eq_true p6; replace q6 := eq_true q6; have HX11 := Aside0.mk (show Kd.R k83 83 w10 w0.heap.size (fun k_ => (P0_ k_ ∨ w.heap.size ≤ k_)) (.slice (some ⟨go5, 0, none⟩) x0_1.length co8) y621 from (by (with_reducible repeat (first | apply Kd.R_alloc | apply Kd.R_drewN | apply Kd.R_drew)); exact HO_0.out)); obtain ⟨ce11, hcl11, hM11, hcc11, hfr11⟩ := Kd.R_elem HX11.out z83 (x5_1 : Int) (of_decide_eq_true (by first | (with_reducible assumption) | assumption)) (by have h_ : (x5_1 : Int) < ((x0_1.length : Int) : Int) := of_decide_eq_true (by first | (with_reducible assumption) | assumption); first | exact h_ | (have e_ := (Kd.R_reads' HO_0.out).1; omega) | simpa using h_); obtain rfl := k83_openM hM11; have HP11 := Kd.R_seg HX11.out (x5_1 : Int) (of_decide_eq_true (by first | (with_reducible assumption) | assumption)) (by have h_ : (x5_1 : Int) < ((x0_1.length : Int) : Int) := of_decide_eq_true (by first | (with_reducible assumption) | assumption); first | exact h_ | (have e_ := (Kd.R_reads' HO_0.out).1; omega) | simpa using h_) (seg := [.int .i64 (wrap64 (x1_1 + 1))]) (j := 1) hcl11 hcc11 (show 2 ≤ 3 from by decide) (x' := (⟨(rd_T83 y621 x5_1).f0, (⟨wrap64 (x1_1 + 1), (rd_T83 y621 x5_1).f1.f1⟩ : S81)⟩ : S83)) (k83_mkM _ _ _ (⟨(rd_T83 y621 x5_1).f0, (⟨wrap64 (x1_1 + 1), (rd_T83 y621 x5_1).f1.f1⟩ : S81)⟩ : S83) ) (fun _ hk => hk); have hx11_1 := hcc11 1 _ rfl; (try simp only [show (k83).sz = 3 from rfl, Nat.mul_one, Nat.add_zero] at hx11_1); have hf11_1 := hfr11 1; (try simp only [show (k83).sz = 3 from rfl, Nat.mul_one, Nat.add_zero] at hf11_1); clear hcl11 hcc11 hfr11 hM11) | ((with_reducible refine gate_store (t := 3) (p := 26) rfl ?_); refine store_event (t := 3) (p := 26) (v := ?vo_w12) (w1 := (w10.setCell ⟨go5, (x5_1 : Int).toNat * 3 + 1, none⟩ (.int .i64 (wrap64 (x1_1 + 1))))) ?hg ?ho ?hn ?hr ?_; (case ho => rfl); (case hg => rfl); (case hn => rfl); (case hr => first | (go_simp; done) | (go_simp; rfl)); intro w12 hw; have hg : w10.grownBy w12 (some go5) := (by rw [hw]; exact HP11.2); have hp_ : Kd.R k83 83 w12 w0.heap.size (fun k_ => (P0_ k_ ∨ w.heap.size ≤ k_)) (.slice (some ⟨go5, 0, none⟩) x0_1.length co8) y622 := (by rw [hw, Ny622.out]; exact HP11.1); clear HP11; have n0_ := Aside0.mk (hp_); have n1_ := Aside0.mk ((by rw [hw]; exact below_set (HB.out) GB5.out : Below w0.heap.size w0 w12)); have n2_ := Aside0.mk (Kept.of_grown (S := (fun k_ => P0_ k_)) hg (by repeat (first | (with_reducible first | exact HK.out | apply Kept.alloc | apply Kept.drewN | apply Kept.drew) | exact HK.out)) (fun k_ e_ => (HO_0.out.1 k_ e_))); clear HO_0; clear HB; clear HK; have HO_0 := n0_; have HB := n1_; have HK := n2_; clear n0_ n1_ n2_; clear hg hw hp_; have p7 : 0 ≤ (x5_1 : Int) := of_decide_eq_true (by first | (with_reducible assumption) | assumption); have q7 : (x5_1 : Int) < ((x0_1.length : Int) : Int) := of_decide_eq_true (by first | (with_reducible assumption) | assumption); obtain ⟨ce7, hcl7, hM7, hcc7, hfr7⟩ := Kd.R_elem HO_0.out z83 (x5_1 : Int) p7 q7; obtain rfl := k83_openM hM7; have hx7_0 : w12.cell? ⟨go5, (x5_1 : Int).toNat * 3, none⟩ = some (.bool ((rd_T83 y622 x5_1).f0)) := hcc7 0 _ rfl; have hx7_1 : w12.cell? ⟨go5, (x5_1 : Int).toNat * 3 + 1, none⟩ = some (.int .i64 ((rd_T83 y622 x5_1).f1.f0)) := hcc7 1 _ rfl; have hx7_2 : w12.cell? ⟨go5, (x5_1 : Int).toNat * 3 + 2, none⟩ = some (.int .i64 ((rd_T83 y622 x5_1).f1.f1)) := hcc7 2 _ rfl; have hf7_0 : w12.frozen? ⟨go5, (x5_1 : Int).toNat * 3, none⟩ = false := hfr7 0; have hf7_1 : w12.frozen? ⟨go5, (x5_1 : Int).toNat * 3 + 1, none⟩ = false := hfr7 1; have hf7_2 : w12.frozen? ⟨go5, (x5_1 : Int).toNat * 3 + 2, none⟩ = false := hfr7 2; clear hcl7 hcc7 hfr7 hM7; replace p7 := eq_true p7; replace q7 := eq_true q7; have HX13 := Aside0.mk (show Kd.R k83 83 w12 w0.heap.size (fun k_ => (P0_ k_ ∨ w.heap.size ≤ k_)) (.slice (some ⟨go5, 0, none⟩) x0_1.length co8) y622 from (by (with_reducible repeat (first | apply Kd.R_alloc | apply Kd.R_drewN | apply Kd.R_drew)); exact HO_0.out)); obtain ⟨ce13, hcl13, hM13, hcc13, hfr13⟩ := Kd.R_elem HX13.out z83 (x5_1 : Int) (of_decide_eq_true (by first | (with_reducible assumption) | assumption)) (by have h_ : (x5_1 : Int) < ((x0_1.length : Int) : Int) := of_decide_eq_true (by first | (with_reducible assumption) | assumption); first | exact h_ | (have e_ := (Kd.R_reads' HO_0.out).1; omega) | simpa using h_); obtain rfl := k83_openM hM13; have HP13 := Kd.R_seg HX13.out (x5_1 : Int) (of_decide_eq_true (by first | (with_reducible assumption) | assumption)) (by have h_ : (x5_1 : Int) < ((x0_1.length : Int) : Int) := of_decide_eq_true (by first | (with_reducible assumption) | assumption); first | exact h_ | (have e_ := (Kd.R_reads' HO_0.out).1; omega) | simpa using h_) (seg := [.int .i64 (wrap64 ((wrap64 (x1_1 + 1)) + 1))]) (j := 2) hcl13 hcc13 (show 3 ≤ 3 from by decide) (x' := (⟨(rd_T83 y622 x5_1).f0, (⟨(rd_T83 y622 x5_1).f1.f0, wrap64 ((wrap64 (x1_1 + 1)) + 1)⟩ : S81)⟩ : S83)) (k83_mkM _ _ _ (⟨(rd_T83 y622 x5_1).f0, (⟨(rd_T83 y622 x5_1).f1.f0, wrap64 ((wrap64 (x1_1 + 1)) + 1)⟩ : S81)⟩ : S83) ) (fun _ hk => hk); have hx13_2 := hcc13 2 _ rfl; (try simp only [show (k83).sz = 3 from rfl, Nat.mul_one, Nat.add_zero] at hx13_2); have hf13_2 := hfr13 2; (try simp only [show (k83).sz = 3 from rfl, Nat.mul_one, Nat.add_zero] at hf13_2); clear hcl13 hcc13 hfr13 hM13) | ((with_reducible refine gate_store (t := 3) (p := 34) rfl ?_); refine store_event (t := 3) (p := 34) (v := ?vo_w14) (w1 := (w12.setCell ⟨go5, (x5_1 : Int).toNat * 3 + 2, none⟩ (.int .i64 (wrap64 ((wrap64 (x1_1 + 1)) + 1))))) ?hg ?ho ?hn ?hr ?_; (case ho => rfl); (case hg => rfl); (case hn => rfl); (case hr => first | (go_simp; done) | (go_simp; rfl)); intro w14 hw; have hg : w12.grownBy w14 (some go5) := (by rw [hw]; exact HP13.2); have hp_ : Kd.R k83 83 w14 w0.heap.size (fun k_ => (P0_ k_ ∨ w.heap.size ≤ k_)) (.slice (some ⟨go5, 0, none⟩) x0_1.length co8) y623 := (by rw [hw, Ny623.out]; exact HP13.1); clear HP13; have n0_ := Aside0.mk (hp_); have n1_ := Aside0.mk ((by rw [hw]; exact below_set (HB.out) GB5.out : Below w0.heap.size w0 w14)); have n2_ := Aside0.mk (Kept.of_grown (S := (fun k_ => P0_ k_)) hg (by repeat (first | (with_reducible first | exact HK.out | apply Kept.alloc | apply Kept.drewN | apply Kept.drew) | exact HK.out)) (fun k_ e_ => (HO_0.out.1 k_ e_))); clear HO_0; clear HB; clear HK; have HO_0 := n0_; have HB := n1_; have HK := n2_; clear n0_ n1_ n2_; clear hg hw hp_))
          go_roundg k1
          case measure => have := HK1.out; omega
          case rel => exact ⟨(y623), (wrap64 ((wrap64 ((wrap64 (x1_1 + 1)) + 1)) + 1)), (wrap64 (x5_1 + 1)), (by first | rfl | (simp; done) | (simp [*]; done)), (by first | rfl | (simp; done) | (simp [*]; done)), H', ⟨by have := HK1.out; omega⟩, ⟨by (with_reducible repeat (first | apply Kd.R_alloc | apply Kd.R_drewN | apply Kd.R_drew)); exact HO_0.out⟩, ⟨by repeat (first | (with_reducible first | exact HK.out | apply Kept.alloc | apply Kept.drewN | apply Kept.drew) | exact HK.out)⟩, ⟨hb_ HB.out⟩⟩
        · rw [if_neg c4] at H
          exact absurd H (by simp)
      · rw [if_neg c3] at H
        have c3b0 : decide (x5_1 < (x0_1.length : Int)) = false := decide_eq_false c3
        clear c3
        simp only [Option.some.injEq, Prod.mk.injEq] at H
        obtain ⟨rfl, rfl⟩ := H
        obtain ⟨Ao15, co15, eo15⟩ := Kd.R_slice HO_0.out
        subst eo15
        go_wp2
        go_ret
        exact ⟨er_, by (with_reducible repeat (first | apply Kd.R_alloc | apply Kd.R_drewN | apply Kd.R_drew)); exact HO_0.out, by repeat (first | (with_reducible first | exact HB.out | apply below_alloc | apply pw_below_drewN | apply below_drew1) | exact HB.out), by repeat (first | (with_reducible first | exact HK.out | apply Kept.alloc | apply Kept.drewN | apply Kept.drew) | exact HK.out)⟩
def laws_markReadingS.l0 : Nat → List (S88) → Int → Int → Option (Int × (List (S88)))
  | 0, _, _, _ => none
  | k + 1, x0, x1, x5 => if x5 < (x0.length : Int) then (if 0 ≤ x5 then ((some (x0.set (x5 : Int).toNat (⟨x1, (rd_T88 x0 x5).f1, (rd_T88 x0 x5).f2⟩ : S88) : List (S88))).bind fun y623 => ((some (y623.set (x5 : Int).toNat (⟨(rd_T88 y623 x5).f0, ((Int.tmod (wrap64 (x1 + 1)) 3) == 0), (rd_T88 y623 x5).f2⟩ : S88) : List (S88))).bind fun y624 => (laws_markReadingS.l0 k (y624.set (x5 : Int).toNat (⟨(rd_T88 y624 x5).f0, (rd_T88 y624 x5).f1, wrap64 ((wrap64 (x1 + 1)) + 1)⟩ : S88)) (wrap64 ((wrap64 ((wrap64 (x1 + 1)) + 1)) + 1)) (wrap64 (x5 + 1))))) else (none)) else (some (x1, x0))
def laws_markReadingS.f (k : Nat) (l0 : List (S88)) (a1 : Int) : Option (Int × (List (S88))) := laws_markReadingS.l0 k l0 a1 0
set_option maxHeartbeats 8000000 in
set_option maxRecDepth 100000 in
theorem laws_markReadingS.calls (k : Nat) (P0_ : Nat → Prop) (u9000_ : Value) (l0 : List (S88)) (a1 : Int) (r1 : Int) (r2 : List (S88)) (w0 w : World) (hB : Below w0.heap.size w0 w) (ho0 : Kd.R k88 88 w w0.heap.size P0_ u9000_ l0) (h : laws_markReadingS.f k l0 a1 = some (r1, r2)) :
    Calls Try.prog 46 #[u9000_, .int .i64 a1] w fun e w' => e = .returned (.int .i64 r1) ∧ Kd.R k88 88 w' w0.heap.size (fun k_ => (P0_ k_ ∨ w.heap.size ≤ k_)) u9000_ r2 ∧ Below w0.heap.size w0 w' ∧ Kept w w' (fun k_ => P0_ k_) := by
  have HO0 := Aside0.mk (show Kd.R k88 88 w w0.heap.size (fun k_ => (P0_ k_ ∨ w.heap.size ≤ k_)) u9000_ l0 from Kd.R_mono ho0 (fun k_ hk => (.inl hk)))
  have HK := Aside0.mk (Kept.refl w (fun k_ => P0_ k_))
  have HW0 := Aside0.mk hB.size
  have HB := Aside0.mk hB
  clear hB
  have H : (laws_markReadingS.l0 k l0 a1 0) = some (r1, r2) := h
  clear h
  have H' := Aside0.mk H
  clear H
  go_enter Try.func46, Try.ntmps46
  go_wp2
  go_loopg [1, 5] k (fun kq v1 v5 w' => ∃ (x0_1 : List (S88)) (x1_1 : Int) (x5_1 : Int), v1 = .int .i64 x1_1 ∧ v5 = .int .i64 x5_1 ∧ Aside0 (laws_markReadingS.l0 kq x0_1 x1_1 x5_1 = some (r1, r2)) ∧ Aside0 (kq ≤ k) ∧ Aside0 (Kd.R k88 88 w' w0.heap.size (fun k_ => (P0_ k_ ∨ w.heap.size ≤ k_)) u9000_ x0_1) ∧ Aside0 (Kept w w' (fun k_ => P0_ k_)) ∧ Aside0 (Below w0.heap.size w0 w'))
  case atStart => exact ⟨(l0), (a1), (0), (by first | rfl | (simp; done) | (simp [*]; done)), (by first | rfl | (simp; done) | (simp [*]; done)), H', ⟨Nat.le_refl _⟩, ⟨by (with_reducible repeat (first | apply Kd.R_alloc | apply Kd.R_drewN | apply Kd.R_drew)); exact HO0.out⟩, ⟨by repeat (first | (with_reducible first | exact HK.out | apply Kept.alloc | apply Kept.drewN | apply Kept.drew) | exact HK.out)⟩, ⟨hb_ HB.out⟩⟩
  case round =>
    clear H'
    try clear p2
    obtain ⟨x0_1, x1_1, x5_1, rfl, rfl, HA, HK1, HO_0, HK, HB⟩ := hrel
    cases gk with
    | zero => exact absurd HA.out (by simp [laws_markReadingS.l0])
    | succ k1 =>
      have H := HA.out
      clear HA
      simp only [laws_markReadingS.l0] at H
      by_cases c3 : x5_1 < (x0_1.length : Int)
      · rw [if_pos c3] at H
        have c3b0 : decide (x5_1 < (x0_1.length : Int)) = true := decide_eq_true c3
        clear c3
        by_cases c4 : 0 ≤ x5_1
        · rw [if_pos c4] at H
          have c4b0 : decide (0 ≤ x5_1) = true := decide_eq_true c4
          clear c4
          obtain ⟨y623, hy623⟩ : ∃ y_ : List (S88), y_ = (x0_1.set (x5_1 : Int).toNat (⟨x1_1, (rd_T88 x0_1 x5_1).f1, (rd_T88 x0_1 x5_1).f2⟩ : S88)) := ⟨_, rfl⟩
          replace H : ((some (y623.set (x5_1 : Int).toNat (⟨(rd_T88 y623 x5_1).f0, ((Int.tmod (wrap64 (x1_1 + 1)) 3) == 0), (rd_T88 y623 x5_1).f2⟩ : S88) : List (S88))).bind fun y624 => (laws_markReadingS.l0 k1 (y624.set (x5_1 : Int).toNat (⟨(rd_T88 y624 x5_1).f0, (rd_T88 y624 x5_1).f1, wrap64 ((wrap64 (x1_1 + 1)) + 1)⟩ : S88)) (wrap64 ((wrap64 ((wrap64 (x1_1 + 1)) + 1)) + 1)) (wrap64 (x5_1 + 1)))) = some (r1, r2) := by first | (rw [hy623]; with_reducible exact H) | (have H2_ := (Option.bind_some _ _).symm.trans H; rw [hy623]; with_reducible exact H2_) | (have H2_ := (Option.bind_some _ _).symm.trans H; with_reducible exact H2_) | with_reducible exact H | (rw [hy623]; exact H) | exact H
          have Ny623 := Aside0.mk hy623
          clear hy623
          obtain ⟨y624, hy624⟩ : ∃ y_ : List (S88), y_ = (y623.set (x5_1 : Int).toNat (⟨(rd_T88 y623 x5_1).f0, ((Int.tmod (wrap64 (x1_1 + 1)) 3) == 0), (rd_T88 y623 x5_1).f2⟩ : S88)) := ⟨_, rfl⟩
          replace H : (laws_markReadingS.l0 k1 (y624.set (x5_1 : Int).toNat (⟨(rd_T88 y624 x5_1).f0, (rd_T88 y624 x5_1).f1, wrap64 ((wrap64 (x1_1 + 1)) + 1)⟩ : S88)) (wrap64 ((wrap64 ((wrap64 (x1_1 + 1)) + 1)) + 1)) (wrap64 (x5_1 + 1))) = some (r1, r2) := by first | (rw [hy624]; with_reducible exact H) | (have H2_ := (Option.bind_some _ _).symm.trans H; rw [hy624]; with_reducible exact H2_) | (have H2_ := (Option.bind_some _ _).symm.trans H; with_reducible exact H2_) | with_reducible exact H | (rw [hy624]; exact H) | exact H
          have Ny624 := Aside0.mk hy624
          clear hy624
          obtain ⟨y625, hy625⟩ : ∃ y_ : List (S88), y_ = (y624.set (x5_1 : Int).toNat (⟨(rd_T88 y624 x5_1).f0, (rd_T88 y624 x5_1).f1, wrap64 ((wrap64 (x1_1 + 1)) + 1)⟩ : S88)) := ⟨_, rfl⟩
          replace H : (laws_markReadingS.l0 k1 y625 (wrap64 ((wrap64 ((wrap64 (x1_1 + 1)) + 1)) + 1)) (wrap64 (x5_1 + 1))) = some (r1, r2) := by first | (rw [hy625]; with_reducible exact H) | (have H2_ := (Option.bind_some _ _).symm.trans H; rw [hy625]; with_reducible exact H2_) | (have H2_ := (Option.bind_some _ _).symm.trans H; with_reducible exact H2_) | with_reducible exact H | (rw [hy625]; exact H) | exact H
          have Ny625 := Aside0.mk hy625
          clear hy625
          have H' := Aside0.mk H
          clear H
          obtain ⟨Ao8, co8, eo8⟩ := Kd.R_slice HO_0.out
          subst eo8
          have p5 : 0 ≤ (x5_1 : Int) := of_decide_eq_true (by first | (with_reducible assumption) | assumption)
          have q5 : (x5_1 : Int) < ((x0_1.length : Int) : Int) := of_decide_eq_true (by first | (with_reducible assumption) | assumption)
          obtain ⟨go5, co5, eo5, gb5, gl5, cl5, HG5⟩ := Kd.R_form HO_0.out (by omega)
          (first | cases eo5 | (injection eo5 with ea_ en_ ec_; (first | subst ea_ | (injection ea_ with ea_; subst ea_)); subst ec_; clear en_))
          have GB5 := Aside0.mk gb5
          have GG5 := Aside0.mk HG5
          clear gb5 gl5 HG5
          have HMgo5 := Aside0.mk (show (P0_ go5 ∨ w.heap.size ≤ go5) from (HO_0.out.1 _ rfl))
          obtain ⟨ce5, hcl5, hM5, hcc5, hfr5⟩ := Kd.R_elem HO_0.out z88 (x5_1 : Int) p5 q5
          obtain rfl := k88_openM hM5
          have hx5_0 : wr.cell? ⟨go5, (x5_1 : Int).toNat * 3, none⟩ = some (.int .i64 ((rd_T88 x0_1 x5_1).f0)) := hcc5 0 _ rfl
          have hx5_1 : wr.cell? ⟨go5, (x5_1 : Int).toNat * 3 + 1, none⟩ = some (.bool ((rd_T88 x0_1 x5_1).f1)) := hcc5 1 _ rfl
          have hx5_2 : wr.cell? ⟨go5, (x5_1 : Int).toNat * 3 + 2, none⟩ = some (.int .i64 ((rd_T88 x0_1 x5_1).f2)) := hcc5 2 _ rfl
          have hf5_0 : wr.frozen? ⟨go5, (x5_1 : Int).toNat * 3, none⟩ = false := hfr5 0
          have hf5_1 : wr.frozen? ⟨go5, (x5_1 : Int).toNat * 3 + 1, none⟩ = false := hfr5 1
          have hf5_2 : wr.frozen? ⟨go5, (x5_1 : Int).toNat * 3 + 2, none⟩ = false := hfr5 2
          clear hcl5 hcc5 hfr5 hM5
          replace p5 := eq_true p5
          replace q5 := eq_true q5
          have HX9 := Aside0.mk (show Kd.R k88 88 wr w0.heap.size (fun k_ => (P0_ k_ ∨ w.heap.size ≤ k_)) (.slice (some ⟨go5, 0, none⟩) x0_1.length co8) x0_1 from (by (with_reducible repeat (first | apply Kd.R_alloc | apply Kd.R_drewN | apply Kd.R_drew)); exact HO_0.out))
          obtain ⟨ce9, hcl9, hM9, hcc9, hfr9⟩ := Kd.R_elem HX9.out z88 (x5_1 : Int) (of_decide_eq_true (by first | (with_reducible assumption) | assumption)) (by have h_ : (x5_1 : Int) < ((x0_1.length : Int) : Int) := of_decide_eq_true (by first | (with_reducible assumption) | assumption); first | exact h_ | (have e_ := (Kd.R_reads' HO_0.out).1; omega) | simpa using h_)
          obtain rfl := k88_openM hM9
          have HP9 := Kd.R_seg HX9.out (x5_1 : Int) (of_decide_eq_true (by first | (with_reducible assumption) | assumption)) (by have h_ : (x5_1 : Int) < ((x0_1.length : Int) : Int) := of_decide_eq_true (by first | (with_reducible assumption) | assumption); first | exact h_ | (have e_ := (Kd.R_reads' HO_0.out).1; omega) | simpa using h_) (seg := [.int .i64 x1_1]) (j := 0) hcl9 hcc9 (show 1 ≤ 3 from by decide) (x' := (⟨x1_1, (rd_T88 x0_1 x5_1).f1, (rd_T88 x0_1 x5_1).f2⟩ : S88)) (k88_mkM _ _ _ (⟨x1_1, (rd_T88 x0_1 x5_1).f1, (rd_T88 x0_1 x5_1).f2⟩ : S88) ) (fun _ hk => hk)
          have hx9_0 := hcc9 0 _ rfl
          (try simp only [show (k88).sz = 3 from rfl, Nat.mul_one, Nat.add_zero] at hx9_0)
          have hf9_0 := hfr9 0
          (try simp only [show (k88).sz = 3 from rfl, Nat.mul_one, Nat.add_zero] at hf9_0)
          clear hcl9 hcc9 hfr9 hM9
          go_wp2_with (first | ((with_reducible refine gate_store (t := 3) (p := 16) rfl ?_); refine store_event (t := 3) (p := 16) (v := ?vo_w10) (w1 := (wr.setCell ⟨go5, (x5_1 : Int).toNat * 3, none⟩ (.int .i64 x1_1))) ?hg ?ho ?hn ?hr ?_; (case ho => rfl); (case hg => rfl); (case hn => rfl); (case hr => first | (go_simp; done) | (go_simp; rfl)); intro w10 hw; have hg : wr.grownBy w10 (some go5) := (by rw [hw]; exact HP9.2); have hp_ : Kd.R k88 88 w10 w0.heap.size (fun k_ => (P0_ k_ ∨ w.heap.size ≤ k_)) (.slice (some ⟨go5, 0, none⟩) x0_1.length co8) y623 := (by rw [hw, Ny623.out]; exact HP9.1); clear HP9; have n0_ := Aside0.mk (hp_); have n1_ := Aside0.mk ((by rw [hw]; exact below_set (HB.out) GB5.out : Below w0.heap.size w0 w10)); have n2_ := Aside0.mk (Kept.of_grown (S := (fun k_ => P0_ k_)) hg (by repeat (first | (with_reducible first | exact HK.out | apply Kept.alloc | apply Kept.drewN | apply Kept.drew) | exact HK.out)) (fun k_ e_ => (HO_0.out.1 k_ e_))); clear HO_0; clear HB; clear HK; have HO_0 := n0_; have HB := n1_; have HK := n2_; clear n0_ n1_ n2_; clear hg hw hp_; have p6 : 0 ≤ (x5_1 : Int) := of_decide_eq_true (by first | (with_reducible assumption) | assumption); have q6 : (x5_1 : Int) < ((x0_1.length : Int) : Int) := of_decide_eq_true (by first | (with_reducible assumption) | assumption); obtain ⟨ce6, hcl6, hM6, hcc6, hfr6⟩ := Kd.R_elem HO_0.out z88 (x5_1 : Int) p6 q6; obtain rfl := k88_openM hM6; have hx6_0 : w10.cell? ⟨go5, (x5_1 : Int).toNat * 3, none⟩ = some (.int .i64 ((rd_T88 y623 x5_1).f0)) := hcc6 0 _ rfl; have hx6_1 : w10.cell? ⟨go5, (x5_1 : Int).toNat * 3 + 1, none⟩ = some (.bool ((rd_T88 y623 x5_1).f1)) := hcc6 1 _ rfl; have hx6_2 : w10.cell? ⟨go5, (x5_1 : Int).toNat * 3 + 2, none⟩ = some (.int .i64 ((rd_T88 y623 x5_1).f2)) := hcc6 2 _ rfl; have hf6_0 : w10.frozen? ⟨go5, (x5_1 : Int).toNat * 3, none⟩ = false := hfr6 0; have hf6_1 : w10.frozen? ⟨go5, (x5_1 : Int).toNat * 3 + 1, none⟩ = false := hfr6 1; have hf6_2 : w10.frozen? ⟨go5, (x5_1 : Int).toNat * 3 + 2, none⟩ = false := hfr6 2; clear hcl6 hcc6 hfr6 hM6; replace p6 := eq_true p6; replace q6 := eq_true q6; have HX11 := Aside0.mk (show Kd.R k88 88 w10 w0.heap.size (fun k_ => (P0_ k_ ∨ w.heap.size ≤ k_)) (.slice (some ⟨go5, 0, none⟩) x0_1.length co8) y623 from (by (with_reducible repeat (first | apply Kd.R_alloc | apply Kd.R_drewN | apply Kd.R_drew)); exact HO_0.out)); obtain ⟨ce11, hcl11, hM11, hcc11, hfr11⟩ := Kd.R_elem HX11.out z88 (x5_1 : Int) (of_decide_eq_true (by first | (with_reducible assumption) | assumption)) (by have h_ : (x5_1 : Int) < ((x0_1.length : Int) : Int) := of_decide_eq_true (by first | (with_reducible assumption) | assumption); first | exact h_ | (have e_ := (Kd.R_reads' HO_0.out).1; omega) | simpa using h_); obtain rfl := k88_openM hM11; have HP11 := Kd.R_seg HX11.out (x5_1 : Int) (of_decide_eq_true (by first | (with_reducible assumption) | assumption)) (by have h_ : (x5_1 : Int) < ((x0_1.length : Int) : Int) := of_decide_eq_true (by first | (with_reducible assumption) | assumption); first | exact h_ | (have e_ := (Kd.R_reads' HO_0.out).1; omega) | simpa using h_) (seg := [.bool ((Int.tmod (wrap64 (x1_1 + 1)) 3) == 0)]) (j := 1) hcl11 hcc11 (show 2 ≤ 3 from by decide) (x' := (⟨(rd_T88 y623 x5_1).f0, ((Int.tmod (wrap64 (x1_1 + 1)) 3) == 0), (rd_T88 y623 x5_1).f2⟩ : S88)) (k88_mkM _ _ _ (⟨(rd_T88 y623 x5_1).f0, ((Int.tmod (wrap64 (x1_1 + 1)) 3) == 0), (rd_T88 y623 x5_1).f2⟩ : S88) ) (fun _ hk => hk); have hx11_1 := hcc11 1 _ rfl; (try simp only [show (k88).sz = 3 from rfl, Nat.mul_one, Nat.add_zero] at hx11_1); have hf11_1 := hfr11 1; (try simp only [show (k88).sz = 3 from rfl, Nat.mul_one, Nat.add_zero] at hf11_1); clear hcl11 hcc11 hfr11 hM11) | ((with_reducible refine gate_store (t := 4) (p := 25) rfl ?_); refine store_event (t := 4) (p := 25) (v := ?vo_w12) (w1 := (w10.setCell ⟨go5, (x5_1 : Int).toNat * 3 + 1, none⟩ (.bool ((Int.tmod (wrap64 (x1_1 + 1)) 3) == 0)))) ?hg ?ho ?hn ?hr ?_; (case ho => rfl); (case hg => rfl); (case hn => rfl); (case hr => first | (go_simp; done) | (go_simp; rfl)); intro w12 hw; have hg : w10.grownBy w12 (some go5) := (by rw [hw]; exact HP11.2); have hp_ : Kd.R k88 88 w12 w0.heap.size (fun k_ => (P0_ k_ ∨ w.heap.size ≤ k_)) (.slice (some ⟨go5, 0, none⟩) x0_1.length co8) y624 := (by rw [hw, Ny624.out]; exact HP11.1); clear HP11; have n0_ := Aside0.mk (hp_); have n1_ := Aside0.mk ((by rw [hw]; exact below_set (HB.out) GB5.out : Below w0.heap.size w0 w12)); have n2_ := Aside0.mk (Kept.of_grown (S := (fun k_ => P0_ k_)) hg (by repeat (first | (with_reducible first | exact HK.out | apply Kept.alloc | apply Kept.drewN | apply Kept.drew) | exact HK.out)) (fun k_ e_ => (HO_0.out.1 k_ e_))); clear HO_0; clear HB; clear HK; have HO_0 := n0_; have HB := n1_; have HK := n2_; clear n0_ n1_ n2_; clear hg hw hp_; have p7 : 0 ≤ (x5_1 : Int) := of_decide_eq_true (by first | (with_reducible assumption) | assumption); have q7 : (x5_1 : Int) < ((x0_1.length : Int) : Int) := of_decide_eq_true (by first | (with_reducible assumption) | assumption); obtain ⟨ce7, hcl7, hM7, hcc7, hfr7⟩ := Kd.R_elem HO_0.out z88 (x5_1 : Int) p7 q7; obtain rfl := k88_openM hM7; have hx7_0 : w12.cell? ⟨go5, (x5_1 : Int).toNat * 3, none⟩ = some (.int .i64 ((rd_T88 y624 x5_1).f0)) := hcc7 0 _ rfl; have hx7_1 : w12.cell? ⟨go5, (x5_1 : Int).toNat * 3 + 1, none⟩ = some (.bool ((rd_T88 y624 x5_1).f1)) := hcc7 1 _ rfl; have hx7_2 : w12.cell? ⟨go5, (x5_1 : Int).toNat * 3 + 2, none⟩ = some (.int .i64 ((rd_T88 y624 x5_1).f2)) := hcc7 2 _ rfl; have hf7_0 : w12.frozen? ⟨go5, (x5_1 : Int).toNat * 3, none⟩ = false := hfr7 0; have hf7_1 : w12.frozen? ⟨go5, (x5_1 : Int).toNat * 3 + 1, none⟩ = false := hfr7 1; have hf7_2 : w12.frozen? ⟨go5, (x5_1 : Int).toNat * 3 + 2, none⟩ = false := hfr7 2; clear hcl7 hcc7 hfr7 hM7; replace p7 := eq_true p7; replace q7 := eq_true q7; have HX13 := Aside0.mk (show Kd.R k88 88 w12 w0.heap.size (fun k_ => (P0_ k_ ∨ w.heap.size ≤ k_)) (.slice (some ⟨go5, 0, none⟩) x0_1.length co8) y624 from (by (with_reducible repeat (first | apply Kd.R_alloc | apply Kd.R_drewN | apply Kd.R_drew)); exact HO_0.out)); obtain ⟨ce13, hcl13, hM13, hcc13, hfr13⟩ := Kd.R_elem HX13.out z88 (x5_1 : Int) (of_decide_eq_true (by first | (with_reducible assumption) | assumption)) (by have h_ : (x5_1 : Int) < ((x0_1.length : Int) : Int) := of_decide_eq_true (by first | (with_reducible assumption) | assumption); first | exact h_ | (have e_ := (Kd.R_reads' HO_0.out).1; omega) | simpa using h_); obtain rfl := k88_openM hM13; have HP13 := Kd.R_seg HX13.out (x5_1 : Int) (of_decide_eq_true (by first | (with_reducible assumption) | assumption)) (by have h_ : (x5_1 : Int) < ((x0_1.length : Int) : Int) := of_decide_eq_true (by first | (with_reducible assumption) | assumption); first | exact h_ | (have e_ := (Kd.R_reads' HO_0.out).1; omega) | simpa using h_) (seg := [.int .i64 (wrap64 ((wrap64 (x1_1 + 1)) + 1))]) (j := 2) hcl13 hcc13 (show 3 ≤ 3 from by decide) (x' := (⟨(rd_T88 y624 x5_1).f0, (rd_T88 y624 x5_1).f1, wrap64 ((wrap64 (x1_1 + 1)) + 1)⟩ : S88)) (k88_mkM _ _ _ (⟨(rd_T88 y624 x5_1).f0, (rd_T88 y624 x5_1).f1, wrap64 ((wrap64 (x1_1 + 1)) + 1)⟩ : S88) ) (fun _ hk => hk); have hx13_2 := hcc13 2 _ rfl; (try simp only [show (k88).sz = 3 from rfl, Nat.mul_one, Nat.add_zero] at hx13_2); have hf13_2 := hfr13 2; (try simp only [show (k88).sz = 3 from rfl, Nat.mul_one, Nat.add_zero] at hf13_2); clear hcl13 hcc13 hfr13 hM13) | ((with_reducible refine gate_store (t := 3) (p := 32) rfl ?_); refine store_event (t := 3) (p := 32) (v := ?vo_w14) (w1 := (w12.setCell ⟨go5, (x5_1 : Int).toNat * 3 + 2, none⟩ (.int .i64 (wrap64 ((wrap64 (x1_1 + 1)) + 1))))) ?hg ?ho ?hn ?hr ?_; (case ho => rfl); (case hg => rfl); (case hn => rfl); (case hr => first | (go_simp; done) | (go_simp; rfl)); intro w14 hw; have hg : w12.grownBy w14 (some go5) := (by rw [hw]; exact HP13.2); have hp_ : Kd.R k88 88 w14 w0.heap.size (fun k_ => (P0_ k_ ∨ w.heap.size ≤ k_)) (.slice (some ⟨go5, 0, none⟩) x0_1.length co8) y625 := (by rw [hw, Ny625.out]; exact HP13.1); clear HP13; have n0_ := Aside0.mk (hp_); have n1_ := Aside0.mk ((by rw [hw]; exact below_set (HB.out) GB5.out : Below w0.heap.size w0 w14)); have n2_ := Aside0.mk (Kept.of_grown (S := (fun k_ => P0_ k_)) hg (by repeat (first | (with_reducible first | exact HK.out | apply Kept.alloc | apply Kept.drewN | apply Kept.drew) | exact HK.out)) (fun k_ e_ => (HO_0.out.1 k_ e_))); clear HO_0; clear HB; clear HK; have HO_0 := n0_; have HB := n1_; have HK := n2_; clear n0_ n1_ n2_; clear hg hw hp_))
          go_roundg k1
          case measure => have := HK1.out; omega
          case rel => exact ⟨(y625), (wrap64 ((wrap64 ((wrap64 (x1_1 + 1)) + 1)) + 1)), (wrap64 (x5_1 + 1)), (by first | rfl | (simp; done) | (simp [*]; done)), (by first | rfl | (simp; done) | (simp [*]; done)), H', ⟨by have := HK1.out; omega⟩, ⟨by (with_reducible repeat (first | apply Kd.R_alloc | apply Kd.R_drewN | apply Kd.R_drew)); exact HO_0.out⟩, ⟨by repeat (first | (with_reducible first | exact HK.out | apply Kept.alloc | apply Kept.drewN | apply Kept.drew) | exact HK.out)⟩, ⟨hb_ HB.out⟩⟩
        · rw [if_neg c4] at H
          exact absurd H (by simp)
      · rw [if_neg c3] at H
        have c3b0 : decide (x5_1 < (x0_1.length : Int)) = false := decide_eq_false c3
        clear c3
        simp only [Option.some.injEq, Prod.mk.injEq] at H
        obtain ⟨rfl, rfl⟩ := H
        obtain ⟨Ao15, co15, eo15⟩ := Kd.R_slice HO_0.out
        subst eo15
        go_wp2
        go_ret
        exact ⟨er_, by (with_reducible repeat (first | apply Kd.R_alloc | apply Kd.R_drewN | apply Kd.R_drew)); exact HO_0.out, by repeat (first | (with_reducible first | exact HB.out | apply below_alloc | apply pw_below_drewN | apply below_drew1) | exact HB.out), by repeat (first | (with_reducible first | exact HK.out | apply Kept.alloc | apply Kept.drewN | apply Kept.drew) | exact HK.out)⟩
def laws_heldReadingS.l0 : Nat → List (S88) → Int → Int → Option (Int)
  | 0, _, _, _ => none
  | k + 1, x0, x1, x5 => if x5 < (x0.length : Int) then (if 0 ≤ x5 then (if ((rd_T88 x0 x5).f0) = x1 then (if (((rd_T88 x0 x5).f1) != ((Int.tmod (wrap64 (x1 + 1)) 3) == 0)) = true then (some (-1)) else (if ((rd_T88 x0 x5).f2) = (wrap64 ((wrap64 (x1 + 1)) + 1)) then (laws_heldReadingS.l0 k x0 (wrap64 ((wrap64 ((wrap64 (x1 + 1)) + 1)) + 1)) (wrap64 (x5 + 1))) else (some (-1)))) else (some (-1))) else (none)) else (some x1)
def laws_heldReadingS.f (k : Nat) (l0 : List (S88)) (a1 : Int) : Option (Int) := laws_heldReadingS.l0 k l0 a1 0
set_option maxHeartbeats 8000000 in
set_option maxRecDepth 100000 in
theorem laws_heldReadingS.calls (k : Nat) (A0 : Option Addr) (c0 : Nat) (l0 : List (S88)) (a1 : Int) (r : Int) (w : World) (hr0 : Kd.C k88 w A0 l0.length l0) (hc0 : l0.length ≤ c0) (h : laws_heldReadingS.f k l0 a1 = some r) :
    Calls Try.prog 47 #[.slice A0 l0.length c0, .int .i64 a1] w fun e w' => e = .returned (.int .i64 r) ∧ Drawn0 w w' := by
  have HR0 := Aside0.mk hr0
  have HC0 := Aside0.mk hc0
  clear hr0 hc0
  have H : (laws_heldReadingS.l0 k l0 a1 0) = some r := h
  clear h
  have H' := Aside0.mk H
  clear H
  go_enter Try.func47, Try.ntmps47
  go_wp2
  go_loopg [1, 5] k (fun kq v1 v5 w' => ∃ (x1_1 : Int) (x5_1 : Int), v1 = .int .i64 x1_1 ∧ v5 = .int .i64 x5_1 ∧ Aside0 (laws_heldReadingS.l0 kq l0 x1_1 x5_1 = some r) ∧ Aside0 (kq ≤ k) ∧ Drawn0 w w')
  case atStart => exact ⟨(a1), (0), (by first | rfl | (simp; done) | (simp [*]; done)), (by first | rfl | (simp; done) | (simp [*]; done)), H', ⟨Nat.le_refl _⟩, by repeat (first | exact Drawn0.refl _ | apply Drawn0.step)⟩
  case round =>
    clear H'
    try clear p2
    obtain ⟨x1_1, x5_1, rfl, rfl, HA, HK1, ⟨m1, rfl⟩⟩ := hrel
    cases gk with
    | zero => exact absurd HA.out (by simp [laws_heldReadingS.l0])
    | succ k1 =>
      have H := HA.out
      clear HA
      simp only [laws_heldReadingS.l0] at H
      by_cases c3 : x5_1 < (l0.length : Int)
      · rw [if_pos c3] at H
        have c3b0 : decide (x5_1 < (l0.length : Int)) = true := decide_eq_true c3
        clear c3
        by_cases c4 : 0 ≤ x5_1
        · rw [if_pos c4] at H
          have c4b0 : decide (0 ≤ x5_1) = true := decide_eq_true c4
          clear c4
          by_cases c5 : ((rd_T88 l0 x5_1).f0) = x1_1
          · rw [if_pos c5] at H
            have c5b0 : (((rd_T88 l0 x5_1).f0) == x1_1) = true := beq_iff_eq.mpr c5
            have c5b1 : (((rd_T88 l0 x5_1).f0) != x1_1) = false := bne_eq_false_iff_eq.mpr c5
            clear c5
            by_cases c6 : (((rd_T88 l0 x5_1).f1) != ((Int.tmod (wrap64 (x1_1 + 1)) 3) == 0)) = true
            · rw [if_pos c6] at H
              have c6b0 : (((rd_T88 l0 x5_1).f1) != ((Int.tmod (wrap64 (x1_1 + 1)) 3) == 0)) = true := c6
              (try (have c6b1 : decide (((rd_T88 l0 x5_1).f1) = ((Int.tmod (wrap64 (x1_1 + 1)) 3) == 0)) = false := by simpa using c6))
              (try (have c6b2 : (((rd_T88 l0 x5_1).f1) == ((Int.tmod (wrap64 (x1_1 + 1)) 3) == 0)) = false := by simpa using c6))
              (try (have c6b3 : ¬ (((rd_T88 l0 x5_1).f1) = ((Int.tmod (wrap64 (x1_1 + 1)) 3) == 0)) := by simpa using c6))
              clear c6
              obtain rfl := Option.some.inj H
              have p626 : 0 ≤ (x5_1 : Int) := of_decide_eq_true (by first | (with_reducible assumption) | assumption)
              have q626 : x5_1 < (l0.length : Int) := of_decide_eq_true (by first | (with_reducible assumption) | assumption)
              obtain ⟨ad626, e626, hx626_0, hx626_1, hx626_2⟩ := at_T88 HR0.out x5_1 p626 q626
              cases e626
              replace p626 := eq_true p626
              replace q626 := eq_true q626
              have p627 : 0 ≤ (x5_1 : Int) := of_decide_eq_true (by first | (with_reducible assumption) | assumption)
              have q627 : x5_1 < (l0.length : Int) := of_decide_eq_true (by first | (with_reducible assumption) | assumption)
              obtain ⟨ad627, e627, hx627_0, hx627_1, hx627_2⟩ := at_T88 HR0.out x5_1 p627 q627
              obtain rfl : ad626 = ad627 := (by injection e627)
              replace p627 := eq_true p627
              replace q627 := eq_true q627
              go_wp2
              go_ret
              exact ⟨by first | rfl | (simp; done) | (simp [*]; done), by repeat (first | exact Drawn0.refl _ | apply Drawn0.step)⟩
            · rw [if_neg c6] at H
              have c6b0 : (((rd_T88 l0 x5_1).f1) != ((Int.tmod (wrap64 (x1_1 + 1)) 3) == 0)) = false := by simpa using c6
              (try (have c6b1 : decide (((rd_T88 l0 x5_1).f1) = ((Int.tmod (wrap64 (x1_1 + 1)) 3) == 0)) = true := by simpa using c6))
              (try (have c6b2 : (((rd_T88 l0 x5_1).f1) == ((Int.tmod (wrap64 (x1_1 + 1)) 3) == 0)) = true := by simpa using c6))
              clear c6
              by_cases c7 : ((rd_T88 l0 x5_1).f2) = (wrap64 ((wrap64 (x1_1 + 1)) + 1))
              · rw [if_pos c7] at H
                have c7b0 : (((rd_T88 l0 x5_1).f2) == (wrap64 ((wrap64 (x1_1 + 1)) + 1))) = true := beq_iff_eq.mpr c7
                have c7b1 : (((rd_T88 l0 x5_1).f2) != (wrap64 ((wrap64 (x1_1 + 1)) + 1))) = false := bne_eq_false_iff_eq.mpr c7
                clear c7
                have H' := Aside0.mk H
                clear H
                have p626 : 0 ≤ (x5_1 : Int) := of_decide_eq_true (by first | (with_reducible assumption) | assumption)
                have q626 : x5_1 < (l0.length : Int) := of_decide_eq_true (by first | (with_reducible assumption) | assumption)
                obtain ⟨ad626, e626, hx626_0, hx626_1, hx626_2⟩ := at_T88 HR0.out x5_1 p626 q626
                cases e626
                replace p626 := eq_true p626
                replace q626 := eq_true q626
                have p627 : 0 ≤ (x5_1 : Int) := of_decide_eq_true (by first | (with_reducible assumption) | assumption)
                have q627 : x5_1 < (l0.length : Int) := of_decide_eq_true (by first | (with_reducible assumption) | assumption)
                obtain ⟨ad627, e627, hx627_0, hx627_1, hx627_2⟩ := at_T88 HR0.out x5_1 p627 q627
                obtain rfl : ad626 = ad627 := (by injection e627)
                replace p627 := eq_true p627
                replace q627 := eq_true q627
                have p628 : 0 ≤ (x5_1 : Int) := of_decide_eq_true (by first | (with_reducible assumption) | assumption)
                have q628 : x5_1 < (l0.length : Int) := of_decide_eq_true (by first | (with_reducible assumption) | assumption)
                obtain ⟨ad628, e628, hx628_0, hx628_1, hx628_2⟩ := at_T88 HR0.out x5_1 p628 q628
                obtain rfl : ad626 = ad628 := (by injection e628)
                replace p628 := eq_true p628
                replace q628 := eq_true q628
                go_wp2
                go_roundg k1
                case measure => have := HK1.out; omega
                case rel => exact ⟨(wrap64 ((wrap64 ((wrap64 (x1_1 + 1)) + 1)) + 1)), (wrap64 (x5_1 + 1)), (by first | rfl | (simp; done) | (simp [*]; done)), (by first | rfl | (simp; done) | (simp [*]; done)), H', ⟨by have := HK1.out; omega⟩, by repeat (first | exact Drawn0.refl _ | apply Drawn0.step)⟩
              · rw [if_neg c7] at H
                have c7b0 : (((rd_T88 l0 x5_1).f2) == (wrap64 ((wrap64 (x1_1 + 1)) + 1))) = false := beq_eq_false_iff_ne.mpr c7
                have c7b1 : (((rd_T88 l0 x5_1).f2) != (wrap64 ((wrap64 (x1_1 + 1)) + 1))) = true := bne_iff_ne.mpr c7
                obtain rfl := Option.some.inj H
                have p626 : 0 ≤ (x5_1 : Int) := of_decide_eq_true (by first | (with_reducible assumption) | assumption)
                have q626 : x5_1 < (l0.length : Int) := of_decide_eq_true (by first | (with_reducible assumption) | assumption)
                obtain ⟨ad626, e626, hx626_0, hx626_1, hx626_2⟩ := at_T88 HR0.out x5_1 p626 q626
                cases e626
                replace p626 := eq_true p626
                replace q626 := eq_true q626
                have p627 : 0 ≤ (x5_1 : Int) := of_decide_eq_true (by first | (with_reducible assumption) | assumption)
                have q627 : x5_1 < (l0.length : Int) := of_decide_eq_true (by first | (with_reducible assumption) | assumption)
                obtain ⟨ad627, e627, hx627_0, hx627_1, hx627_2⟩ := at_T88 HR0.out x5_1 p627 q627
                obtain rfl : ad626 = ad627 := (by injection e627)
                replace p627 := eq_true p627
                replace q627 := eq_true q627
                have p628 : 0 ≤ (x5_1 : Int) := of_decide_eq_true (by first | (with_reducible assumption) | assumption)
                have q628 : x5_1 < (l0.length : Int) := of_decide_eq_true (by first | (with_reducible assumption) | assumption)
                obtain ⟨ad628, e628, hx628_0, hx628_1, hx628_2⟩ := at_T88 HR0.out x5_1 p628 q628
                obtain rfl : ad626 = ad628 := (by injection e628)
                replace p628 := eq_true p628
                replace q628 := eq_true q628
                go_wp2
                go_ret
                exact ⟨by first | rfl | (simp; done) | (simp [*]; done), by repeat (first | exact Drawn0.refl _ | apply Drawn0.step)⟩
          · rw [if_neg c5] at H
            have c5b0 : (((rd_T88 l0 x5_1).f0) == x1_1) = false := beq_eq_false_iff_ne.mpr c5
            have c5b1 : (((rd_T88 l0 x5_1).f0) != x1_1) = true := bne_iff_ne.mpr c5
            obtain rfl := Option.some.inj H
            have p626 : 0 ≤ (x5_1 : Int) := of_decide_eq_true (by first | (with_reducible assumption) | assumption)
            have q626 : x5_1 < (l0.length : Int) := of_decide_eq_true (by first | (with_reducible assumption) | assumption)
            obtain ⟨ad626, e626, hx626_0, hx626_1, hx626_2⟩ := at_T88 HR0.out x5_1 p626 q626
            cases e626
            replace p626 := eq_true p626
            replace q626 := eq_true q626
            go_wp2
            go_ret
            exact ⟨by first | rfl | (simp; done) | (simp [*]; done), by repeat (first | exact Drawn0.refl _ | apply Drawn0.step)⟩
        · rw [if_neg c4] at H
          exact absurd H (by simp)
      · rw [if_neg c3] at H
        have c3b0 : decide (x5_1 < (l0.length : Int)) = false := decide_eq_false c3
        clear c3
        obtain rfl := Option.some.inj H
        go_wp2
        go_ret
        exact ⟨by first | rfl | (simp; done) | (simp [*]; done), by repeat (first | exact Drawn0.refl _ | apply Drawn0.step)⟩
end Go.Proofs.Ytcgdnfaclbnflaa.P
namespace Go.Proofs.Ytcgdnfaclbnflaa.P
open Go.RowKit Go.Proofs.YtcgdnfaclbnflaaW.PrintWords Go.Proofs.YtcgdnfaclbnflaaW.PrintLast Go.Proofs.YtcgdnfaclbnflaaW.PrintMore
attribute [local go_sem] max2_int min2_int max_two min_two max_three min_three max_four min_four
set_option linter.unusedVariables false
set_option linter.unusedSimpArgs false
mutual
def laws_FnExactAppRun.j0 : Nat → List (S126) → List (S88) → List (S83) → List (S88) → Bool → Bool → Int → Bool → Int → Bool → Int → Option (Bool)
  | 0, _, _, _, _, _, _, _, _, _, _, _ => none
  | k + 1, x1, x6, x8, x9, x47, x631000, x631001, x643000, x643001, x654000, x654001 => if x47 = true then (some false) else ((laws_toLookS.f k x1).bind fun t656 => ((laws_eqLookS.f k x8 t656).bind fun t659 => (if t659 = true then ((laws_markLookS.f k x8 1).bind fun bt660 => (if bt660.1 < 0 then (laws_FnExactAppRun.j1 k x1 x6 x9 true x631000 x631001 x643000 x643001) else ((laws_eqReadingS.f k x9 x6).bind fun t662 => (if t662 = true then ((laws_eqApp.f x654000 x654001 x643000 x643001).bind fun t663 => (laws_FnExactAppRun.j1 k x1 x6 x9 (!t663) x631000 x631001 x643000 x643001)) else (laws_FnExactAppRun.j1 k x1 x6 x9 true x631000 x631001 x643000 x643001))))) else (some false))))
def laws_FnExactAppRun.j1 : Nat → List (S126) → List (S88) → List (S88) → Bool → Bool → Int → Bool → Int → Option (Bool)
  | 0, _, _, _, _, _, _, _, _ => none
  | k + 1, x1, x6, x9, x69, x631000, x631001, x643000, x643001 => if x69 = true then (some false) else ((laws_markReadingS.f k x9 1).bind fun bt664 => ((laws_heldReadingS.f k bt664.2 1).bind fun t666 => (if t666 < 0 then (some false) else (if t666 = bt664.1 then ((laws_toApp.f x631000 x631001).bind fun bt667 => ((laws_toLookS.f k x1).bind fun t669 => ((impl_AppRun.f k bt667.1 bt667.2 t669).bind fun bt672 => ((laws_eqReadingS.f k bt672.1 x6).bind fun t678 => (if t678 = true then ((laws_eqApp.f bt672.2.1 bt672.2.2 x643000 x643001).bind fun t679 => (laws_FnExactAppRun.j2 k bt664.2 bt664.1 (!t679))) else (laws_FnExactAppRun.j2 k bt664.2 bt664.1 true)))))) else (some false)))))
def laws_FnExactAppRun.j2 : Nat → List (S88) → Int → Bool → Option (Bool)
  | 0, _, _, _ => none
  | k + 1, x9, x12, x98 => if x98 = true then (some false) else ((laws_heldReadingS.f k x9 1).bind fun t680 => (if t680 < 0 then (some false) else (if t680 = x12 then (some true) else (some false))))
end
def laws_FnExactAppRun.f (k : Nat) (a0_0 : Bool) (a0_1 : Int) (l1 : List (S126)) : Option (Bool) := (laws_szLookS.f l1 1048576).bind fun t631 => (if t631 < 0 then (some true) else ((laws_toApp.f a0_0 a0_1).bind fun bt632 => ((laws_toLookS.f k l1).bind fun t634 => ((spec_AppRun.f k bt632.1 bt632.2 t634).bind fun bt637 => ((laws_toLookS.f k l1).bind fun t643 => ((laws_toApp.f a0_0 a0_1).bind fun bt646 => ((impl_AppRun.f k bt646.1 bt646.2 t643).bind fun bt648 => ((laws_eqReadingS.f k bt648.1 bt637.1).bind fun t654 => (if t654 = true then ((laws_eqApp.f bt648.2.1 bt648.2.2 bt637.2.1 bt637.2.2).bind fun t655 => (laws_FnExactAppRun.j0 k l1 bt637.1 t643 bt648.1 (!t655) a0_0 a0_1 bt637.2.1 bt637.2.2 bt648.2.1 bt648.2.2)) else (laws_FnExactAppRun.j0 k l1 bt637.1 t643 bt648.1 true a0_0 a0_1 bt637.2.1 bt637.2.2 bt648.2.1 bt648.2.2))))))))))
set_option maxHeartbeats 8000000 in
set_option maxRecDepth 100000 in
theorem laws_FnExactAppRun.calls (k : Nat) (a0_0 : Bool) (a0_1 : Int) (A1 : Option Addr) (c1 : Nat) (l1 : List (S126)) (r : Bool) (w : World) (hr1 : Kd.C k126 w A1 l1.length l1) (hc1 : l1.length ≤ c1) (hr_ : r = true) (h : laws_FnExactAppRun.f k a0_0 a0_1 l1 = some r) :
    Calls Try.prog 7 #[.agg #[.bool a0_0, .int .i64 a0_1], .slice A1 l1.length c1] w fun e w' => e = .returned (.bool r) ∧ Below w.heap.size w w' := by
  have hu62 := Try.underlying62
  have hu66 := Try.underlying66
  have HR1 := Aside0.mk hr1
  have HC1 := Aside0.mk hc1
  clear hr1 hc1
  have HB := Aside0.mk (Below.refl w.heap.size w)
  have H : ((laws_szLookS.f l1 1048576).bind fun t631 => (if t631 < 0 then (some true) else ((laws_toApp.f a0_0 a0_1).bind fun bt632 => ((laws_toLookS.f k l1).bind fun t634 => ((spec_AppRun.f k bt632.1 bt632.2 t634).bind fun bt637 => ((laws_toLookS.f k l1).bind fun t643 => ((laws_toApp.f a0_0 a0_1).bind fun bt646 => ((impl_AppRun.f k bt646.1 bt646.2 t643).bind fun bt648 => ((laws_eqReadingS.f k bt648.1 bt637.1).bind fun t654 => (if t654 = true then ((laws_eqApp.f bt648.2.1 bt648.2.2 bt637.2.1 bt637.2.2).bind fun t655 => (laws_FnExactAppRun.j0 k l1 bt637.1 t643 bt648.1 (!t655) a0_0 a0_1 bt637.2.1 bt637.2.2 bt648.2.1 bt648.2.2)) else (laws_FnExactAppRun.j0 k l1 bt637.1 t643 bt648.1 true a0_0 a0_1 bt637.2.1 bt637.2.2 bt648.2.1 bt648.2.2))))))))))) = some r := h
  clear h
  replace H := Option.bind_eq_some_iff.mp H
  obtain ⟨t631, A30, H⟩ := H
  replace H : (if t631 < 0 then (some true) else ((laws_toApp.f a0_0 a0_1).bind fun bt632 => ((laws_toLookS.f k l1).bind fun t634 => ((spec_AppRun.f k bt632.1 bt632.2 t634).bind fun bt637 => ((laws_toLookS.f k l1).bind fun t643 => ((laws_toApp.f a0_0 a0_1).bind fun bt646 => ((impl_AppRun.f k bt646.1 bt646.2 t643).bind fun bt648 => ((laws_eqReadingS.f k bt648.1 bt637.1).bind fun t654 => (if t654 = true then ((laws_eqApp.f bt648.2.1 bt648.2.2 bt637.2.1 bt637.2.2).bind fun t655 => (laws_FnExactAppRun.j0 k l1 bt637.1 t643 bt648.1 (!t655) a0_0 a0_1 bt637.2.1 bt637.2.2 bt648.2.1 bt648.2.2)) else (laws_FnExactAppRun.j0 k l1 bt637.1 t643 bt648.1 true a0_0 a0_1 bt637.2.1 bt637.2.2 bt648.2.1 bt648.2.2)))))))))) = some r := H
  have A3 := Aside0.mk A30
  clear A30
  by_cases c4 : t631 < 0
  · rw [if_pos c4] at H
    have c4b0 : decide (t631 < 0) = true := decide_eq_true c4
    clear c4
    obtain rfl := Option.some.inj H
    go_enter Try.func7, Try.ntmps7
    go_wp2_with (first | ((with_reducible refine gate_dst (N := 2) rfl ?_); refine box_event ?hg (N := 2) ?hd (cs := #[.bool a0_0, .int .i64 a0_1]) (t := 62) ?hr ?_; (case hd => rfl); (case hg => rfl); (case hr => first | (go_simp; done) | (go_simp; rfl)); intro gb630 hg w5 hbox hb; have n0_ := Aside0.mk (below_step (hb_ HB.out) hb); have n1_ := Aside0.mk (hbox); have n2_ := Aside0.mk ((by rw [hg]; exact (below_size (hb_ HB.out)) : w.heap.size ≤ gb630)); have n3_ := Aside0.mk ((by rw [hg]; exact (below_size (hb_ HB.out)) : w.heap.size ≤ gb630)); clear HB; have HB := n0_; have BK630 := n1_; have GW630 := n2_; have GE630 := n3_; clear n0_ n1_ n2_ n3_; clear hb hbox hg) | ((with_reducible refine gate_callee (f := 37) rfl ?_); refine goesL_ (some 18) rfl rfl Try.func37 (by kernel_rfl) rfl #[.slice A1 l1.length c1, .int .i64 1048576] rfl arr_ ?_; (with_reducible refine (laws_szLookS.calls _ _ l1 1048576 t631 _ ?side1 ?side2 A3.out).mono ?_); (case side1 => exact kc_ (Kd.C_below HR1.out HB.out)); (case side2 => exact HC1.out); rintro e w' ⟨rfl, ⟨nd, rfl⟩⟩; refine ⟨_, rfl, ?_⟩))
    go_ret
    exact ⟨er_, hb1_ HB.out GE630.out⟩
  · rw [if_neg c4] at H
    have c4b0 : decide (t631 < 0) = false := decide_eq_false c4
    clear c4
    replace H := Option.bind_eq_some_iff.mp H
    obtain ⟨⟨t632, t633⟩, A60, H⟩ := H
    replace H : ((laws_toLookS.f k l1).bind fun t634 => ((spec_AppRun.f k t632 t633 t634).bind fun bt637 => ((laws_toLookS.f k l1).bind fun t643 => ((laws_toApp.f a0_0 a0_1).bind fun bt646 => ((impl_AppRun.f k bt646.1 bt646.2 t643).bind fun bt648 => ((laws_eqReadingS.f k bt648.1 bt637.1).bind fun t654 => (if t654 = true then ((laws_eqApp.f bt648.2.1 bt648.2.2 bt637.2.1 bt637.2.2).bind fun t655 => (laws_FnExactAppRun.j0 k l1 bt637.1 t643 bt648.1 (!t655) a0_0 a0_1 bt637.2.1 bt637.2.2 bt648.2.1 bt648.2.2)) else (laws_FnExactAppRun.j0 k l1 bt637.1 t643 bt648.1 true a0_0 a0_1 bt637.2.1 bt637.2.2 bt648.2.1 bt648.2.2)))))))) = some r := H
    have A6 := Aside0.mk A60
    clear A60
    replace H := Option.bind_eq_some_iff.mp H
    obtain ⟨t634, A70, H⟩ := H
    replace H : ((spec_AppRun.f k t632 t633 t634).bind fun bt637 => ((laws_toLookS.f k l1).bind fun t643 => ((laws_toApp.f a0_0 a0_1).bind fun bt646 => ((impl_AppRun.f k bt646.1 bt646.2 t643).bind fun bt648 => ((laws_eqReadingS.f k bt648.1 bt637.1).bind fun t654 => (if t654 = true then ((laws_eqApp.f bt648.2.1 bt648.2.2 bt637.2.1 bt637.2.2).bind fun t655 => (laws_FnExactAppRun.j0 k l1 bt637.1 t643 bt648.1 (!t655) a0_0 a0_1 bt637.2.1 bt637.2.2 bt648.2.1 bt648.2.2)) else (laws_FnExactAppRun.j0 k l1 bt637.1 t643 bt648.1 true a0_0 a0_1 bt637.2.1 bt637.2.2 bt648.2.1 bt648.2.2))))))) = some r := H
    have A7 := Aside0.mk A70
    clear A70
    replace H := Option.bind_eq_some_iff.mp H
    obtain ⟨⟨t637, t640, t641⟩, A80, H⟩ := H
    replace H : ((laws_toLookS.f k l1).bind fun t643 => ((laws_toApp.f a0_0 a0_1).bind fun bt646 => ((impl_AppRun.f k bt646.1 bt646.2 t643).bind fun bt648 => ((laws_eqReadingS.f k bt648.1 t637).bind fun t654 => (if t654 = true then ((laws_eqApp.f bt648.2.1 bt648.2.2 t640 t641).bind fun t655 => (laws_FnExactAppRun.j0 k l1 t637 t643 bt648.1 (!t655) a0_0 a0_1 t640 t641 bt648.2.1 bt648.2.2)) else (laws_FnExactAppRun.j0 k l1 t637 t643 bt648.1 true a0_0 a0_1 t640 t641 bt648.2.1 bt648.2.2)))))) = some r := H
    have A8 := Aside0.mk A80
    clear A80
    replace H := Option.bind_eq_some_iff.mp H
    obtain ⟨t643, A90, H⟩ := H
    replace H : ((laws_toApp.f a0_0 a0_1).bind fun bt646 => ((impl_AppRun.f k bt646.1 bt646.2 t643).bind fun bt648 => ((laws_eqReadingS.f k bt648.1 t637).bind fun t654 => (if t654 = true then ((laws_eqApp.f bt648.2.1 bt648.2.2 t640 t641).bind fun t655 => (laws_FnExactAppRun.j0 k l1 t637 t643 bt648.1 (!t655) a0_0 a0_1 t640 t641 bt648.2.1 bt648.2.2)) else (laws_FnExactAppRun.j0 k l1 t637 t643 bt648.1 true a0_0 a0_1 t640 t641 bt648.2.1 bt648.2.2))))) = some r := H
    have A9 := Aside0.mk A90
    clear A90
    replace H := Option.bind_eq_some_iff.mp H
    obtain ⟨⟨t646, t647⟩, A100, H⟩ := H
    replace H : ((impl_AppRun.f k t646 t647 t643).bind fun bt648 => ((laws_eqReadingS.f k bt648.1 t637).bind fun t654 => (if t654 = true then ((laws_eqApp.f bt648.2.1 bt648.2.2 t640 t641).bind fun t655 => (laws_FnExactAppRun.j0 k l1 t637 t643 bt648.1 (!t655) a0_0 a0_1 t640 t641 bt648.2.1 bt648.2.2)) else (laws_FnExactAppRun.j0 k l1 t637 t643 bt648.1 true a0_0 a0_1 t640 t641 bt648.2.1 bt648.2.2)))) = some r := H
    have A10 := Aside0.mk A100
    clear A100
    replace H := Option.bind_eq_some_iff.mp H
    obtain ⟨⟨t648, t651, t652⟩, A110, H⟩ := H
    replace H : ((laws_eqReadingS.f k t648 t637).bind fun t654 => (if t654 = true then ((laws_eqApp.f t651 t652 t640 t641).bind fun t655 => (laws_FnExactAppRun.j0 k l1 t637 t643 t648 (!t655) a0_0 a0_1 t640 t641 t651 t652)) else (laws_FnExactAppRun.j0 k l1 t637 t643 t648 true a0_0 a0_1 t640 t641 t651 t652))) = some r := H
    have A11 := Aside0.mk A110
    clear A110
    have HC12 := Aside0.mk H
    clear H
    go_enter Try.func7, Try.ntmps7
    go_upto_region 8 with (first | ((with_reducible refine gate_dst (N := 2) rfl ?_); refine box_event ?hg (N := 2) ?hd (cs := #[.bool a0_0, .int .i64 a0_1]) (t := 62) ?hr ?_; (case hd => rfl); (case hg => rfl); (case hr => first | (go_simp; done) | (go_simp; rfl)); intro gb630 hg w13 hbox hb; have n0_ := Aside0.mk (below_step (hb_ HB.out) hb); have n1_ := Aside0.mk (hbox); have n2_ := Aside0.mk ((by rw [hg]; exact (below_size (hb_ HB.out)) : w.heap.size ≤ gb630)); have n3_ := Aside0.mk ((by rw [hg]; exact (below_size (hb_ HB.out)) : w.heap.size ≤ gb630)); clear HB; have HB := n0_; have BK630 := n1_; have GW630 := n2_; have GE630 := n3_; clear n0_ n1_ n2_ n3_; clear hb hbox hg) | ((with_reducible refine gate_callee (f := 37) rfl ?_); refine goesL_ (some 18) rfl rfl Try.func37 (by kernel_rfl) rfl #[.slice A1 l1.length c1, .int .i64 1048576] rfl arr_ ?_; (with_reducible refine (laws_szLookS.calls _ _ l1 1048576 t631 _ ?side1 ?side2 A3.out).mono ?_); (case side1 => exact kc_ (Kd.C_below HR1.out HB.out)); (case side2 => exact HC1.out); rintro e w' ⟨rfl, ⟨nd, rfl⟩⟩; refine ⟨_, rfl, ?_⟩; (try (rw [drewN_self w13]; generalize hq_ : World.drewN w13 _ = w13; have n0_ : Aside0 (w13.heap[gb630]? = some (.cells #[.bool a0_0, .int .i64 a0_1] 62 (0, 0))) := ⟨by rw [← hq_]; exact (bk_ BK630.out)⟩; have n1_ : Aside0 (Below w.heap.size w w13) := ⟨by rw [← hq_]; exact (hb1_ HB.out GE630.out)⟩; clear BK630 HB hq_; have BK630 := n0_; have HB := n1_; clear n0_ n1_)); have hcz14_0 := bc_ BK630.out 0 (.bool a0_0) rfl; have hcz14_1 := bc_ BK630.out 1 (.int .i64 a0_1) rfl; have hfz14_0 := blk_frozen BK630.out 0; have hfz14_1 := blk_frozen BK630.out 1) | ((with_reducible refine gate_callee (f := 39) rfl ?_); refine goesL_ (some 23) rfl rfl Try.func39 (by kernel_rfl) rfl #[.agg #[.bool a0_0, .int .i64 a0_1]] rfl arr_ ?_; (with_reducible refine (laws_toApp.calls a0_0 a0_1 t632 t633 _ A6.out).mono ?_); rintro e w15 ⟨rfl, hb⟩; refine ⟨_, rfl, ?_⟩; have n0_ := Aside0.mk (bb_ BK630.out hb); have n1_ := Aside0.mk (below_step (hb1_ HB.out GE630.out) hb); clear BK630; clear HB; have BK630 := n0_; have HB := n1_; clear n0_ n1_; (try clear hb); (try clear hb2); (try clear hk); (try clear hi)) | ((with_reducible refine gate_callee (f := 40) rfl ?_); refine goesL_ (some 25) rfl rfl Try.func40 (by kernel_rfl) rfl #[.slice A1 l1.length c1] rfl arr_ ?_; (with_reducible refine (laws_toLookS.calls k _ _ l1 t634 _ ?side1 ?side2 A7.out).mono ?_); (case side1 => exact kc_ (Kd.C_below HR1.out HB.out)); (case side2 => exact HC1.out); rintro e w16 ⟨v635, rfl, ho0, hb⟩; refine ⟨_, rfl, ?_⟩; have n0_ := Aside0.mk (Kd.R_lower ho0 (below_size (hb1_ HB.out GE630.out))); have n1_ := Aside0.mk (bb_ BK630.out hb); have n2_ := Aside0.mk (below_step (hb1_ HB.out GE630.out) hb); clear BK630; clear HB; have HO636 := n0_; have BK630 := n1_; have HB := n2_; clear n0_ n1_ n2_; (try clear hb); (try clear hb2); (try clear hk); (try clear hi); (try clear ho0); obtain ⟨Ao17, co17, eo17⟩ := Kd.R_slice HO636.out; subst eo17) | ((with_reducible refine gate_callee (f := 38) rfl ?_); refine goesL_ (some 26) rfl rfl Try.func38 (by kernel_rfl) rfl #[.agg #[.bool t632, .int .i64 t633], .slice Ao17 t634.length co17] rfl arr_ ?_; (with_reducible refine (spec_AppRun.calls k t632 t633 _ _ t634 t637 t640 t641 _ ?side1 ?side2 A8.out).mono ?_); (case side1 => repeat (first | exact (Kd.R_reads' HO636.out).2.2 | (with_reducible refine Kd.C_alloc ?_ _) | (with_reducible refine Kd.C_drewN ?_ _) | (with_reducible refine Kd.C_drew ?_))); (case side2 => exact (Kd.R_reads' HO636.out).2.1); rintro e w18 ⟨v638, rfl, ho0, hb⟩; refine ⟨_, rfl, ?_⟩; have n0_ := Aside0.mk (Kd.R_below (by (with_reducible repeat (first | apply Kd.R_alloc | apply Kd.R_drewN | apply Kd.R_drew)); exact HO636.out) hb); have n1_ := Aside0.mk (Kd.R_lower ho0 (below_size (hb1_ HB.out GE630.out))); have n2_ := Aside0.mk (bb_ BK630.out hb); have n3_ := Aside0.mk (below_step (hb1_ HB.out GE630.out) hb); clear HO636; clear BK630; clear HB; have HO636 := n0_; have HO639 := n1_; have BK630 := n2_; have HB := n3_; clear n0_ n1_ n2_ n3_; (try clear hb); (try clear hb2); (try clear hk); (try clear hi); (try clear ho0)) | ((with_reducible refine gate_dst (N := 7) rfl ?_); refine box_event ?hg (N := 7) ?hd (cs := #[.bool false, .int .i64 0]) (t := 66) ?hr ?_; (case hd => rfl); (case hg => rfl); (case hr => first | (go_simp; done) | (go_simp; rfl)); intro gb642 hg w19 hbox hb; have n0_ := Aside0.mk (Kd.R_below (by (with_reducible repeat (first | apply Kd.R_alloc | apply Kd.R_drewN | apply Kd.R_drew)); exact HO636.out) hb); have n1_ := Aside0.mk (Kd.R_below (by (with_reducible repeat (first | apply Kd.R_alloc | apply Kd.R_drewN | apply Kd.R_drew)); exact HO639.out) hb); have n2_ := Aside0.mk (bb_ BK630.out hb); have n3_ := Aside0.mk (below_step (hb1_ HB.out GE630.out) hb); have n4_ := Aside0.mk (hbox); have n5_ := Aside0.mk ((by rw [hg]; exact (below_size (hb1_ HB.out GE630.out)) : w.heap.size ≤ gb642)); have n6_ := Aside0.mk ((by rw [hg]; exact (below_size (hb1_ HB.out GE630.out)) : w.heap.size ≤ gb642)); have n7_ := Aside0.mk ((bl_ hg BK630.out : gb630 ≠ gb642)); have n8_ := Aside0.mk ((bg_ hg BK630.out : gb642 ≠ gb630)); clear HO636; clear HO639; clear BK630; clear HB; have HO636 := n0_; have HO639 := n1_; have BK630 := n2_; have HB := n3_; have BK642 := n4_; have GW642 := n5_; have GE642 := n6_; have NB630_642 := n7_; have NB642_630 := n8_; clear n0_ n1_ n2_ n3_ n4_ n5_ n6_ n7_ n8_; clear hb hbox hg; have hnb20 := NB642_630.out; have hnc20 := NB630_642.out; have hcz21_0 := bc_ BK642.out 0 (.bool false) rfl; have hcz21_1 := bc_ BK642.out 1 (.int .i64 0) rfl; have hfz21_0 := blk_frozen BK642.out 0; have hfz21_1 := blk_frozen BK642.out 1) | ((with_reducible refine gate_callee (f := 40) rfl ?_); refine goesL_ (some 30) rfl rfl Try.func40 (by kernel_rfl) rfl #[.slice A1 l1.length c1] rfl arr_ ?_; (with_reducible refine (laws_toLookS.calls k _ _ l1 t643 _ ?side1 ?side2 A9.out).mono ?_); (case side1 => exact Kd.C_below HR1.out (hb2_ HB.out GE630.out GE642.out)); (case side2 => exact HC1.out); rintro e w22 ⟨v644, rfl, ho0, hb⟩; refine ⟨_, rfl, ?_⟩; have n0_ := Aside0.mk (Kd.R_elder' (by (with_reducible repeat (first | apply Kd.R_alloc | apply Kd.R_drewN | apply Kd.R_drew)); exact (Kd.R_mono (Kd.R_far (p := ⟨gb642, 1, none⟩) (Kd.R_far (p := ⟨gb642, 0, none⟩) (Kd.R_types HO636.out BK642.out (by decide)) (fun _ hk => hk.2) (.bool t640)) (fun _ hk => hk.2) (.int .i64 t641)) (fun _ h_ => h_.1))) (Kd.R_base ho0) hb); have n1_ := Aside0.mk (Kd.R_below (by (with_reducible repeat (first | apply Kd.R_alloc | apply Kd.R_drewN | apply Kd.R_drew)); exact (Kd.R_mono (Kd.R_far (p := ⟨gb642, 1, none⟩) (Kd.R_far (p := ⟨gb642, 0, none⟩) (Kd.R_types HO639.out BK642.out (by decide)) (fun _ hk => hk.2) (.bool t640)) (fun _ hk => hk.2) (.int .i64 t641)) (fun _ h_ => h_.1))) hb); have n2_ := Aside0.mk (Kd.R_lower (Kd.R_new' ho0 (Kd.R_lt (by (with_reducible repeat (first | apply Kd.R_alloc | apply Kd.R_drewN | apply Kd.R_drew)); exact (Kd.R_mono (Kd.R_far (p := ⟨gb642, 1, none⟩) (Kd.R_far (p := ⟨gb642, 0, none⟩) (Kd.R_types HO636.out BK642.out (by decide)) (fun _ hk => hk.2) (.bool t640)) (fun _ hk => hk.2) (.int .i64 t641)) (fun _ h_ => h_.1))))) (below_size (hb2_ HB.out GE630.out GE642.out))); have n3_ := Aside0.mk (blk_below (g := gb630) (o := .cells #[.bool a0_0, .int .i64 a0_1] 62 (0, 0)) (by (with_reducible repeat (first | refine blk_drewN ?_ _ | refine blk_drew ?_ | refine blk_alloc ?_ _)); refine blk_far ?_ NB630_642.out _; (with_reducible repeat (first | refine blk_drewN ?_ _ | refine blk_drew ?_ | refine blk_alloc ?_ _)); refine blk_far ?_ NB630_642.out _; (with_reducible repeat (first | refine blk_drewN ?_ _ | refine blk_drew ?_ | refine blk_alloc ?_ _)); exact BK630.out) hb); have n4_ := Aside0.mk (blk_below (g := gb642) (o := .cells #[.bool t640, .int .i64 t641] 66 (0, 0)) (by (with_reducible repeat (first | refine blk_drewN ?_ _ | refine blk_drew ?_ | refine blk_alloc ?_ _)); refine blk_put (cs := #[.bool t640, .int .i64 0]) ?_ 1 _ rfl; (with_reducible repeat (first | refine blk_drewN ?_ _ | refine blk_drew ?_ | refine blk_alloc ?_ _)); refine blk_put (cs := #[.bool false, .int .i64 0]) ?_ 0 _ rfl; (with_reducible repeat (first | refine blk_drewN ?_ _ | refine blk_drew ?_ | refine blk_alloc ?_ _)); exact BK642.out) hb); have n5_ := Aside0.mk (below_step (hb2_ HB.out GE630.out GE642.out) hb); clear HO636; clear HO639; clear BK630; clear BK642; clear HB; have HO636 := n0_; have HO639 := n1_; have HO645 := n2_; have BK630 := n3_; have BK642 := n4_; have HB := n5_; clear n0_ n1_ n2_ n3_ n4_ n5_; (try clear hb); (try clear hb2); (try clear hk); (try clear hi); (try clear ho0); have hcz23_0 := bc_ BK630.out 0 (.bool a0_0) rfl; have hcz23_1 := bc_ BK630.out 1 (.int .i64 a0_1) rfl; have hfz23_0 := blk_frozen BK630.out 0; have hfz23_1 := blk_frozen BK630.out 1) | ((with_reducible refine gate_callee (f := 39) rfl ?_); refine goesL_ (some 33) rfl rfl Try.func39 (by kernel_rfl) rfl #[.agg #[.bool a0_0, .int .i64 a0_1]] rfl arr_ ?_; (with_reducible refine (laws_toApp.calls a0_0 a0_1 t646 t647 _ A10.out).mono ?_); rintro e w24 ⟨rfl, hb⟩; refine ⟨_, rfl, ?_⟩; have n0_ := Aside0.mk (Kd.R_below (by (with_reducible repeat (first | apply Kd.R_alloc | apply Kd.R_drewN | apply Kd.R_drew)); exact HO636.out) hb); have n1_ := Aside0.mk (Kd.R_below (by (with_reducible repeat (first | apply Kd.R_alloc | apply Kd.R_drewN | apply Kd.R_drew)); exact HO639.out) hb); have n2_ := Aside0.mk (Kd.R_below (by (with_reducible repeat (first | apply Kd.R_alloc | apply Kd.R_drewN | apply Kd.R_drew)); exact HO645.out) hb); have n3_ := Aside0.mk (bb_ BK630.out hb); have n4_ := Aside0.mk (bb_ BK642.out hb); have n5_ := Aside0.mk (below_step (hb2_ HB.out GE630.out GE642.out) hb); clear HO636; clear HO639; clear HO645; clear BK630; clear BK642; clear HB; have HO636 := n0_; have HO639 := n1_; have HO645 := n2_; have BK630 := n3_; have BK642 := n4_; have HB := n5_; clear n0_ n1_ n2_ n3_ n4_ n5_; (try clear hb); (try clear hb2); (try clear hk); (try clear hi); obtain ⟨Ao25, co25, eo25⟩ := Kd.R_slice HO645.out; subst eo25) | ((with_reducible refine gate_callee (f := 41) rfl ?_); refine goesL_ (some 35) rfl rfl Try.func41 (by kernel_rfl) rfl #[.agg #[.bool t646, .int .i64 t647], .slice Ao25 t643.length co25] rfl arr_ ?_; (with_reducible refine (impl_AppRun.calls k t646 t647 _ _ t643 t648 t651 t652 _ ?side1 ?side2 A11.out).mono ?_); (case side1 => repeat (first | exact (Kd.R_reads' HO645.out).2.2 | (with_reducible refine Kd.C_alloc ?_ _) | (with_reducible refine Kd.C_drewN ?_ _) | (with_reducible refine Kd.C_drew ?_))); (case side2 => exact (Kd.R_reads' HO645.out).2.1); rintro e w26 ⟨v649, rfl, ho0, hb⟩; refine ⟨_, rfl, ?_⟩; have n0_ := Aside0.mk (Kd.R_below (by (with_reducible repeat (first | apply Kd.R_alloc | apply Kd.R_drewN | apply Kd.R_drew)); exact HO636.out) hb); have n1_ := Aside0.mk (Kd.R_elder' (by (with_reducible repeat (first | apply Kd.R_alloc | apply Kd.R_drewN | apply Kd.R_drew)); exact HO639.out) (Kd.R_base ho0) hb); have n2_ := Aside0.mk (Kd.R_below (by (with_reducible repeat (first | apply Kd.R_alloc | apply Kd.R_drewN | apply Kd.R_drew)); exact HO645.out) hb); have n3_ := Aside0.mk (Kd.R_lower (Kd.R_new' ho0 (Kd.R_lt (by (with_reducible repeat (first | apply Kd.R_alloc | apply Kd.R_drewN | apply Kd.R_drew)); exact HO639.out))) (below_size (hb2_ HB.out GE630.out GE642.out))); have n4_ := Aside0.mk (bb_ BK630.out hb); have n5_ := Aside0.mk (bb_ BK642.out hb); have n6_ := Aside0.mk (below_step (hb2_ HB.out GE630.out GE642.out) hb); clear HO636; clear HO639; clear HO645; clear BK630; clear BK642; clear HB; have HO636 := n0_; have HO639 := n1_; have HO645 := n2_; have HO650 := n3_; have BK630 := n4_; have BK642 := n5_; have HB := n6_; clear n0_ n1_ n2_ n3_ n4_ n5_ n6_; (try clear hb); (try clear hb2); (try clear hk); (try clear hi); (try clear ho0)) | ((with_reducible refine gate_dst (N := 10) rfl ?_); refine box_event ?hg (N := 10) ?hd (cs := #[.bool false, .int .i64 0]) (t := 66) ?hr ?_; (case hd => rfl); (case hg => rfl); (case hr => first | (go_simp; done) | (go_simp; rfl)); intro gb653 hg w27 hbox hb; have n0_ := Aside0.mk (Kd.R_below (by (with_reducible repeat (first | apply Kd.R_alloc | apply Kd.R_drewN | apply Kd.R_drew)); exact HO636.out) hb); have n1_ := Aside0.mk (Kd.R_below (by (with_reducible repeat (first | apply Kd.R_alloc | apply Kd.R_drewN | apply Kd.R_drew)); exact HO639.out) hb); have n2_ := Aside0.mk (Kd.R_below (by (with_reducible repeat (first | apply Kd.R_alloc | apply Kd.R_drewN | apply Kd.R_drew)); exact HO645.out) hb); have n3_ := Aside0.mk (Kd.R_below (by (with_reducible repeat (first | apply Kd.R_alloc | apply Kd.R_drewN | apply Kd.R_drew)); exact HO650.out) hb); have n4_ := Aside0.mk (bb_ BK630.out hb); have n5_ := Aside0.mk (bb_ BK642.out hb); have n6_ := Aside0.mk (below_step (hb2_ HB.out GE630.out GE642.out) hb); have n7_ := Aside0.mk (hbox); have n8_ := Aside0.mk ((by rw [hg]; exact (below_size (hb2_ HB.out GE630.out GE642.out)) : w.heap.size ≤ gb653)); have n9_ := Aside0.mk ((by rw [hg]; exact (below_size (hb2_ HB.out GE630.out GE642.out)) : w.heap.size ≤ gb653)); have n10_ := Aside0.mk ((bl_ hg BK630.out : gb630 ≠ gb653)); have n11_ := Aside0.mk ((bg_ hg BK630.out : gb653 ≠ gb630)); have n12_ := Aside0.mk ((bl_ hg BK642.out : gb642 ≠ gb653)); have n13_ := Aside0.mk ((bg_ hg BK642.out : gb653 ≠ gb642)); clear HO636; clear HO639; clear HO645; clear HO650; clear BK630; clear BK642; clear HB; have HO636 := n0_; have HO639 := n1_; have HO645 := n2_; have HO650 := n3_; have BK630 := n4_; have BK642 := n5_; have HB := n6_; have BK653 := n7_; have GW653 := n8_; have GE653 := n9_; have NB630_653 := n10_; have NB653_630 := n11_; have NB642_653 := n12_; have NB653_642 := n13_; clear n0_ n1_ n2_ n3_ n4_ n5_ n6_ n7_ n8_ n9_ n10_ n11_ n12_ n13_; clear hb hbox hg; have hnb28 := NB653_630.out; have hnc28 := NB630_653.out; have hnb29 := NB653_642.out; have hnc29 := NB642_653.out; have hcz30_0 := bc_ BK653.out 0 (.bool false) rfl; have hcz30_1 := bc_ BK653.out 1 (.int .i64 0) rfl; have hfz30_0 := blk_frozen BK653.out 0; have hfz30_1 := blk_frozen BK653.out 1))
    (try simp only [Act.put, List.setIfInBounds_toArray, List.set_cons_zero, List.set_cons_succ])
    go_cut [47] (fun v47 wc => ∃ (kq : Nat) (x47_11 : Bool), v47 = .bool x47_11 ∧ Aside0 (laws_FnExactAppRun.j0 kq l1 t637 t643 t648 x47_11 a0_0 a0_1 t640 t641 t651 t652 = some r) ∧ Aside0 (kq ≤ k) ∧ Aside0 (Kd.R k88 88 wc w.heap.size (fun k_ => some k_ ≠ (v649 : Value).ownBlock) v638 t637) ∧ Aside0 (Kd.R k83 83 wc w.heap.size (fun _ => True) (.slice Ao25 t643.length co25) t643) ∧ Aside0 (Kd.R k88 88 wc w.heap.size (fun k_ => some k_ ≠ (v638 : Value).ownBlock) v649 t648) ∧ Aside0 (wc.heap[gb630]? = some (.cells #[.bool a0_0, .int .i64 a0_1] 62 (0, 0))) ∧ Aside0 (wc.heap[gb642]? = some (.cells #[.bool t640, .int .i64 t641] 66 (0, 0))) ∧ Aside0 (wc.heap[gb653]? = some (.cells #[.bool t651, .int .i64 t652] 66 (0, 0))) ∧ Aside0 (Below w.heap.size w wc))
    case first =>
      have H := HC12.out
      clear HC12
      replace H := Option.bind_eq_some_iff.mp H
      obtain ⟨t654, A310, H⟩ := H
      replace H : (if t654 = true then ((laws_eqApp.f t651 t652 t640 t641).bind fun t655 => (laws_FnExactAppRun.j0 k l1 t637 t643 t648 (!t655) a0_0 a0_1 t640 t641 t651 t652)) else (laws_FnExactAppRun.j0 k l1 t637 t643 t648 true a0_0 a0_1 t640 t641 t651 t652)) = some r := H
      have A31 := Aside0.mk A310
      clear A310
      by_cases c32 : t654 = true
      · subst c32
        have H1 : ((laws_eqApp.f t651 t652 t640 t641).bind fun t655 => (laws_FnExactAppRun.j0 k l1 t637 t643 t648 (!t655) a0_0 a0_1 t640 t641 t651 t652)) = some r := by rw [if_pos rfl] at H; exact H
        clear H
        have H := H1
        clear H1
        replace H := Option.bind_eq_some_iff.mp H
        obtain ⟨t655, A330, H⟩ := H
        replace H : (laws_FnExactAppRun.j0 k l1 t637 t643 t648 (!t655) a0_0 a0_1 t640 t641 t651 t652) = some r := H
        have A33 := Aside0.mk A330
        clear A330
        have H' := Aside0.mk H
        clear H
        obtain ⟨Ao34, co34, eo34⟩ := Kd.R_slice HO650.out
        subst eo34
        obtain ⟨Ao35, co35, eo35⟩ := Kd.R_slice HO639.out
        subst eo35
        go_wp2_with (first | ((with_reducible refine gate_callee (f := 42) rfl ?_); refine goesL_ (some 40) rfl rfl Try.func42 (by kernel_rfl) rfl #[.slice Ao34 t648.length co34, .slice Ao35 t637.length co35] rfl arr_ ?_; (with_reducible refine (laws_eqReadingS.calls k _ _ t648 _ _ t637 true _ ?side1 ?side2 ?side3 ?side4 A31.out).mono ?_); (case side1 => refine (Kd.R_reads' (e := 88) (base := w.heap.size) (ok := fun k_ => (True ∧ some k_ ≠ (.slice Ao35 t637.length co35 : Value).ownBlock)) (n := t648.length) (c := co34) ?_).2.2; exact (by (with_reducible repeat (first | apply Kd.R_alloc | apply Kd.R_drewN | apply Kd.R_drew)); exact (Kd.R_mono (Kd.R_far (p := ⟨gb653, 1, none⟩) (Kd.R_far (p := ⟨gb653, 0, none⟩) (Kd.R_types HO650.out BK653.out (by decide)) (fun _ hk => hk.2) (.bool t651)) (fun _ hk => hk.2) (.int .i64 t652)) (fun _ h_ => h_.1)))); (case side2 => exact (Kd.R_reads' HO650.out).2.1); (case side3 => refine (Kd.R_reads' (e := 88) (base := w.heap.size) (ok := fun k_ => (True ∧ some k_ ≠ (.slice Ao34 t648.length co34 : Value).ownBlock)) (n := t637.length) (c := co35) ?_).2.2; exact (by (with_reducible repeat (first | apply Kd.R_alloc | apply Kd.R_drewN | apply Kd.R_drew)); exact (Kd.R_mono (Kd.R_far (p := ⟨gb653, 1, none⟩) (Kd.R_far (p := ⟨gb653, 0, none⟩) (Kd.R_types HO639.out BK653.out (by decide)) (fun _ hk => hk.2) (.bool t651)) (fun _ hk => hk.2) (.int .i64 t652)) (fun _ h_ => h_.1)))); (case side4 => exact (Kd.R_reads' HO639.out).2.1); rintro e w36 ⟨rfl, hb⟩; refine ⟨_, rfl, ?_⟩; have n0_ := Aside0.mk (Kd.R_below (by (with_reducible repeat (first | apply Kd.R_alloc | apply Kd.R_drewN | apply Kd.R_drew)); exact (Kd.R_mono (Kd.R_far (p := ⟨gb653, 1, none⟩) (Kd.R_far (p := ⟨gb653, 0, none⟩) (Kd.R_types HO636.out BK653.out (by decide)) (fun _ hk => hk.2) (.bool t651)) (fun _ hk => hk.2) (.int .i64 t652)) (fun _ h_ => h_.1))) hb); have n1_ := Aside0.mk (Kd.R_below (by (with_reducible repeat (first | apply Kd.R_alloc | apply Kd.R_drewN | apply Kd.R_drew)); exact (Kd.R_mono (Kd.R_far (p := ⟨gb653, 1, none⟩) (Kd.R_far (p := ⟨gb653, 0, none⟩) (Kd.R_types HO639.out BK653.out (by decide)) (fun _ hk => hk.2) (.bool t651)) (fun _ hk => hk.2) (.int .i64 t652)) (fun _ h_ => h_.1))) hb); have n2_ := Aside0.mk (Kd.R_below (by (with_reducible repeat (first | apply Kd.R_alloc | apply Kd.R_drewN | apply Kd.R_drew)); exact (Kd.R_mono (Kd.R_far (p := ⟨gb653, 1, none⟩) (Kd.R_far (p := ⟨gb653, 0, none⟩) (Kd.R_types HO645.out BK653.out (by decide)) (fun _ hk => hk.2) (.bool t651)) (fun _ hk => hk.2) (.int .i64 t652)) (fun _ h_ => h_.1))) hb); have n3_ := Aside0.mk (Kd.R_below (by (with_reducible repeat (first | apply Kd.R_alloc | apply Kd.R_drewN | apply Kd.R_drew)); exact (Kd.R_mono (Kd.R_far (p := ⟨gb653, 1, none⟩) (Kd.R_far (p := ⟨gb653, 0, none⟩) (Kd.R_types HO650.out BK653.out (by decide)) (fun _ hk => hk.2) (.bool t651)) (fun _ hk => hk.2) (.int .i64 t652)) (fun _ h_ => h_.1))) hb); have n4_ := Aside0.mk (blk_below (g := gb630) (o := .cells #[.bool a0_0, .int .i64 a0_1] 62 (0, 0)) (by (with_reducible repeat (first | refine blk_drewN ?_ _ | refine blk_drew ?_ | refine blk_alloc ?_ _)); refine blk_far ?_ NB630_653.out _; (with_reducible repeat (first | refine blk_drewN ?_ _ | refine blk_drew ?_ | refine blk_alloc ?_ _)); refine blk_far ?_ NB630_653.out _; (with_reducible repeat (first | refine blk_drewN ?_ _ | refine blk_drew ?_ | refine blk_alloc ?_ _)); exact BK630.out) hb); have n5_ := Aside0.mk (blk_below (g := gb642) (o := .cells #[.bool t640, .int .i64 t641] 66 (0, 0)) (by (with_reducible repeat (first | refine blk_drewN ?_ _ | refine blk_drew ?_ | refine blk_alloc ?_ _)); refine blk_far ?_ NB642_653.out _; (with_reducible repeat (first | refine blk_drewN ?_ _ | refine blk_drew ?_ | refine blk_alloc ?_ _)); refine blk_far ?_ NB642_653.out _; (with_reducible repeat (first | refine blk_drewN ?_ _ | refine blk_drew ?_ | refine blk_alloc ?_ _)); exact BK642.out) hb); have n6_ := Aside0.mk (blk_below (g := gb653) (o := .cells #[.bool t651, .int .i64 t652] 66 (0, 0)) (by (with_reducible repeat (first | refine blk_drewN ?_ _ | refine blk_drew ?_ | refine blk_alloc ?_ _)); refine blk_put (cs := #[.bool t651, .int .i64 0]) ?_ 1 _ rfl; (with_reducible repeat (first | refine blk_drewN ?_ _ | refine blk_drew ?_ | refine blk_alloc ?_ _)); refine blk_put (cs := #[.bool false, .int .i64 0]) ?_ 0 _ rfl; (with_reducible repeat (first | refine blk_drewN ?_ _ | refine blk_drew ?_ | refine blk_alloc ?_ _)); exact BK653.out) hb); have n7_ := Aside0.mk (below_step (hb3_ HB.out GE630.out GE642.out GE653.out) hb); clear HO636; clear HO639; clear HO645; clear HO650; clear BK630; clear BK642; clear BK653; clear HB; have HO636 := n0_; have HO639 := n1_; have HO645 := n2_; have HO650 := n3_; have BK630 := n4_; have BK642 := n5_; have BK653 := n6_; have HB := n7_; clear n0_ n1_ n2_ n3_ n4_ n5_ n6_ n7_; (try clear hb); (try clear hb2); (try clear hk); (try clear hi); have hnb37 := NB653_630.out; have hnc37 := NB630_653.out; have hnb38 := NB653_642.out; have hnc38 := NB642_653.out; have hcz39_0 := bc_ BK653.out 0 (.bool t651) rfl; have hcz39_1 := bc_ BK653.out 1 (.int .i64 t652) rfl; have hfz39_0 := blk_frozen BK653.out 0; have hfz39_1 := blk_frozen BK653.out 1; have hnb40 := NB642_630.out; have hnc40 := NB630_642.out; have hcz41_0 := bc_ BK642.out 0 (.bool t640) rfl; have hcz41_1 := bc_ BK642.out 1 (.int .i64 t641) rfl; have hfz41_0 := blk_frozen BK642.out 0; have hfz41_1 := blk_frozen BK642.out 1) | (go_at_call 43; (with_reducible refine (laws_eqApp.calls t651 t652 t640 t641 t655 _ A33.out).mono ?_); rintro e w42 ⟨rfl, hb⟩; have n0_ := Aside0.mk (Kd.R_below (by (with_reducible repeat (first | apply Kd.R_alloc | apply Kd.R_drewN | apply Kd.R_drew)); exact HO636.out) hb); have n1_ := Aside0.mk (Kd.R_below (by (with_reducible repeat (first | apply Kd.R_alloc | apply Kd.R_drewN | apply Kd.R_drew)); exact HO639.out) hb); have n2_ := Aside0.mk (Kd.R_below (by (with_reducible repeat (first | apply Kd.R_alloc | apply Kd.R_drewN | apply Kd.R_drew)); exact HO645.out) hb); have n3_ := Aside0.mk (Kd.R_below (by (with_reducible repeat (first | apply Kd.R_alloc | apply Kd.R_drewN | apply Kd.R_drew)); exact HO650.out) hb); have n4_ := Aside0.mk (bb_ BK630.out hb); have n5_ := Aside0.mk (bb_ BK642.out hb); have n6_ := Aside0.mk (bb_ BK653.out hb); have n7_ := Aside0.mk (below_step (hb3_ HB.out GE630.out GE642.out GE653.out) hb); clear HO636; clear HO639; clear HO645; clear HO650; clear BK630; clear BK642; clear BK653; clear HB; have HO636 := n0_; have HO639 := n1_; have HO645 := n2_; have HO650 := n3_; have BK630 := n4_; have BK642 := n5_; have BK653 := n6_; have HB := n7_; clear n0_ n1_ n2_ n3_ n4_ n5_ n6_ n7_; (try clear hb); (try clear hb2); (try clear hk); (try clear hi)))
        go_meet
        case rel => exact ⟨_, (!t655), (by first | rfl | (simp; done) | (simp [*]; done)), H', ⟨by first | omega | exact Nat.le_refl _⟩, ⟨by (with_reducible repeat (first | apply Kd.R_alloc | apply Kd.R_drewN | apply Kd.R_drew)); exact Kd.R_mono HO639.out (fun _ hk => hk.2)⟩, ⟨by (with_reducible repeat (first | apply Kd.R_alloc | apply Kd.R_drewN | apply Kd.R_drew)); exact Kd.R_mono HO645.out (fun _ hk => trivial)⟩, ⟨by (with_reducible repeat (first | apply Kd.R_alloc | apply Kd.R_drewN | apply Kd.R_drew)); exact Kd.R_mono HO650.out (fun _ hk => hk.2)⟩, ⟨bk_ BK630.out⟩, ⟨bk_ BK642.out⟩, ⟨bk_ BK653.out⟩, ⟨hb3_ HB.out GE630.out GE642.out GE653.out⟩⟩
      · replace c32 := Bool.eq_false_iff.mpr c32
        subst c32
        have H1 : (laws_FnExactAppRun.j0 k l1 t637 t643 t648 true a0_0 a0_1 t640 t641 t651 t652) = some r := by rw [if_neg (show ¬ (false = true) by decide)] at H; exact H
        clear H
        have H := H1
        clear H1
        have H' := Aside0.mk H
        clear H
        obtain ⟨Ao43, co43, eo43⟩ := Kd.R_slice HO650.out
        subst eo43
        obtain ⟨Ao44, co44, eo44⟩ := Kd.R_slice HO639.out
        subst eo44
        go_wp2_with (first | ((with_reducible refine gate_callee (f := 42) rfl ?_); refine goesL_ (some 40) rfl rfl Try.func42 (by kernel_rfl) rfl #[.slice Ao43 t648.length co43, .slice Ao44 t637.length co44] rfl arr_ ?_; (with_reducible refine (laws_eqReadingS.calls k _ _ t648 _ _ t637 false _ ?side1 ?side2 ?side3 ?side4 A31.out).mono ?_); (case side1 => refine (Kd.R_reads' (e := 88) (base := w.heap.size) (ok := fun k_ => (True ∧ some k_ ≠ (.slice Ao44 t637.length co44 : Value).ownBlock)) (n := t648.length) (c := co43) ?_).2.2; exact (by (with_reducible repeat (first | apply Kd.R_alloc | apply Kd.R_drewN | apply Kd.R_drew)); exact (Kd.R_mono (Kd.R_far (p := ⟨gb653, 1, none⟩) (Kd.R_far (p := ⟨gb653, 0, none⟩) (Kd.R_types HO650.out BK653.out (by decide)) (fun _ hk => hk.2) (.bool t651)) (fun _ hk => hk.2) (.int .i64 t652)) (fun _ h_ => h_.1)))); (case side2 => exact (Kd.R_reads' HO650.out).2.1); (case side3 => refine (Kd.R_reads' (e := 88) (base := w.heap.size) (ok := fun k_ => (True ∧ some k_ ≠ (.slice Ao43 t648.length co43 : Value).ownBlock)) (n := t637.length) (c := co44) ?_).2.2; exact (by (with_reducible repeat (first | apply Kd.R_alloc | apply Kd.R_drewN | apply Kd.R_drew)); exact (Kd.R_mono (Kd.R_far (p := ⟨gb653, 1, none⟩) (Kd.R_far (p := ⟨gb653, 0, none⟩) (Kd.R_types HO639.out BK653.out (by decide)) (fun _ hk => hk.2) (.bool t651)) (fun _ hk => hk.2) (.int .i64 t652)) (fun _ h_ => h_.1)))); (case side4 => exact (Kd.R_reads' HO639.out).2.1); rintro e w45 ⟨rfl, hb⟩; refine ⟨_, rfl, ?_⟩; have n0_ := Aside0.mk (Kd.R_below (by (with_reducible repeat (first | apply Kd.R_alloc | apply Kd.R_drewN | apply Kd.R_drew)); exact (Kd.R_mono (Kd.R_far (p := ⟨gb653, 1, none⟩) (Kd.R_far (p := ⟨gb653, 0, none⟩) (Kd.R_types HO636.out BK653.out (by decide)) (fun _ hk => hk.2) (.bool t651)) (fun _ hk => hk.2) (.int .i64 t652)) (fun _ h_ => h_.1))) hb); have n1_ := Aside0.mk (Kd.R_below (by (with_reducible repeat (first | apply Kd.R_alloc | apply Kd.R_drewN | apply Kd.R_drew)); exact (Kd.R_mono (Kd.R_far (p := ⟨gb653, 1, none⟩) (Kd.R_far (p := ⟨gb653, 0, none⟩) (Kd.R_types HO639.out BK653.out (by decide)) (fun _ hk => hk.2) (.bool t651)) (fun _ hk => hk.2) (.int .i64 t652)) (fun _ h_ => h_.1))) hb); have n2_ := Aside0.mk (Kd.R_below (by (with_reducible repeat (first | apply Kd.R_alloc | apply Kd.R_drewN | apply Kd.R_drew)); exact (Kd.R_mono (Kd.R_far (p := ⟨gb653, 1, none⟩) (Kd.R_far (p := ⟨gb653, 0, none⟩) (Kd.R_types HO645.out BK653.out (by decide)) (fun _ hk => hk.2) (.bool t651)) (fun _ hk => hk.2) (.int .i64 t652)) (fun _ h_ => h_.1))) hb); have n3_ := Aside0.mk (Kd.R_below (by (with_reducible repeat (first | apply Kd.R_alloc | apply Kd.R_drewN | apply Kd.R_drew)); exact (Kd.R_mono (Kd.R_far (p := ⟨gb653, 1, none⟩) (Kd.R_far (p := ⟨gb653, 0, none⟩) (Kd.R_types HO650.out BK653.out (by decide)) (fun _ hk => hk.2) (.bool t651)) (fun _ hk => hk.2) (.int .i64 t652)) (fun _ h_ => h_.1))) hb); have n4_ := Aside0.mk (blk_below (g := gb630) (o := .cells #[.bool a0_0, .int .i64 a0_1] 62 (0, 0)) (by (with_reducible repeat (first | refine blk_drewN ?_ _ | refine blk_drew ?_ | refine blk_alloc ?_ _)); refine blk_far ?_ NB630_653.out _; (with_reducible repeat (first | refine blk_drewN ?_ _ | refine blk_drew ?_ | refine blk_alloc ?_ _)); refine blk_far ?_ NB630_653.out _; (with_reducible repeat (first | refine blk_drewN ?_ _ | refine blk_drew ?_ | refine blk_alloc ?_ _)); exact BK630.out) hb); have n5_ := Aside0.mk (blk_below (g := gb642) (o := .cells #[.bool t640, .int .i64 t641] 66 (0, 0)) (by (with_reducible repeat (first | refine blk_drewN ?_ _ | refine blk_drew ?_ | refine blk_alloc ?_ _)); refine blk_far ?_ NB642_653.out _; (with_reducible repeat (first | refine blk_drewN ?_ _ | refine blk_drew ?_ | refine blk_alloc ?_ _)); refine blk_far ?_ NB642_653.out _; (with_reducible repeat (first | refine blk_drewN ?_ _ | refine blk_drew ?_ | refine blk_alloc ?_ _)); exact BK642.out) hb); have n6_ := Aside0.mk (blk_below (g := gb653) (o := .cells #[.bool t651, .int .i64 t652] 66 (0, 0)) (by (with_reducible repeat (first | refine blk_drewN ?_ _ | refine blk_drew ?_ | refine blk_alloc ?_ _)); refine blk_put (cs := #[.bool t651, .int .i64 0]) ?_ 1 _ rfl; (with_reducible repeat (first | refine blk_drewN ?_ _ | refine blk_drew ?_ | refine blk_alloc ?_ _)); refine blk_put (cs := #[.bool false, .int .i64 0]) ?_ 0 _ rfl; (with_reducible repeat (first | refine blk_drewN ?_ _ | refine blk_drew ?_ | refine blk_alloc ?_ _)); exact BK653.out) hb); have n7_ := Aside0.mk (below_step (hb3_ HB.out GE630.out GE642.out GE653.out) hb); clear HO636; clear HO639; clear HO645; clear HO650; clear BK630; clear BK642; clear BK653; clear HB; have HO636 := n0_; have HO639 := n1_; have HO645 := n2_; have HO650 := n3_; have BK630 := n4_; have BK642 := n5_; have BK653 := n6_; have HB := n7_; clear n0_ n1_ n2_ n3_ n4_ n5_ n6_ n7_; (try clear hb); (try clear hb2); (try clear hk); (try clear hi)))
        go_meet
        case rel => exact ⟨_, (true), (by first | rfl | (simp; done) | (simp [*]; done)), H', ⟨by first | omega | exact Nat.le_refl _⟩, ⟨by (with_reducible repeat (first | apply Kd.R_alloc | apply Kd.R_drewN | apply Kd.R_drew)); exact Kd.R_mono HO639.out (fun _ hk => hk.2)⟩, ⟨by (with_reducible repeat (first | apply Kd.R_alloc | apply Kd.R_drewN | apply Kd.R_drew)); exact Kd.R_mono HO645.out (fun _ hk => trivial)⟩, ⟨by (with_reducible repeat (first | apply Kd.R_alloc | apply Kd.R_drewN | apply Kd.R_drew)); exact Kd.R_mono HO650.out (fun _ hk => hk.2)⟩, ⟨bk_ BK630.out⟩, ⟨bk_ BK642.out⟩, ⟨bk_ BK653.out⟩, ⟨hb3_ HB.out GE630.out GE642.out GE653.out⟩⟩
    case rest =>
      clear HC12
      try clear c1
      try clear c2
      try clear p2
      try clear c3
      try clear c4
      try clear c4b0
      try clear c7
      try clear c20
      try clear c28
      try clear c29
      try clear c32
      try clear c37
      try clear c38
      try clear c39
      try clear c40
      try clear c41
      try clear c42
      try clear hcz14_0
      try clear hcz14_1
      try clear hcz21_0
      try clear hcz21_1
      try clear hcz23_0
      try clear hcz23_1
      try clear hcz30_0
      try clear hcz30_1
      try clear hcz39_0
      try clear hcz39_1
      try clear hcz41_0
      try clear hcz41_1
      try clear hfz14_0
      try clear hfz14_1
      try clear hfz21_0
      try clear hfz21_1
      try clear hfz23_0
      try clear hfz23_1
      try clear hfz30_0
      try clear hfz30_1
      try clear hfz39_0
      try clear hfz39_1
      try clear hfz41_0
      try clear hfz41_1
      obtain ⟨kq, x47_11, rfl, HA, HJ11, HO_6, HO_8, HO_9, BK630, BK642, BK653, HB⟩ := hcut
      cases kq with
      | zero => exact absurd HA.out (by simp [laws_FnExactAppRun.j0])
      | succ kj11 =>
        have H := HA.out
        clear HA
        simp only [laws_FnExactAppRun.j0] at H
        by_cases c46 : x47_11 = true
        · subst c46
          have H1 : (some false) = some r := by rw [if_pos rfl] at H; exact H
          clear H
          have H := H1
          clear H1
          obtain rfl := Option.some.inj H
          exact absurd hr_ (by decide)
        · replace c46 := Bool.eq_false_iff.mpr c46
          subst c46
          have H1 : ((laws_toLookS.f kj11 l1).bind fun t656 => ((laws_eqLookS.f kj11 t643 t656).bind fun t659 => (if t659 = true then ((laws_markLookS.f kj11 t643 1).bind fun bt660 => (if bt660.1 < 0 then (laws_FnExactAppRun.j1 kj11 l1 t637 t648 true a0_0 a0_1 t640 t641) else ((laws_eqReadingS.f kj11 t648 t637).bind fun t662 => (if t662 = true then ((laws_eqApp.f t651 t652 t640 t641).bind fun t663 => (laws_FnExactAppRun.j1 kj11 l1 t637 t648 (!t663) a0_0 a0_1 t640 t641)) else (laws_FnExactAppRun.j1 kj11 l1 t637 t648 true a0_0 a0_1 t640 t641))))) else (some false)))) = some r := by rw [if_neg (show ¬ (false = true) by decide)] at H; exact H
          clear H
          have H := H1
          clear H1
          replace H := Option.bind_eq_some_iff.mp H
          obtain ⟨t656, A470, H⟩ := H
          replace H : ((laws_eqLookS.f kj11 t643 t656).bind fun t659 => (if t659 = true then ((laws_markLookS.f kj11 t643 1).bind fun bt660 => (if bt660.1 < 0 then (laws_FnExactAppRun.j1 kj11 l1 t637 t648 true a0_0 a0_1 t640 t641) else ((laws_eqReadingS.f kj11 t648 t637).bind fun t662 => (if t662 = true then ((laws_eqApp.f t651 t652 t640 t641).bind fun t663 => (laws_FnExactAppRun.j1 kj11 l1 t637 t648 (!t663) a0_0 a0_1 t640 t641)) else (laws_FnExactAppRun.j1 kj11 l1 t637 t648 true a0_0 a0_1 t640 t641))))) else (some false))) = some r := H
          have A47 := Aside0.mk A470
          clear A470
          replace H := Option.bind_eq_some_iff.mp H
          obtain ⟨t659, A480, H⟩ := H
          replace H : (if t659 = true then ((laws_markLookS.f kj11 t643 1).bind fun bt660 => (if bt660.1 < 0 then (laws_FnExactAppRun.j1 kj11 l1 t637 t648 true a0_0 a0_1 t640 t641) else ((laws_eqReadingS.f kj11 t648 t637).bind fun t662 => (if t662 = true then ((laws_eqApp.f t651 t652 t640 t641).bind fun t663 => (laws_FnExactAppRun.j1 kj11 l1 t637 t648 (!t663) a0_0 a0_1 t640 t641)) else (laws_FnExactAppRun.j1 kj11 l1 t637 t648 true a0_0 a0_1 t640 t641))))) else (some false)) = some r := H
          have A48 := Aside0.mk A480
          clear A480
          by_cases c49 : t659 = true
          · subst c49
            have H1 : ((laws_markLookS.f kj11 t643 1).bind fun bt660 => (if bt660.1 < 0 then (laws_FnExactAppRun.j1 kj11 l1 t637 t648 true a0_0 a0_1 t640 t641) else ((laws_eqReadingS.f kj11 t648 t637).bind fun t662 => (if t662 = true then ((laws_eqApp.f t651 t652 t640 t641).bind fun t663 => (laws_FnExactAppRun.j1 kj11 l1 t637 t648 (!t663) a0_0 a0_1 t640 t641)) else (laws_FnExactAppRun.j1 kj11 l1 t637 t648 true a0_0 a0_1 t640 t641))))) = some r := by rw [if_pos rfl] at H; exact H
            clear H
            have H := H1
            clear H1
            replace H := Option.bind_eq_some_iff.mp H
            obtain ⟨⟨t660, t661⟩, A500, H⟩ := H
            replace H : (if t660 < 0 then (laws_FnExactAppRun.j1 kj11 l1 t637 t648 true a0_0 a0_1 t640 t641) else ((laws_eqReadingS.f kj11 t648 t637).bind fun t662 => (if t662 = true then ((laws_eqApp.f t651 t652 t640 t641).bind fun t663 => (laws_FnExactAppRun.j1 kj11 l1 t637 t648 (!t663) a0_0 a0_1 t640 t641)) else (laws_FnExactAppRun.j1 kj11 l1 t637 t648 true a0_0 a0_1 t640 t641)))) = some r := H
            have A50 := Aside0.mk A500
            clear A500
            have HC51 := Aside0.mk H
            clear H
            go_upto_region 14 with (first | ((with_reducible refine gate_callee (f := 40) rfl ?_); refine goesL_ (some 50) rfl rfl Try.func40 (by kernel_rfl) rfl #[.slice A1 l1.length c1] rfl arr_ ?_; (with_reducible refine (laws_toLookS.calls kj11 _ _ l1 t656 _ ?side1 ?side2 A47.out).mono ?_); (case side1 => exact kc_ (Kd.C_below HR1.out HB.out)); (case side2 => exact HC1.out); rintro e w52 ⟨v657, rfl, ho0, hb⟩; refine ⟨_, rfl, ?_⟩; have n0_ := Aside0.mk (Kd.R_below (by (with_reducible repeat (first | apply Kd.R_alloc | apply Kd.R_drewN | apply Kd.R_drew)); exact HO_6.out) hb); have n1_ := Aside0.mk (Kd.R_elder' (by (with_reducible repeat (first | apply Kd.R_alloc | apply Kd.R_drewN | apply Kd.R_drew)); exact HO_8.out) (Kd.R_base ho0) hb); have n2_ := Aside0.mk (Kd.R_below (by (with_reducible repeat (first | apply Kd.R_alloc | apply Kd.R_drewN | apply Kd.R_drew)); exact HO_9.out) hb); have n3_ := Aside0.mk (Kd.R_lower (Kd.R_new' ho0 (Kd.R_lt (by (with_reducible repeat (first | apply Kd.R_alloc | apply Kd.R_drewN | apply Kd.R_drew)); exact HO_8.out))) (below_size (hb3_ HB.out GE630.out GE642.out GE653.out))); have n4_ := Aside0.mk (bb_ BK630.out hb); have n5_ := Aside0.mk (bb_ BK642.out hb); have n6_ := Aside0.mk (bb_ BK653.out hb); have n7_ := Aside0.mk (below_step (hb3_ HB.out GE630.out GE642.out GE653.out) hb); clear HO_6; clear HO_8; clear HO_9; clear BK630; clear BK642; clear BK653; clear HB; have HO_6 := n0_; have HO_8 := n1_; have HO_9 := n2_; have HO658 := n3_; have BK630 := n4_; have BK642 := n5_; have BK653 := n6_; have HB := n7_; clear n0_ n1_ n2_ n3_ n4_ n5_ n6_ n7_; (try clear hb); (try clear hb2); (try clear hk); (try clear hi); (try clear ho0); obtain ⟨Ao53, co53, eo53⟩ := Kd.R_slice HO658.out; subst eo53) | ((with_reducible refine gate_callee (f := 44) rfl ?_); refine goesL_ (some 51) rfl rfl Try.func44 (by kernel_rfl) rfl #[.slice Ao25 t643.length co25, .slice Ao53 t656.length co53] rfl arr_ ?_; (with_reducible refine (laws_eqLookS.calls kj11 _ _ t643 _ _ t656 true _ ?side1 ?side2 ?side3 ?side4 A48.out).mono ?_); (case side1 => repeat (first | exact (Kd.R_reads' HO_8.out).2.2 | (with_reducible refine Kd.C_alloc ?_ _) | (with_reducible refine Kd.C_drewN ?_ _) | (with_reducible refine Kd.C_drew ?_))); (case side2 => exact (Kd.R_reads' HO_8.out).2.1); (case side3 => repeat (first | exact (Kd.R_reads' HO658.out).2.2 | (with_reducible refine Kd.C_alloc ?_ _) | (with_reducible refine Kd.C_drewN ?_ _) | (with_reducible refine Kd.C_drew ?_))); (case side4 => exact (Kd.R_reads' HO658.out).2.1); rintro e w54 ⟨rfl, hb⟩; refine ⟨_, rfl, ?_⟩; have n0_ := Aside0.mk (Kd.R_below (by (with_reducible repeat (first | apply Kd.R_alloc | apply Kd.R_drewN | apply Kd.R_drew)); exact HO_6.out) hb); have n1_ := Aside0.mk (Kd.R_below (by (with_reducible repeat (first | apply Kd.R_alloc | apply Kd.R_drewN | apply Kd.R_drew)); exact HO_8.out) hb); have n2_ := Aside0.mk (Kd.R_below (by (with_reducible repeat (first | apply Kd.R_alloc | apply Kd.R_drewN | apply Kd.R_drew)); exact HO_9.out) hb); have n3_ := Aside0.mk (Kd.R_below (by (with_reducible repeat (first | apply Kd.R_alloc | apply Kd.R_drewN | apply Kd.R_drew)); exact HO658.out) hb); have n4_ := Aside0.mk (bb_ BK630.out hb); have n5_ := Aside0.mk (bb_ BK642.out hb); have n6_ := Aside0.mk (bb_ BK653.out hb); have n7_ := Aside0.mk (below_step (hb3_ HB.out GE630.out GE642.out GE653.out) hb); clear HO_6; clear HO_8; clear HO_9; clear HO658; clear BK630; clear BK642; clear BK653; clear HB; have HO_6 := n0_; have HO_8 := n1_; have HO_9 := n2_; have HO658 := n3_; have BK630 := n4_; have BK642 := n5_; have BK653 := n6_; have HB := n7_; clear n0_ n1_ n2_ n3_ n4_ n5_ n6_ n7_; (try clear hb); (try clear hb2); (try clear hk); (try clear hi)) | ((with_reducible refine gate_callee (f := 45) rfl ?_); refine goesL_ (some 55) rfl rfl Try.func45 (by kernel_rfl) rfl #[.slice Ao25 t643.length co25, .int .i64 1] rfl arr_ ?_; (with_reducible refine (laws_markLookS.calls kj11 (fun k_ => some k_ = (.slice Ao25 t643.length co25 : Value).ownBlock) (.slice Ao25 t643.length co25) t643 1 t660 t661 w _ ?side1 ?side2 A50.out).mono ?_); (case side1 => repeat (first | (with_reducible first | exact HB.out | apply below_alloc | apply pw_below_drewN | apply below_drew1 | refine below_set ?_ GE630.out | refine below_set ?_ GE642.out | refine below_set ?_ GE653.out) | exact HB.out)); (case side2 => exact Kd.R_tight rfl HO_8.out); rintro e w55 ⟨rfl, hy0, hb, hkp⟩; refine ⟨_, rfl, ?_⟩; have n0_ := Aside0.mk (Kd.R_mono (ok' := fun k_ => some k_ ≠ (v649 : Value).ownBlock) (Kd.R_keptB ((Kd.R_apart' HO_6.out (Kd.R_typed HO_8.out) (by decide))) hkp (fun k_ hk_ hs_ => (hk_.2) hs_)) (fun k_ hk_ => hk_.1.1)); have n1_ := Aside0.mk (Kd.R_reok rfl hy0 (fun k_ e_ => HO_8.out.1 k_ e_)); have n2_ := Aside0.mk (Kd.R_mono (ok' := fun k_ => some k_ ≠ (v638 : Value).ownBlock) (Kd.R_keptB ((Kd.R_apart' HO_9.out (Kd.R_typed HO_8.out) (by decide))) hkp (fun k_ hk_ hs_ => (hk_.2) hs_)) (fun k_ hk_ => hk_.1.1)); have n3_ := Aside0.mk (blk_kept (bk_ BK630.out) hkp (fun hs_ => (fun e_ => (Kd.R_ne HO_8.out BK630.out (by decide)) e_) hs_)); have n4_ := Aside0.mk (blk_kept (bk_ BK642.out) hkp (fun hs_ => (fun e_ => (Kd.R_ne HO_8.out BK642.out (by decide)) e_) hs_)); have n5_ := Aside0.mk (blk_kept (bk_ BK653.out) hkp (fun hs_ => (fun e_ => (Kd.R_ne HO_8.out BK653.out (by decide)) e_) hs_)); have n6_ := Aside0.mk (Kd.R_mono (ok' := fun k_ => some k_ ≠ (.slice Ao25 t643.length co25 : Value).ownBlock) (Kd.R_keptB (HO658.out) hkp (fun k_ hk_ hs_ => (hk_.2) hs_)) (fun k_ hk_ => hk_.1.2)); have n7_ := Aside0.mk (hb); clear HO_6; clear HO_8; clear HO_9; clear BK630; clear BK642; clear BK653; clear HO658; clear HB; have HO_6 := n0_; have HO_8 := n1_; have HO_9 := n2_; have BK630 := n3_; have BK642 := n4_; have BK653 := n5_; have HO658 := n6_; have HB := n7_; clear n0_ n1_ n2_ n3_ n4_ n5_ n6_ n7_; (try clear hb); (try clear hkp); (try clear hy0)))
            (try simp only [Act.put, List.setIfInBounds_toArray, List.set_cons_zero, List.set_cons_succ])
            go_cut [69] (fun v69 wc => ∃ (kq : Nat) (x69_50 : Bool), v69 = .bool x69_50 ∧ Aside0 (laws_FnExactAppRun.j1 kq l1 t637 t648 x69_50 a0_0 a0_1 t640 t641 = some r) ∧ Aside0 (kq ≤ kj11) ∧ Aside0 (Kd.R k88 88 wc w.heap.size (fun k_ => some k_ ≠ (v649 : Value).ownBlock) v638 t637) ∧ Aside0 (Kd.R k88 88 wc w.heap.size (fun k_ => some k_ ≠ (v638 : Value).ownBlock) v649 t648) ∧ Aside0 (wc.heap[gb630]? = some (.cells #[.bool a0_0, .int .i64 a0_1] 62 (0, 0))) ∧ Aside0 (wc.heap[gb642]? = some (.cells #[.bool t640, .int .i64 t641] 66 (0, 0))) ∧ Aside0 (wc.heap[gb653]? = some (.cells #[.bool t651, .int .i64 t652] 66 (0, 0))) ∧ Aside0 (Below w.heap.size w wc))
            case first =>
              have H := HC51.out
              clear HC51
              by_cases c56 : t660 < 0
              · rw [if_pos c56] at H
                have c56b0 : decide (t660 < 0) = true := decide_eq_true c56
                clear c56
                (first | rw [c56b0] | (simp only [i64_w, i32_w]; rw [c56b0]) | skip)
                have H' := Aside0.mk H
                clear H
                go_wp2
                go_meet
                case rel => exact ⟨_, (true), (by first | rfl | (simp; done) | (simp [*]; done)), H', ⟨by have := HJ11.out; first | omega | exact Nat.le_refl _⟩, ⟨by (with_reducible repeat (first | apply Kd.R_alloc | apply Kd.R_drewN | apply Kd.R_drew)); exact HO_6.out⟩, ⟨by (with_reducible repeat (first | apply Kd.R_alloc | apply Kd.R_drewN | apply Kd.R_drew)); exact HO_9.out⟩, ⟨bk_ BK630.out⟩, ⟨bk_ BK642.out⟩, ⟨bk_ BK653.out⟩, ⟨hb3_ HB.out GE630.out GE642.out GE653.out⟩⟩
              · rw [if_neg c56] at H
                have c56b0 : decide (t660 < 0) = false := decide_eq_false c56
                clear c56
                (first | rw [c56b0] | (simp only [i64_w, i32_w]; rw [c56b0]) | skip)
                replace H := Option.bind_eq_some_iff.mp H
                obtain ⟨t662, A570, H⟩ := H
                replace H : (if t662 = true then ((laws_eqApp.f t651 t652 t640 t641).bind fun t663 => (laws_FnExactAppRun.j1 kj11 l1 t637 t648 (!t663) a0_0 a0_1 t640 t641)) else (laws_FnExactAppRun.j1 kj11 l1 t637 t648 true a0_0 a0_1 t640 t641)) = some r := H
                have A57 := Aside0.mk A570
                clear A570
                by_cases c58 : t662 = true
                · subst c58
                  have H1 : ((laws_eqApp.f t651 t652 t640 t641).bind fun t663 => (laws_FnExactAppRun.j1 kj11 l1 t637 t648 (!t663) a0_0 a0_1 t640 t641)) = some r := by rw [if_pos rfl] at H; exact H
                  clear H
                  have H := H1
                  clear H1
                  replace H := Option.bind_eq_some_iff.mp H
                  obtain ⟨t663, A590, H⟩ := H
                  replace H : (laws_FnExactAppRun.j1 kj11 l1 t637 t648 (!t663) a0_0 a0_1 t640 t641) = some r := H
                  have A59 := Aside0.mk A590
                  clear A590
                  have H' := Aside0.mk H
                  clear H
                  obtain ⟨Ao60, co60, eo60⟩ := Kd.R_slice HO_9.out
                  subst eo60
                  obtain ⟨Ao61, co61, eo61⟩ := Kd.R_slice HO_6.out
                  subst eo61
                  go_wp2_with (first | (go_at_call 42; (with_reducible refine (laws_eqReadingS.calls kj11 _ _ t648 _ _ t637 true _ ?side1 ?side2 ?side3 ?side4 A57.out).mono ?_); (case side1 => repeat (first | exact (Kd.R_reads' HO_9.out).2.2 | (with_reducible refine Kd.C_alloc ?_ _) | (with_reducible refine Kd.C_drewN ?_ _) | (with_reducible refine Kd.C_drew ?_))); (case side2 => exact (Kd.R_reads' HO_9.out).2.1); (case side3 => repeat (first | exact (Kd.R_reads' HO_6.out).2.2 | (with_reducible refine Kd.C_alloc ?_ _) | (with_reducible refine Kd.C_drewN ?_ _) | (with_reducible refine Kd.C_drew ?_))); (case side4 => exact (Kd.R_reads' HO_6.out).2.1); rintro e w62 ⟨rfl, hb⟩; have n0_ := Aside0.mk (Kd.R_below (by (with_reducible repeat (first | apply Kd.R_alloc | apply Kd.R_drewN | apply Kd.R_drew)); exact HO_6.out) hb); have n1_ := Aside0.mk (Kd.R_below (by (with_reducible repeat (first | apply Kd.R_alloc | apply Kd.R_drewN | apply Kd.R_drew)); exact HO_8.out) hb); have n2_ := Aside0.mk (Kd.R_below (by (with_reducible repeat (first | apply Kd.R_alloc | apply Kd.R_drewN | apply Kd.R_drew)); exact HO_9.out) hb); have n3_ := Aside0.mk (Kd.R_below (by (with_reducible repeat (first | apply Kd.R_alloc | apply Kd.R_drewN | apply Kd.R_drew)); exact HO658.out) hb); have n4_ := Aside0.mk (bb_ BK630.out hb); have n5_ := Aside0.mk (bb_ BK642.out hb); have n6_ := Aside0.mk (bb_ BK653.out hb); have n7_ := Aside0.mk (below_step (hb3_ HB.out GE630.out GE642.out GE653.out) hb); clear HO_6; clear HO_8; clear HO_9; clear HO658; clear BK630; clear BK642; clear BK653; clear HB; have HO_6 := n0_; have HO_8 := n1_; have HO_9 := n2_; have HO658 := n3_; have BK630 := n4_; have BK642 := n5_; have BK653 := n6_; have HB := n7_; clear n0_ n1_ n2_ n3_ n4_ n5_ n6_ n7_; (try clear hb); (try clear hb2); (try clear hk); (try clear hi); have hnb63 := NB653_630.out; have hnc63 := NB630_653.out; have hnb64 := NB653_642.out; have hnc64 := NB642_653.out; have hcz65_0 := bc_ BK653.out 0 (.bool t651) rfl; have hcz65_1 := bc_ BK653.out 1 (.int .i64 t652) rfl; have hfz65_0 := blk_frozen BK653.out 0; have hfz65_1 := blk_frozen BK653.out 1; have hnb66 := NB642_630.out; have hnc66 := NB630_642.out; have hcz67_0 := bc_ BK642.out 0 (.bool t640) rfl; have hcz67_1 := bc_ BK642.out 1 (.int .i64 t641) rfl; have hfz67_0 := blk_frozen BK642.out 0; have hfz67_1 := blk_frozen BK642.out 1) | (go_at_call 43; (with_reducible refine (laws_eqApp.calls t651 t652 t640 t641 t663 _ A59.out).mono ?_); rintro e w68 ⟨rfl, hb⟩; have n0_ := Aside0.mk (Kd.R_below (by (with_reducible repeat (first | apply Kd.R_alloc | apply Kd.R_drewN | apply Kd.R_drew)); exact HO_6.out) hb); have n1_ := Aside0.mk (Kd.R_below (by (with_reducible repeat (first | apply Kd.R_alloc | apply Kd.R_drewN | apply Kd.R_drew)); exact HO_8.out) hb); have n2_ := Aside0.mk (Kd.R_below (by (with_reducible repeat (first | apply Kd.R_alloc | apply Kd.R_drewN | apply Kd.R_drew)); exact HO_9.out) hb); have n3_ := Aside0.mk (Kd.R_below (by (with_reducible repeat (first | apply Kd.R_alloc | apply Kd.R_drewN | apply Kd.R_drew)); exact HO658.out) hb); have n4_ := Aside0.mk (bb_ BK630.out hb); have n5_ := Aside0.mk (bb_ BK642.out hb); have n6_ := Aside0.mk (bb_ BK653.out hb); have n7_ := Aside0.mk (below_step (hb3_ HB.out GE630.out GE642.out GE653.out) hb); clear HO_6; clear HO_8; clear HO_9; clear HO658; clear BK630; clear BK642; clear BK653; clear HB; have HO_6 := n0_; have HO_8 := n1_; have HO_9 := n2_; have HO658 := n3_; have BK630 := n4_; have BK642 := n5_; have BK653 := n6_; have HB := n7_; clear n0_ n1_ n2_ n3_ n4_ n5_ n6_ n7_; (try clear hb); (try clear hb2); (try clear hk); (try clear hi)))
                  go_meet
                  case rel => exact ⟨_, (!t663), (by first | rfl | (simp; done) | (simp [*]; done)), H', ⟨by have := HJ11.out; first | omega | exact Nat.le_refl _⟩, ⟨by (with_reducible repeat (first | apply Kd.R_alloc | apply Kd.R_drewN | apply Kd.R_drew)); exact HO_6.out⟩, ⟨by (with_reducible repeat (first | apply Kd.R_alloc | apply Kd.R_drewN | apply Kd.R_drew)); exact HO_9.out⟩, ⟨bk_ BK630.out⟩, ⟨bk_ BK642.out⟩, ⟨bk_ BK653.out⟩, ⟨hb3_ HB.out GE630.out GE642.out GE653.out⟩⟩
                · replace c58 := Bool.eq_false_iff.mpr c58
                  subst c58
                  have H1 : (laws_FnExactAppRun.j1 kj11 l1 t637 t648 true a0_0 a0_1 t640 t641) = some r := by rw [if_neg (show ¬ (false = true) by decide)] at H; exact H
                  clear H
                  have H := H1
                  clear H1
                  have H' := Aside0.mk H
                  clear H
                  obtain ⟨Ao69, co69, eo69⟩ := Kd.R_slice HO_9.out
                  subst eo69
                  obtain ⟨Ao70, co70, eo70⟩ := Kd.R_slice HO_6.out
                  subst eo70
                  go_wp2_with (first | (go_at_call 42; (with_reducible refine (laws_eqReadingS.calls kj11 _ _ t648 _ _ t637 false _ ?side1 ?side2 ?side3 ?side4 A57.out).mono ?_); (case side1 => repeat (first | exact (Kd.R_reads' HO_9.out).2.2 | (with_reducible refine Kd.C_alloc ?_ _) | (with_reducible refine Kd.C_drewN ?_ _) | (with_reducible refine Kd.C_drew ?_))); (case side2 => exact (Kd.R_reads' HO_9.out).2.1); (case side3 => repeat (first | exact (Kd.R_reads' HO_6.out).2.2 | (with_reducible refine Kd.C_alloc ?_ _) | (with_reducible refine Kd.C_drewN ?_ _) | (with_reducible refine Kd.C_drew ?_))); (case side4 => exact (Kd.R_reads' HO_6.out).2.1); rintro e w71 ⟨rfl, hb⟩; have n0_ := Aside0.mk (Kd.R_below (by (with_reducible repeat (first | apply Kd.R_alloc | apply Kd.R_drewN | apply Kd.R_drew)); exact HO_6.out) hb); have n1_ := Aside0.mk (Kd.R_below (by (with_reducible repeat (first | apply Kd.R_alloc | apply Kd.R_drewN | apply Kd.R_drew)); exact HO_8.out) hb); have n2_ := Aside0.mk (Kd.R_below (by (with_reducible repeat (first | apply Kd.R_alloc | apply Kd.R_drewN | apply Kd.R_drew)); exact HO_9.out) hb); have n3_ := Aside0.mk (Kd.R_below (by (with_reducible repeat (first | apply Kd.R_alloc | apply Kd.R_drewN | apply Kd.R_drew)); exact HO658.out) hb); have n4_ := Aside0.mk (bb_ BK630.out hb); have n5_ := Aside0.mk (bb_ BK642.out hb); have n6_ := Aside0.mk (bb_ BK653.out hb); have n7_ := Aside0.mk (below_step (hb3_ HB.out GE630.out GE642.out GE653.out) hb); clear HO_6; clear HO_8; clear HO_9; clear HO658; clear BK630; clear BK642; clear BK653; clear HB; have HO_6 := n0_; have HO_8 := n1_; have HO_9 := n2_; have HO658 := n3_; have BK630 := n4_; have BK642 := n5_; have BK653 := n6_; have HB := n7_; clear n0_ n1_ n2_ n3_ n4_ n5_ n6_ n7_; (try clear hb); (try clear hb2); (try clear hk); (try clear hi)))
                  go_meet
                  case rel => exact ⟨_, (true), (by first | rfl | (simp; done) | (simp [*]; done)), H', ⟨by have := HJ11.out; first | omega | exact Nat.le_refl _⟩, ⟨by (with_reducible repeat (first | apply Kd.R_alloc | apply Kd.R_drewN | apply Kd.R_drew)); exact HO_6.out⟩, ⟨by (with_reducible repeat (first | apply Kd.R_alloc | apply Kd.R_drewN | apply Kd.R_drew)); exact HO_9.out⟩, ⟨bk_ BK630.out⟩, ⟨bk_ BK642.out⟩, ⟨bk_ BK653.out⟩, ⟨hb3_ HB.out GE630.out GE642.out GE653.out⟩⟩
            case rest =>
              clear HC51
              try clear c1
              try clear c2
              try clear p2
              try clear c3
              try clear c4
              try clear c4b0
              try clear c5
              try clear c6
              try clear c7
              try clear c20
              try clear c28
              try clear c29
              try clear c32
              try clear c37
              try clear c38
              try clear c39
              try clear c40
              try clear c41
              try clear c42
              try clear c44
              try clear c45
              try clear c46
              try clear c49
              try clear c56
              try clear c56b0
              try clear c58
              try clear c63
              try clear c64
              try clear c66
              try clear hcz14_0
              try clear hcz14_1
              try clear hcz21_0
              try clear hcz21_1
              try clear hcz23_0
              try clear hcz23_1
              try clear hcz30_0
              try clear hcz30_1
              try clear hcz39_0
              try clear hcz39_1
              try clear hcz41_0
              try clear hcz41_1
              try clear hcz65_0
              try clear hcz65_1
              try clear hcz67_0
              try clear hcz67_1
              try clear hfz14_0
              try clear hfz14_1
              try clear hfz21_0
              try clear hfz21_1
              try clear hfz23_0
              try clear hfz23_1
              try clear hfz30_0
              try clear hfz30_1
              try clear hfz39_0
              try clear hfz39_1
              try clear hfz41_0
              try clear hfz41_1
              try clear hfz65_0
              try clear hfz65_1
              try clear hfz67_0
              try clear hfz67_1
              try clear p2
              obtain ⟨kq, x69_50, rfl, HA, HJ50, HO_6, HO_9, BK630, BK642, BK653, HB⟩ := hcut
              cases kq with
              | zero => exact absurd HA.out (by simp [laws_FnExactAppRun.j1])
              | succ kj50 =>
                have H := HA.out
                clear HA
                simp only [laws_FnExactAppRun.j1] at H
                by_cases c72 : x69_50 = true
                · subst c72
                  have H1 : (some false) = some r := by rw [if_pos rfl] at H; exact H
                  clear H
                  have H := H1
                  clear H1
                  obtain rfl := Option.some.inj H
                  exact absurd hr_ (by decide)
                · replace c72 := Bool.eq_false_iff.mpr c72
                  subst c72
                  have H1 : ((laws_markReadingS.f kj50 t648 1).bind fun bt664 => ((laws_heldReadingS.f kj50 bt664.2 1).bind fun t666 => (if t666 < 0 then (some false) else (if t666 = bt664.1 then ((laws_toApp.f a0_0 a0_1).bind fun bt667 => ((laws_toLookS.f kj50 l1).bind fun t669 => ((impl_AppRun.f kj50 bt667.1 bt667.2 t669).bind fun bt672 => ((laws_eqReadingS.f kj50 bt672.1 t637).bind fun t678 => (if t678 = true then ((laws_eqApp.f bt672.2.1 bt672.2.2 t640 t641).bind fun t679 => (laws_FnExactAppRun.j2 kj50 bt664.2 bt664.1 (!t679))) else (laws_FnExactAppRun.j2 kj50 bt664.2 bt664.1 true)))))) else (some false))))) = some r := by rw [if_neg (show ¬ (false = true) by decide)] at H; exact H
                  clear H
                  have H := H1
                  clear H1
                  replace H := Option.bind_eq_some_iff.mp H
                  obtain ⟨⟨t664, t665⟩, A730, H⟩ := H
                  replace H : ((laws_heldReadingS.f kj50 t665 1).bind fun t666 => (if t666 < 0 then (some false) else (if t666 = t664 then ((laws_toApp.f a0_0 a0_1).bind fun bt667 => ((laws_toLookS.f kj50 l1).bind fun t669 => ((impl_AppRun.f kj50 bt667.1 bt667.2 t669).bind fun bt672 => ((laws_eqReadingS.f kj50 bt672.1 t637).bind fun t678 => (if t678 = true then ((laws_eqApp.f bt672.2.1 bt672.2.2 t640 t641).bind fun t679 => (laws_FnExactAppRun.j2 kj50 t665 t664 (!t679))) else (laws_FnExactAppRun.j2 kj50 t665 t664 true)))))) else (some false)))) = some r := H
                  have A73 := Aside0.mk A730
                  clear A730
                  replace H := Option.bind_eq_some_iff.mp H
                  obtain ⟨t666, A740, H⟩ := H
                  replace H : (if t666 < 0 then (some false) else (if t666 = t664 then ((laws_toApp.f a0_0 a0_1).bind fun bt667 => ((laws_toLookS.f kj50 l1).bind fun t669 => ((impl_AppRun.f kj50 bt667.1 bt667.2 t669).bind fun bt672 => ((laws_eqReadingS.f kj50 bt672.1 t637).bind fun t678 => (if t678 = true then ((laws_eqApp.f bt672.2.1 bt672.2.2 t640 t641).bind fun t679 => (laws_FnExactAppRun.j2 kj50 t665 t664 (!t679))) else (laws_FnExactAppRun.j2 kj50 t665 t664 true)))))) else (some false))) = some r := H
                  have A74 := Aside0.mk A740
                  clear A740
                  by_cases c75 : t666 < 0
                  · rw [if_pos c75] at H
                    have c75b0 : decide (t666 < 0) = true := decide_eq_true c75
                    clear c75
                    obtain rfl := Option.some.inj H
                    exact absurd hr_ (by decide)
                  · rw [if_neg c75] at H
                    have c75b0 : decide (t666 < 0) = false := decide_eq_false c75
                    clear c75
                    by_cases c76 : t666 = t664
                    · rw [if_pos c76] at H
                      have c76b0 : (t666 == t664) = true := beq_iff_eq.mpr c76
                      have c76b1 : (t666 != t664) = false := bne_eq_false_iff_eq.mpr c76
                      clear c76
                      replace H := Option.bind_eq_some_iff.mp H
                      obtain ⟨⟨t667, t668⟩, A770, H⟩ := H
                      replace H : ((laws_toLookS.f kj50 l1).bind fun t669 => ((impl_AppRun.f kj50 t667 t668 t669).bind fun bt672 => ((laws_eqReadingS.f kj50 bt672.1 t637).bind fun t678 => (if t678 = true then ((laws_eqApp.f bt672.2.1 bt672.2.2 t640 t641).bind fun t679 => (laws_FnExactAppRun.j2 kj50 t665 t664 (!t679))) else (laws_FnExactAppRun.j2 kj50 t665 t664 true))))) = some r := H
                      have A77 := Aside0.mk A770
                      clear A770
                      replace H := Option.bind_eq_some_iff.mp H
                      obtain ⟨t669, A780, H⟩ := H
                      replace H : ((impl_AppRun.f kj50 t667 t668 t669).bind fun bt672 => ((laws_eqReadingS.f kj50 bt672.1 t637).bind fun t678 => (if t678 = true then ((laws_eqApp.f bt672.2.1 bt672.2.2 t640 t641).bind fun t679 => (laws_FnExactAppRun.j2 kj50 t665 t664 (!t679))) else (laws_FnExactAppRun.j2 kj50 t665 t664 true)))) = some r := H
                      have A78 := Aside0.mk A780
                      clear A780
                      replace H := Option.bind_eq_some_iff.mp H
                      obtain ⟨⟨t672, t675, t676⟩, A790, H⟩ := H
                      replace H : ((laws_eqReadingS.f kj50 t672 t637).bind fun t678 => (if t678 = true then ((laws_eqApp.f t675 t676 t640 t641).bind fun t679 => (laws_FnExactAppRun.j2 kj50 t665 t664 (!t679))) else (laws_FnExactAppRun.j2 kj50 t665 t664 true))) = some r := H
                      have A79 := Aside0.mk A790
                      clear A790
                      have HC80 := Aside0.mk H
                      clear H
                      obtain ⟨Ao81, co81, eo81⟩ := Kd.R_slice HO_9.out
                      subst eo81
                      go_upto_region 25 with (first | ((with_reducible refine gate_callee (f := 46) rfl ?_); refine goesL_ (some 72) rfl rfl Try.func46 (by kernel_rfl) rfl #[.slice Ao81 t648.length co81, .int .i64 1] rfl arr_ ?_; (with_reducible refine (laws_markReadingS.calls kj50 (fun k_ => some k_ = (.slice Ao81 t648.length co81 : Value).ownBlock) (.slice Ao81 t648.length co81) t648 1 t664 t665 w _ ?side1 ?side2 A73.out).mono ?_); (case side1 => repeat (first | (with_reducible first | exact HB.out | apply below_alloc | apply pw_below_drewN | apply below_drew1 | refine below_set ?_ GE630.out | refine below_set ?_ GE642.out | refine below_set ?_ GE653.out) | exact HB.out)); (case side2 => exact Kd.R_tight rfl HO_9.out); rintro e w82 ⟨rfl, hy0, hb, hkp⟩; refine ⟨_, rfl, ?_⟩; have n0_ := Aside0.mk (Kd.R_mono (ok' := fun k_ => some k_ ≠ (.slice Ao81 t648.length co81 : Value).ownBlock) (Kd.R_keptB (HO_6.out) hkp (fun k_ hk_ hs_ => (hk_) hs_)) (fun k_ hk_ => hk_.1)); have n1_ := Aside0.mk (Kd.R_reok rfl hy0 (fun k_ e_ => HO_9.out.1 k_ e_)); have n2_ := Aside0.mk (blk_kept (bk_ BK630.out) hkp (fun hs_ => (fun e_ => (Kd.R_ne HO_9.out BK630.out (by decide)) e_) hs_)); have n3_ := Aside0.mk (blk_kept (bk_ BK642.out) hkp (fun hs_ => (fun e_ => (Kd.R_ne HO_9.out BK642.out (by decide)) e_) hs_)); have n4_ := Aside0.mk (blk_kept (bk_ BK653.out) hkp (fun hs_ => (fun e_ => (Kd.R_ne HO_9.out BK653.out (by decide)) e_) hs_)); have n5_ := Aside0.mk (hb); clear HO_6; clear HO_9; clear BK630; clear BK642; clear BK653; clear HB; have HO_6 := n0_; have HO_9 := n1_; have BK630 := n2_; have BK642 := n3_; have BK653 := n4_; have HB := n5_; clear n0_ n1_ n2_ n3_ n4_ n5_; (try clear hb); (try clear hkp); (try clear hy0)) | ((with_reducible refine gate_callee (f := 47) rfl ?_); refine goesL_ (some 75) rfl rfl Try.func47 (by kernel_rfl) rfl #[.slice Ao81 t665.length co81, .int .i64 1] rfl (by (try simp only [List.map_toArray, List.map_cons, List.map_nil]); first | done | (rw [show t665.length = t648.length from (Kd.R_reads' HO_9.out).1.symm] <;> rfl) | rfl | (simp only [List.length_drop, List.length_take]; rfl)) ?_; (with_reducible refine (laws_heldReadingS.calls kj50 _ _ t665 1 t666 _ ?side1 ?side2 A74.out).mono ?_); (case side1 => repeat (first | exact (Kd.R_reads' HO_9.out).2.2 | (with_reducible refine Kd.C_alloc ?_ _) | (with_reducible refine Kd.C_drewN ?_ _) | (with_reducible refine Kd.C_drew ?_))); (case side2 => rw [show t665.length = t648.length from (Kd.R_reads' HO_9.out).1.symm]; exact (Kd.R_reads' HO_9.out).2.1); rintro e w' ⟨rfl, ⟨nd, rfl⟩⟩; refine ⟨_, rfl, ?_⟩; (try (rw [drewN_self w82]; generalize hq_ : World.drewN w82 _ = w82; have n0_ : Aside0 (Kd.R k88 88 w82 w.heap.size (fun k_ => some k_ ≠ (.slice Ao81 t648.length co81 : Value).ownBlock) v638 t637) := ⟨by rw [← hq_]; exact (by (with_reducible repeat (first | apply Kd.R_alloc | apply Kd.R_drewN | apply Kd.R_drew)); exact HO_6.out)⟩; have n1_ : Aside0 (Kd.R k88 88 w82 w.heap.size (fun k_ => some k_ ≠ (v638 : Value).ownBlock) (.slice Ao81 t648.length co81) t665) := ⟨by rw [← hq_]; exact (by (with_reducible repeat (first | apply Kd.R_alloc | apply Kd.R_drewN | apply Kd.R_drew)); exact HO_9.out)⟩; have n2_ : Aside0 (w82.heap[gb630]? = some (.cells #[.bool a0_0, .int .i64 a0_1] 62 (0, 0))) := ⟨by rw [← hq_]; exact (bk_ BK630.out)⟩; have n3_ : Aside0 (w82.heap[gb642]? = some (.cells #[.bool t640, .int .i64 t641] 66 (0, 0))) := ⟨by rw [← hq_]; exact (bk_ BK642.out)⟩; have n4_ : Aside0 (w82.heap[gb653]? = some (.cells #[.bool t651, .int .i64 t652] 66 (0, 0))) := ⟨by rw [← hq_]; exact (bk_ BK653.out)⟩; have n5_ : Aside0 (Below w.heap.size w w82) := ⟨by rw [← hq_]; exact (hb3_ HB.out GE630.out GE642.out GE653.out)⟩; clear HO_6 HO_9 BK630 BK642 BK653 HB hq_; have HO_6 := n0_; have HO_9 := n1_; have BK630 := n2_; have BK642 := n3_; have BK653 := n4_; have HB := n5_; clear n0_ n1_ n2_ n3_ n4_ n5_)); have hnb83 := NB630_642.out; have hnc83 := NB642_630.out; have hnb84 := NB630_653.out; have hnc84 := NB653_630.out; have hcz85_0 := bc_ BK630.out 0 (.bool a0_0) rfl; have hcz85_1 := bc_ BK630.out 1 (.int .i64 a0_1) rfl; have hfz85_0 := blk_frozen BK630.out 0; have hfz85_1 := blk_frozen BK630.out 1) | ((with_reducible refine gate_callee (f := 39) rfl ?_); refine goesL_ (some 83) rfl rfl Try.func39 (by kernel_rfl) rfl #[.agg #[.bool a0_0, .int .i64 a0_1]] rfl arr_ ?_; (with_reducible refine (laws_toApp.calls a0_0 a0_1 t667 t668 _ A77.out).mono ?_); rintro e w86 ⟨rfl, hb⟩; refine ⟨_, rfl, ?_⟩; have n0_ := Aside0.mk (Kd.R_below (by (with_reducible repeat (first | apply Kd.R_alloc | apply Kd.R_drewN | apply Kd.R_drew)); exact HO_6.out) hb); have n1_ := Aside0.mk (Kd.R_below (by (with_reducible repeat (first | apply Kd.R_alloc | apply Kd.R_drewN | apply Kd.R_drew)); exact HO_9.out) hb); have n2_ := Aside0.mk (bb_ BK630.out hb); have n3_ := Aside0.mk (bb_ BK642.out hb); have n4_ := Aside0.mk (bb_ BK653.out hb); have n5_ := Aside0.mk (below_step (hb3_ HB.out GE630.out GE642.out GE653.out) hb); clear HO_6; clear HO_9; clear BK630; clear BK642; clear BK653; clear HB; have HO_6 := n0_; have HO_9 := n1_; have BK630 := n2_; have BK642 := n3_; have BK653 := n4_; have HB := n5_; clear n0_ n1_ n2_ n3_ n4_ n5_; (try clear hb); (try clear hb2); (try clear hk); (try clear hi)) | ((with_reducible refine gate_callee (f := 40) rfl ?_); refine goesL_ (some 85) rfl rfl Try.func40 (by kernel_rfl) rfl #[.slice A1 l1.length c1] rfl arr_ ?_; (with_reducible refine (laws_toLookS.calls kj50 _ _ l1 t669 _ ?side1 ?side2 A78.out).mono ?_); (case side1 => exact kc_ (Kd.C_below HR1.out HB.out)); (case side2 => exact HC1.out); rintro e w87 ⟨v670, rfl, ho0, hb⟩; refine ⟨_, rfl, ?_⟩; have n0_ := Aside0.mk (Kd.R_below (by (with_reducible repeat (first | apply Kd.R_alloc | apply Kd.R_drewN | apply Kd.R_drew)); exact HO_6.out) hb); have n1_ := Aside0.mk (Kd.R_below (by (with_reducible repeat (first | apply Kd.R_alloc | apply Kd.R_drewN | apply Kd.R_drew)); exact HO_9.out) hb); have n2_ := Aside0.mk (Kd.R_lower ho0 (below_size (hb3_ HB.out GE630.out GE642.out GE653.out))); have n3_ := Aside0.mk (bb_ BK630.out hb); have n4_ := Aside0.mk (bb_ BK642.out hb); have n5_ := Aside0.mk (bb_ BK653.out hb); have n6_ := Aside0.mk (below_step (hb3_ HB.out GE630.out GE642.out GE653.out) hb); clear HO_6; clear HO_9; clear BK630; clear BK642; clear BK653; clear HB; have HO_6 := n0_; have HO_9 := n1_; have HO671 := n2_; have BK630 := n3_; have BK642 := n4_; have BK653 := n5_; have HB := n6_; clear n0_ n1_ n2_ n3_ n4_ n5_ n6_; (try clear hb); (try clear hb2); (try clear hk); (try clear hi); (try clear ho0); obtain ⟨Ao88, co88, eo88⟩ := Kd.R_slice HO671.out; subst eo88) | ((with_reducible refine gate_callee (f := 41) rfl ?_); refine goesL_ (some 86) rfl rfl Try.func41 (by kernel_rfl) rfl #[.agg #[.bool t667, .int .i64 t668], .slice Ao88 t669.length co88] rfl arr_ ?_; (with_reducible refine (impl_AppRun.calls kj50 t667 t668 _ _ t669 t672 t675 t676 _ ?side1 ?side2 A79.out).mono ?_); (case side1 => repeat (first | exact (Kd.R_reads' HO671.out).2.2 | (with_reducible refine Kd.C_alloc ?_ _) | (with_reducible refine Kd.C_drewN ?_ _) | (with_reducible refine Kd.C_drew ?_))); (case side2 => exact (Kd.R_reads' HO671.out).2.1); rintro e w89 ⟨v673, rfl, ho0, hb⟩; refine ⟨_, rfl, ?_⟩; have n0_ := Aside0.mk (Kd.R_elder' (by (with_reducible repeat (first | apply Kd.R_alloc | apply Kd.R_drewN | apply Kd.R_drew)); exact HO_6.out) (Kd.R_base ho0) hb); have n1_ := Aside0.mk (Kd.R_elder' (by (with_reducible repeat (first | apply Kd.R_alloc | apply Kd.R_drewN | apply Kd.R_drew)); exact HO_9.out) (Kd.R_base ho0) hb); have n2_ := Aside0.mk (Kd.R_below (by (with_reducible repeat (first | apply Kd.R_alloc | apply Kd.R_drewN | apply Kd.R_drew)); exact HO671.out) hb); have n3_ := Aside0.mk (Kd.R_lower (Kd.R_new' (Kd.R_new' ho0 (Kd.R_lt (by (with_reducible repeat (first | apply Kd.R_alloc | apply Kd.R_drewN | apply Kd.R_drew)); exact HO_6.out))) (Kd.R_lt (by (with_reducible repeat (first | apply Kd.R_alloc | apply Kd.R_drewN | apply Kd.R_drew)); exact HO_9.out))) (below_size (hb3_ HB.out GE630.out GE642.out GE653.out))); have n4_ := Aside0.mk (bb_ BK630.out hb); have n5_ := Aside0.mk (bb_ BK642.out hb); have n6_ := Aside0.mk (bb_ BK653.out hb); have n7_ := Aside0.mk (below_step (hb3_ HB.out GE630.out GE642.out GE653.out) hb); clear HO_6; clear HO_9; clear HO671; clear BK630; clear BK642; clear BK653; clear HB; have HO_6 := n0_; have HO_9 := n1_; have HO671 := n2_; have HO674 := n3_; have BK630 := n4_; have BK642 := n5_; have BK653 := n6_; have HB := n7_; clear n0_ n1_ n2_ n3_ n4_ n5_ n6_ n7_; (try clear hb); (try clear hb2); (try clear hk); (try clear hi); (try clear ho0)) | ((with_reducible refine gate_dst (N := 15) rfl ?_); refine box_event ?hg (N := 15) ?hd (cs := #[.bool false, .int .i64 0]) (t := 66) ?hr ?_; (case hd => rfl); (case hg => rfl); (case hr => first | (go_simp; done) | (go_simp; rfl)); intro gb677 hg w90 hbox hb; have n0_ := Aside0.mk (Kd.R_below (by (with_reducible repeat (first | apply Kd.R_alloc | apply Kd.R_drewN | apply Kd.R_drew)); exact HO_6.out) hb); have n1_ := Aside0.mk (Kd.R_below (by (with_reducible repeat (first | apply Kd.R_alloc | apply Kd.R_drewN | apply Kd.R_drew)); exact HO_9.out) hb); have n2_ := Aside0.mk (Kd.R_below (by (with_reducible repeat (first | apply Kd.R_alloc | apply Kd.R_drewN | apply Kd.R_drew)); exact HO671.out) hb); have n3_ := Aside0.mk (Kd.R_below (by (with_reducible repeat (first | apply Kd.R_alloc | apply Kd.R_drewN | apply Kd.R_drew)); exact HO674.out) hb); have n4_ := Aside0.mk (bb_ BK630.out hb); have n5_ := Aside0.mk (bb_ BK642.out hb); have n6_ := Aside0.mk (bb_ BK653.out hb); have n7_ := Aside0.mk (below_step (hb3_ HB.out GE630.out GE642.out GE653.out) hb); have n8_ := Aside0.mk (hbox); have n9_ := Aside0.mk ((by rw [hg]; exact (below_size (hb3_ HB.out GE630.out GE642.out GE653.out)) : w.heap.size ≤ gb677)); have n10_ := Aside0.mk ((by rw [hg]; exact (below_size (hb3_ HB.out GE630.out GE642.out GE653.out)) : w.heap.size ≤ gb677)); have n11_ := Aside0.mk ((bl_ hg BK630.out : gb630 ≠ gb677)); have n12_ := Aside0.mk ((bg_ hg BK630.out : gb677 ≠ gb630)); have n13_ := Aside0.mk ((bl_ hg BK642.out : gb642 ≠ gb677)); have n14_ := Aside0.mk ((bg_ hg BK642.out : gb677 ≠ gb642)); have n15_ := Aside0.mk ((bl_ hg BK653.out : gb653 ≠ gb677)); have n16_ := Aside0.mk ((bg_ hg BK653.out : gb677 ≠ gb653)); clear HO_6; clear HO_9; clear HO671; clear HO674; clear BK630; clear BK642; clear BK653; clear HB; have HO_6 := n0_; have HO_9 := n1_; have HO671 := n2_; have HO674 := n3_; have BK630 := n4_; have BK642 := n5_; have BK653 := n6_; have HB := n7_; have BK677 := n8_; have GW677 := n9_; have GE677 := n10_; have NB630_677 := n11_; have NB677_630 := n12_; have NB642_677 := n13_; have NB677_642 := n14_; have NB653_677 := n15_; have NB677_653 := n16_; clear n0_ n1_ n2_ n3_ n4_ n5_ n6_ n7_ n8_ n9_ n10_ n11_ n12_ n13_ n14_ n15_ n16_; clear hb hbox hg; have hnb91 := NB677_630.out; have hnc91 := NB630_677.out; have hnb92 := NB677_642.out; have hnc92 := NB642_677.out; have hnb93 := NB677_653.out; have hnc93 := NB653_677.out; have hcz94_0 := bc_ BK677.out 0 (.bool false) rfl; have hcz94_1 := bc_ BK677.out 1 (.int .i64 0) rfl; have hfz94_0 := blk_frozen BK677.out 0; have hfz94_1 := blk_frozen BK677.out 1))
                      (try simp only [Act.put, List.setIfInBounds_toArray, List.set_cons_zero, List.set_cons_succ])
                      go_cut [98] (fun v98 wc => ∃ (kq : Nat) (x98_79 : Bool), v98 = .bool x98_79 ∧ Aside0 (laws_FnExactAppRun.j2 kq t665 t664 x98_79 = some r) ∧ Aside0 (kq ≤ kj50) ∧ Aside0 (Kd.R k88 88 wc w.heap.size (fun _ => True) (.slice Ao81 t648.length co81) t665) ∧ Aside0 (wc.heap[gb630]? = some (.cells #[.bool a0_0, .int .i64 a0_1] 62 (0, 0))) ∧ Aside0 (wc.heap[gb642]? = some (.cells #[.bool t640, .int .i64 t641] 66 (0, 0))) ∧ Aside0 (wc.heap[gb653]? = some (.cells #[.bool t651, .int .i64 t652] 66 (0, 0))) ∧ Aside0 (wc.heap[gb677]? = some (.cells #[.bool t675, .int .i64 t676] 66 (0, 0))) ∧ Aside0 (Below w.heap.size w wc))
                      case first =>
                        have H := HC80.out
                        clear HC80
                        replace H := Option.bind_eq_some_iff.mp H
                        obtain ⟨t678, A950, H⟩ := H
                        replace H : (if t678 = true then ((laws_eqApp.f t675 t676 t640 t641).bind fun t679 => (laws_FnExactAppRun.j2 kj50 t665 t664 (!t679))) else (laws_FnExactAppRun.j2 kj50 t665 t664 true)) = some r := H
                        have A95 := Aside0.mk A950
                        clear A950
                        by_cases c96 : t678 = true
                        · subst c96
                          have H1 : ((laws_eqApp.f t675 t676 t640 t641).bind fun t679 => (laws_FnExactAppRun.j2 kj50 t665 t664 (!t679))) = some r := by rw [if_pos rfl] at H; exact H
                          clear H
                          have H := H1
                          clear H1
                          replace H := Option.bind_eq_some_iff.mp H
                          obtain ⟨t679, A970, H⟩ := H
                          replace H : (laws_FnExactAppRun.j2 kj50 t665 t664 (!t679)) = some r := H
                          have A97 := Aside0.mk A970
                          clear A970
                          have H' := Aside0.mk H
                          clear H
                          obtain ⟨Ao98, co98, eo98⟩ := Kd.R_slice HO674.out
                          subst eo98
                          obtain ⟨Ao99, co99, eo99⟩ := Kd.R_slice HO_6.out
                          subst eo99
                          go_wp2_with (first | ((with_reducible refine gate_callee (f := 42) rfl ?_); refine goesL_ (some 91) rfl rfl Try.func42 (by kernel_rfl) rfl #[.slice Ao98 t672.length co98, .slice Ao99 t637.length co99] rfl arr_ ?_; (with_reducible refine (laws_eqReadingS.calls kj50 _ _ t672 _ _ t637 true _ ?side1 ?side2 ?side3 ?side4 A95.out).mono ?_); (case side1 => refine (Kd.R_reads' (e := 88) (base := w.heap.size) (ok := fun k_ => ((True ∧ some k_ ≠ (.slice Ao99 t637.length co99 : Value).ownBlock) ∧ some k_ ≠ (.slice Ao81 t648.length co81 : Value).ownBlock)) (n := t672.length) (c := co98) ?_).2.2; exact (by (with_reducible repeat (first | apply Kd.R_alloc | apply Kd.R_drewN | apply Kd.R_drew)); exact (Kd.R_mono (Kd.R_far (p := ⟨gb677, 1, none⟩) (Kd.R_far (p := ⟨gb677, 0, none⟩) (Kd.R_types HO674.out BK677.out (by decide)) (fun _ hk => hk.2) (.bool t675)) (fun _ hk => hk.2) (.int .i64 t676)) (fun _ h_ => h_.1)))); (case side2 => exact (Kd.R_reads' HO674.out).2.1); (case side3 => refine (Kd.R_reads' (e := 88) (base := w.heap.size) (ok := fun k_ => (some k_ ≠ (.slice Ao81 t648.length co81 : Value).ownBlock ∧ some k_ ≠ (.slice Ao98 t672.length co98 : Value).ownBlock)) (n := t637.length) (c := co99) ?_).2.2; exact (by (with_reducible repeat (first | apply Kd.R_alloc | apply Kd.R_drewN | apply Kd.R_drew)); exact (Kd.R_mono (Kd.R_far (p := ⟨gb677, 1, none⟩) (Kd.R_far (p := ⟨gb677, 0, none⟩) (Kd.R_types HO_6.out BK677.out (by decide)) (fun _ hk => hk.2) (.bool t675)) (fun _ hk => hk.2) (.int .i64 t676)) (fun _ h_ => h_.1)))); (case side4 => exact (Kd.R_reads' HO_6.out).2.1); rintro e w100 ⟨rfl, hb⟩; refine ⟨_, rfl, ?_⟩; have n0_ := Aside0.mk (Kd.R_below (by (with_reducible repeat (first | apply Kd.R_alloc | apply Kd.R_drewN | apply Kd.R_drew)); exact (Kd.R_mono (Kd.R_far (p := ⟨gb677, 1, none⟩) (Kd.R_far (p := ⟨gb677, 0, none⟩) (Kd.R_types HO_6.out BK677.out (by decide)) (fun _ hk => hk.2) (.bool t675)) (fun _ hk => hk.2) (.int .i64 t676)) (fun _ h_ => h_.1))) hb); have n1_ := Aside0.mk (Kd.R_below (by (with_reducible repeat (first | apply Kd.R_alloc | apply Kd.R_drewN | apply Kd.R_drew)); exact (Kd.R_mono (Kd.R_far (p := ⟨gb677, 1, none⟩) (Kd.R_far (p := ⟨gb677, 0, none⟩) (Kd.R_types HO_9.out BK677.out (by decide)) (fun _ hk => hk.2) (.bool t675)) (fun _ hk => hk.2) (.int .i64 t676)) (fun _ h_ => h_.1))) hb); have n2_ := Aside0.mk (Kd.R_below (by (with_reducible repeat (first | apply Kd.R_alloc | apply Kd.R_drewN | apply Kd.R_drew)); exact (Kd.R_mono (Kd.R_far (p := ⟨gb677, 1, none⟩) (Kd.R_far (p := ⟨gb677, 0, none⟩) (Kd.R_types HO671.out BK677.out (by decide)) (fun _ hk => hk.2) (.bool t675)) (fun _ hk => hk.2) (.int .i64 t676)) (fun _ h_ => h_.1))) hb); have n3_ := Aside0.mk (Kd.R_below (by (with_reducible repeat (first | apply Kd.R_alloc | apply Kd.R_drewN | apply Kd.R_drew)); exact (Kd.R_mono (Kd.R_far (p := ⟨gb677, 1, none⟩) (Kd.R_far (p := ⟨gb677, 0, none⟩) (Kd.R_types HO674.out BK677.out (by decide)) (fun _ hk => hk.2) (.bool t675)) (fun _ hk => hk.2) (.int .i64 t676)) (fun _ h_ => h_.1))) hb); have n4_ := Aside0.mk (blk_below (g := gb630) (o := .cells #[.bool a0_0, .int .i64 a0_1] 62 (0, 0)) (by (with_reducible repeat (first | refine blk_drewN ?_ _ | refine blk_drew ?_ | refine blk_alloc ?_ _)); refine blk_far ?_ NB630_677.out _; (with_reducible repeat (first | refine blk_drewN ?_ _ | refine blk_drew ?_ | refine blk_alloc ?_ _)); refine blk_far ?_ NB630_677.out _; (with_reducible repeat (first | refine blk_drewN ?_ _ | refine blk_drew ?_ | refine blk_alloc ?_ _)); exact BK630.out) hb); have n5_ := Aside0.mk (blk_below (g := gb642) (o := .cells #[.bool t640, .int .i64 t641] 66 (0, 0)) (by (with_reducible repeat (first | refine blk_drewN ?_ _ | refine blk_drew ?_ | refine blk_alloc ?_ _)); refine blk_far ?_ NB642_677.out _; (with_reducible repeat (first | refine blk_drewN ?_ _ | refine blk_drew ?_ | refine blk_alloc ?_ _)); refine blk_far ?_ NB642_677.out _; (with_reducible repeat (first | refine blk_drewN ?_ _ | refine blk_drew ?_ | refine blk_alloc ?_ _)); exact BK642.out) hb); have n6_ := Aside0.mk (blk_below (g := gb653) (o := .cells #[.bool t651, .int .i64 t652] 66 (0, 0)) (by (with_reducible repeat (first | refine blk_drewN ?_ _ | refine blk_drew ?_ | refine blk_alloc ?_ _)); refine blk_far ?_ NB653_677.out _; (with_reducible repeat (first | refine blk_drewN ?_ _ | refine blk_drew ?_ | refine blk_alloc ?_ _)); refine blk_far ?_ NB653_677.out _; (with_reducible repeat (first | refine blk_drewN ?_ _ | refine blk_drew ?_ | refine blk_alloc ?_ _)); exact BK653.out) hb); have n7_ := Aside0.mk (blk_below (g := gb677) (o := .cells #[.bool t675, .int .i64 t676] 66 (0, 0)) (by (with_reducible repeat (first | refine blk_drewN ?_ _ | refine blk_drew ?_ | refine blk_alloc ?_ _)); refine blk_put (cs := #[.bool t675, .int .i64 0]) ?_ 1 _ rfl; (with_reducible repeat (first | refine blk_drewN ?_ _ | refine blk_drew ?_ | refine blk_alloc ?_ _)); refine blk_put (cs := #[.bool false, .int .i64 0]) ?_ 0 _ rfl; (with_reducible repeat (first | refine blk_drewN ?_ _ | refine blk_drew ?_ | refine blk_alloc ?_ _)); exact BK677.out) hb); have n8_ := Aside0.mk (below_step (hb4_ HB.out GE630.out GE642.out GE653.out GE677.out) hb); clear HO_6; clear HO_9; clear HO671; clear HO674; clear BK630; clear BK642; clear BK653; clear BK677; clear HB; have HO_6 := n0_; have HO_9 := n1_; have HO671 := n2_; have HO674 := n3_; have BK630 := n4_; have BK642 := n5_; have BK653 := n6_; have BK677 := n7_; have HB := n8_; clear n0_ n1_ n2_ n3_ n4_ n5_ n6_ n7_ n8_; (try clear hb); (try clear hb2); (try clear hk); (try clear hi); have hnb101 := NB677_630.out; have hnc101 := NB630_677.out; have hnb102 := NB677_642.out; have hnc102 := NB642_677.out; have hnb103 := NB677_653.out; have hnc103 := NB653_677.out; have hcz104_0 := bc_ BK677.out 0 (.bool t675) rfl; have hcz104_1 := bc_ BK677.out 1 (.int .i64 t676) rfl; have hfz104_0 := blk_frozen BK677.out 0; have hfz104_1 := blk_frozen BK677.out 1; have hnb105 := NB642_630.out; have hnc105 := NB630_642.out; have hnb106 := NB642_653.out; have hnc106 := NB653_642.out; have hcz107_0 := bc_ BK642.out 0 (.bool t640) rfl; have hcz107_1 := bc_ BK642.out 1 (.int .i64 t641) rfl; have hfz107_0 := blk_frozen BK642.out 0; have hfz107_1 := blk_frozen BK642.out 1) | (go_at_call 43; (with_reducible refine (laws_eqApp.calls t675 t676 t640 t641 t679 _ A97.out).mono ?_); rintro e w108 ⟨rfl, hb⟩; have n0_ := Aside0.mk (Kd.R_below (by (with_reducible repeat (first | apply Kd.R_alloc | apply Kd.R_drewN | apply Kd.R_drew)); exact HO_6.out) hb); have n1_ := Aside0.mk (Kd.R_below (by (with_reducible repeat (first | apply Kd.R_alloc | apply Kd.R_drewN | apply Kd.R_drew)); exact HO_9.out) hb); have n2_ := Aside0.mk (Kd.R_below (by (with_reducible repeat (first | apply Kd.R_alloc | apply Kd.R_drewN | apply Kd.R_drew)); exact HO671.out) hb); have n3_ := Aside0.mk (Kd.R_below (by (with_reducible repeat (first | apply Kd.R_alloc | apply Kd.R_drewN | apply Kd.R_drew)); exact HO674.out) hb); have n4_ := Aside0.mk (bb_ BK630.out hb); have n5_ := Aside0.mk (bb_ BK642.out hb); have n6_ := Aside0.mk (bb_ BK653.out hb); have n7_ := Aside0.mk (bb_ BK677.out hb); have n8_ := Aside0.mk (below_step (hb4_ HB.out GE630.out GE642.out GE653.out GE677.out) hb); clear HO_6; clear HO_9; clear HO671; clear HO674; clear BK630; clear BK642; clear BK653; clear BK677; clear HB; have HO_6 := n0_; have HO_9 := n1_; have HO671 := n2_; have HO674 := n3_; have BK630 := n4_; have BK642 := n5_; have BK653 := n6_; have BK677 := n7_; have HB := n8_; clear n0_ n1_ n2_ n3_ n4_ n5_ n6_ n7_ n8_; (try clear hb); (try clear hb2); (try clear hk); (try clear hi)))
                          go_meet
                          case rel => exact ⟨_, (!t679), (by first | rfl | (simp; done) | (simp [*]; done)), H', ⟨by have := HJ11.out; have := HJ50.out; first | omega | exact Nat.le_refl _⟩, ⟨by (with_reducible repeat (first | apply Kd.R_alloc | apply Kd.R_drewN | apply Kd.R_drew)); exact Kd.R_mono HO_9.out (fun _ hk => trivial)⟩, ⟨bk_ BK630.out⟩, ⟨bk_ BK642.out⟩, ⟨bk_ BK653.out⟩, ⟨bk_ BK677.out⟩, ⟨hb4_ HB.out GE630.out GE642.out GE653.out GE677.out⟩⟩
                        · replace c96 := Bool.eq_false_iff.mpr c96
                          subst c96
                          have H1 : (laws_FnExactAppRun.j2 kj50 t665 t664 true) = some r := by rw [if_neg (show ¬ (false = true) by decide)] at H; exact H
                          clear H
                          have H := H1
                          clear H1
                          have H' := Aside0.mk H
                          clear H
                          obtain ⟨Ao109, co109, eo109⟩ := Kd.R_slice HO674.out
                          subst eo109
                          obtain ⟨Ao110, co110, eo110⟩ := Kd.R_slice HO_6.out
                          subst eo110
                          go_wp2_with (first | ((with_reducible refine gate_callee (f := 42) rfl ?_); refine goesL_ (some 91) rfl rfl Try.func42 (by kernel_rfl) rfl #[.slice Ao109 t672.length co109, .slice Ao110 t637.length co110] rfl arr_ ?_; (with_reducible refine (laws_eqReadingS.calls kj50 _ _ t672 _ _ t637 false _ ?side1 ?side2 ?side3 ?side4 A95.out).mono ?_); (case side1 => refine (Kd.R_reads' (e := 88) (base := w.heap.size) (ok := fun k_ => ((True ∧ some k_ ≠ (.slice Ao110 t637.length co110 : Value).ownBlock) ∧ some k_ ≠ (.slice Ao81 t648.length co81 : Value).ownBlock)) (n := t672.length) (c := co109) ?_).2.2; exact (by (with_reducible repeat (first | apply Kd.R_alloc | apply Kd.R_drewN | apply Kd.R_drew)); exact (Kd.R_mono (Kd.R_far (p := ⟨gb677, 1, none⟩) (Kd.R_far (p := ⟨gb677, 0, none⟩) (Kd.R_types HO674.out BK677.out (by decide)) (fun _ hk => hk.2) (.bool t675)) (fun _ hk => hk.2) (.int .i64 t676)) (fun _ h_ => h_.1)))); (case side2 => exact (Kd.R_reads' HO674.out).2.1); (case side3 => refine (Kd.R_reads' (e := 88) (base := w.heap.size) (ok := fun k_ => (some k_ ≠ (.slice Ao81 t648.length co81 : Value).ownBlock ∧ some k_ ≠ (.slice Ao109 t672.length co109 : Value).ownBlock)) (n := t637.length) (c := co110) ?_).2.2; exact (by (with_reducible repeat (first | apply Kd.R_alloc | apply Kd.R_drewN | apply Kd.R_drew)); exact (Kd.R_mono (Kd.R_far (p := ⟨gb677, 1, none⟩) (Kd.R_far (p := ⟨gb677, 0, none⟩) (Kd.R_types HO_6.out BK677.out (by decide)) (fun _ hk => hk.2) (.bool t675)) (fun _ hk => hk.2) (.int .i64 t676)) (fun _ h_ => h_.1)))); (case side4 => exact (Kd.R_reads' HO_6.out).2.1); rintro e w111 ⟨rfl, hb⟩; refine ⟨_, rfl, ?_⟩; have n0_ := Aside0.mk (Kd.R_below (by (with_reducible repeat (first | apply Kd.R_alloc | apply Kd.R_drewN | apply Kd.R_drew)); exact (Kd.R_mono (Kd.R_far (p := ⟨gb677, 1, none⟩) (Kd.R_far (p := ⟨gb677, 0, none⟩) (Kd.R_types HO_6.out BK677.out (by decide)) (fun _ hk => hk.2) (.bool t675)) (fun _ hk => hk.2) (.int .i64 t676)) (fun _ h_ => h_.1))) hb); have n1_ := Aside0.mk (Kd.R_below (by (with_reducible repeat (first | apply Kd.R_alloc | apply Kd.R_drewN | apply Kd.R_drew)); exact (Kd.R_mono (Kd.R_far (p := ⟨gb677, 1, none⟩) (Kd.R_far (p := ⟨gb677, 0, none⟩) (Kd.R_types HO_9.out BK677.out (by decide)) (fun _ hk => hk.2) (.bool t675)) (fun _ hk => hk.2) (.int .i64 t676)) (fun _ h_ => h_.1))) hb); have n2_ := Aside0.mk (Kd.R_below (by (with_reducible repeat (first | apply Kd.R_alloc | apply Kd.R_drewN | apply Kd.R_drew)); exact (Kd.R_mono (Kd.R_far (p := ⟨gb677, 1, none⟩) (Kd.R_far (p := ⟨gb677, 0, none⟩) (Kd.R_types HO671.out BK677.out (by decide)) (fun _ hk => hk.2) (.bool t675)) (fun _ hk => hk.2) (.int .i64 t676)) (fun _ h_ => h_.1))) hb); have n3_ := Aside0.mk (Kd.R_below (by (with_reducible repeat (first | apply Kd.R_alloc | apply Kd.R_drewN | apply Kd.R_drew)); exact (Kd.R_mono (Kd.R_far (p := ⟨gb677, 1, none⟩) (Kd.R_far (p := ⟨gb677, 0, none⟩) (Kd.R_types HO674.out BK677.out (by decide)) (fun _ hk => hk.2) (.bool t675)) (fun _ hk => hk.2) (.int .i64 t676)) (fun _ h_ => h_.1))) hb); have n4_ := Aside0.mk (blk_below (g := gb630) (o := .cells #[.bool a0_0, .int .i64 a0_1] 62 (0, 0)) (by (with_reducible repeat (first | refine blk_drewN ?_ _ | refine blk_drew ?_ | refine blk_alloc ?_ _)); refine blk_far ?_ NB630_677.out _; (with_reducible repeat (first | refine blk_drewN ?_ _ | refine blk_drew ?_ | refine blk_alloc ?_ _)); refine blk_far ?_ NB630_677.out _; (with_reducible repeat (first | refine blk_drewN ?_ _ | refine blk_drew ?_ | refine blk_alloc ?_ _)); exact BK630.out) hb); have n5_ := Aside0.mk (blk_below (g := gb642) (o := .cells #[.bool t640, .int .i64 t641] 66 (0, 0)) (by (with_reducible repeat (first | refine blk_drewN ?_ _ | refine blk_drew ?_ | refine blk_alloc ?_ _)); refine blk_far ?_ NB642_677.out _; (with_reducible repeat (first | refine blk_drewN ?_ _ | refine blk_drew ?_ | refine blk_alloc ?_ _)); refine blk_far ?_ NB642_677.out _; (with_reducible repeat (first | refine blk_drewN ?_ _ | refine blk_drew ?_ | refine blk_alloc ?_ _)); exact BK642.out) hb); have n6_ := Aside0.mk (blk_below (g := gb653) (o := .cells #[.bool t651, .int .i64 t652] 66 (0, 0)) (by (with_reducible repeat (first | refine blk_drewN ?_ _ | refine blk_drew ?_ | refine blk_alloc ?_ _)); refine blk_far ?_ NB653_677.out _; (with_reducible repeat (first | refine blk_drewN ?_ _ | refine blk_drew ?_ | refine blk_alloc ?_ _)); refine blk_far ?_ NB653_677.out _; (with_reducible repeat (first | refine blk_drewN ?_ _ | refine blk_drew ?_ | refine blk_alloc ?_ _)); exact BK653.out) hb); have n7_ := Aside0.mk (blk_below (g := gb677) (o := .cells #[.bool t675, .int .i64 t676] 66 (0, 0)) (by (with_reducible repeat (first | refine blk_drewN ?_ _ | refine blk_drew ?_ | refine blk_alloc ?_ _)); refine blk_put (cs := #[.bool t675, .int .i64 0]) ?_ 1 _ rfl; (with_reducible repeat (first | refine blk_drewN ?_ _ | refine blk_drew ?_ | refine blk_alloc ?_ _)); refine blk_put (cs := #[.bool false, .int .i64 0]) ?_ 0 _ rfl; (with_reducible repeat (first | refine blk_drewN ?_ _ | refine blk_drew ?_ | refine blk_alloc ?_ _)); exact BK677.out) hb); have n8_ := Aside0.mk (below_step (hb4_ HB.out GE630.out GE642.out GE653.out GE677.out) hb); clear HO_6; clear HO_9; clear HO671; clear HO674; clear BK630; clear BK642; clear BK653; clear BK677; clear HB; have HO_6 := n0_; have HO_9 := n1_; have HO671 := n2_; have HO674 := n3_; have BK630 := n4_; have BK642 := n5_; have BK653 := n6_; have BK677 := n7_; have HB := n8_; clear n0_ n1_ n2_ n3_ n4_ n5_ n6_ n7_ n8_; (try clear hb); (try clear hb2); (try clear hk); (try clear hi)))
                          go_meet
                          case rel => exact ⟨_, (true), (by first | rfl | (simp; done) | (simp [*]; done)), H', ⟨by have := HJ11.out; have := HJ50.out; first | omega | exact Nat.le_refl _⟩, ⟨by (with_reducible repeat (first | apply Kd.R_alloc | apply Kd.R_drewN | apply Kd.R_drew)); exact Kd.R_mono HO_9.out (fun _ hk => trivial)⟩, ⟨bk_ BK630.out⟩, ⟨bk_ BK642.out⟩, ⟨bk_ BK653.out⟩, ⟨bk_ BK677.out⟩, ⟨hb4_ HB.out GE630.out GE642.out GE653.out GE677.out⟩⟩
                      case rest =>
                        clear HC80
                        try clear c1
                        try clear c2
                        try clear p2
                        try clear c3
                        try clear c4
                        try clear c4b0
                        try clear c5
                        try clear c6
                        try clear c7
                        try clear c8
                        try clear c9
                        try clear c10
                        try clear c20
                        try clear c28
                        try clear c29
                        try clear c32
                        try clear c37
                        try clear c38
                        try clear c39
                        try clear c40
                        try clear c41
                        try clear c42
                        try clear c44
                        try clear c45
                        try clear c46
                        try clear c47
                        try clear c49
                        try clear c56
                        try clear c56b0
                        try clear c58
                        try clear c63
                        try clear c64
                        try clear c66
                        try clear c72
                        try clear c75
                        try clear c75b0
                        try clear c76
                        try clear c76b0
                        try clear c76b1
                        try clear c83
                        try clear c84
                        try clear c91
                        try clear c92
                        try clear c93
                        try clear c96
                        try clear c101
                        try clear c102
                        try clear c103
                        try clear c105
                        try clear c106
                        try clear hcz104_0
                        try clear hcz104_1
                        try clear hcz107_0
                        try clear hcz107_1
                        try clear hcz14_0
                        try clear hcz14_1
                        try clear hcz21_0
                        try clear hcz21_1
                        try clear hcz23_0
                        try clear hcz23_1
                        try clear hcz30_0
                        try clear hcz30_1
                        try clear hcz39_0
                        try clear hcz39_1
                        try clear hcz41_0
                        try clear hcz41_1
                        try clear hcz65_0
                        try clear hcz65_1
                        try clear hcz67_0
                        try clear hcz67_1
                        try clear hcz85_0
                        try clear hcz85_1
                        try clear hcz94_0
                        try clear hcz94_1
                        try clear hfz104_0
                        try clear hfz104_1
                        try clear hfz107_0
                        try clear hfz107_1
                        try clear hfz14_0
                        try clear hfz14_1
                        try clear hfz21_0
                        try clear hfz21_1
                        try clear hfz23_0
                        try clear hfz23_1
                        try clear hfz30_0
                        try clear hfz30_1
                        try clear hfz39_0
                        try clear hfz39_1
                        try clear hfz41_0
                        try clear hfz41_1
                        try clear hfz65_0
                        try clear hfz65_1
                        try clear hfz67_0
                        try clear hfz67_1
                        try clear hfz85_0
                        try clear hfz85_1
                        try clear hfz94_0
                        try clear hfz94_1
                        try clear p2
                        obtain ⟨kq, x98_79, rfl, HA, HJ79, HO_9, BK630, BK642, BK653, BK677, HB⟩ := hcut
                        have hl9_79 := (Kd.R_reads' HO_9.out).1
                        rw [hl9_79] at HO_9
                        (try simp only [hl9_79])
                        (try simp only [hl9_79] at BK630)
                        (try simp only [hl9_79] at BK642)
                        (try simp only [hl9_79] at BK653)
                        (try simp only [hl9_79] at BK677)
                        cases kq with
                        | zero => exact absurd HA.out (by simp [laws_FnExactAppRun.j2])
                        | succ kj79 =>
                          have H := HA.out
                          clear HA
                          simp only [laws_FnExactAppRun.j2] at H
                          by_cases c112 : x98_79 = true
                          · subst c112
                            have H1 : (some false) = some r := by rw [if_pos rfl] at H; exact H
                            clear H
                            have H := H1
                            clear H1
                            obtain rfl := Option.some.inj H
                            exact absurd hr_ (by decide)
                          · replace c112 := Bool.eq_false_iff.mpr c112
                            subst c112
                            have H1 : ((laws_heldReadingS.f kj79 t665 1).bind fun t680 => (if t680 < 0 then (some false) else (if t680 = t664 then (some true) else (some false)))) = some r := by rw [if_neg (show ¬ (false = true) by decide)] at H; exact H
                            clear H
                            have H := H1
                            clear H1
                            replace H := Option.bind_eq_some_iff.mp H
                            obtain ⟨t680, A1130, H⟩ := H
                            replace H : (if t680 < 0 then (some false) else (if t680 = t664 then (some true) else (some false))) = some r := H
                            have A113 := Aside0.mk A1130
                            clear A1130
                            by_cases c114 : t680 < 0
                            · rw [if_pos c114] at H
                              have c114b0 : decide (t680 < 0) = true := decide_eq_true c114
                              clear c114
                              obtain rfl := Option.some.inj H
                              exact absurd hr_ (by decide)
                            · rw [if_neg c114] at H
                              have c114b0 : decide (t680 < 0) = false := decide_eq_false c114
                              clear c114
                              by_cases c115 : t680 = t664
                              · rw [if_pos c115] at H
                                have c115b0 : (t680 == t664) = true := beq_iff_eq.mpr c115
                                have c115b1 : (t680 != t664) = false := bne_eq_false_iff_eq.mpr c115
                                clear c115
                                obtain rfl := Option.some.inj H
                                go_wp2_with (first | ((with_reducible refine gate_callee (f := 47) rfl ?_); refine goesL_ (some 101) rfl rfl Try.func47 (by kernel_rfl) rfl #[.slice Ao81 t665.length co81, .int .i64 1] rfl arr_ ?_; (with_reducible refine (laws_heldReadingS.calls kj79 _ _ t665 1 t680 _ ?side1 ?side2 A113.out).mono ?_); (case side1 => repeat (first | exact (Kd.R_reads' HO_9.out).2.2 | (with_reducible refine Kd.C_alloc ?_ _) | (with_reducible refine Kd.C_drewN ?_ _) | (with_reducible refine Kd.C_drew ?_))); (case side2 => exact (Kd.R_reads' HO_9.out).2.1); rintro e w' ⟨rfl, ⟨nd, rfl⟩⟩; refine ⟨_, rfl, ?_⟩))
                                go_ret
                                exact ⟨er_, hb4_ HB.out GE630.out GE642.out GE653.out GE677.out⟩
                              · rw [if_neg c115] at H
                                have c115b0 : (t680 == t664) = false := beq_eq_false_iff_ne.mpr c115
                                have c115b1 : (t680 != t664) = true := bne_iff_ne.mpr c115
                                obtain rfl := Option.some.inj H
                                exact absurd hr_ (by decide)
                    · rw [if_neg c76] at H
                      have c76b0 : (t666 == t664) = false := beq_eq_false_iff_ne.mpr c76
                      have c76b1 : (t666 != t664) = true := bne_iff_ne.mpr c76
                      obtain rfl := Option.some.inj H
                      exact absurd hr_ (by decide)
          · replace c49 := Bool.eq_false_iff.mpr c49
            subst c49
            have H1 : (some false) = some r := by rw [if_neg (show ¬ (false = true) by decide)] at H; exact H
            clear H
            have H := H1
            clear H1
            obtain rfl := Option.some.inj H
            exact absurd hr_ (by decide)
end Go.Proofs.Ytcgdnfaclbnflaa.P

namespace Go.Proofs.Ytcgdnfaclbnflaa.G
open Go.RowKit Go.Proofs.YtcgdnfaclbnflaaW.PrintWords
theorem wrap_id {x : Int} (h1 : -9223372036854775808 ≤ x) (h2 : x ≤ 9223372036854775807) : wrap64 x = x := by unfold wrap64; omega
theorem wrap_succ {i n : Nat} (h : i < n) (hn : n ≤ 9223372036854775807) : wrap64 ((i : Int) + 1) = ((i + 1 : Nat) : Int) := by unfold wrap64; omega
theorem all_loop {n : Nat} {L : Nat → Int → Option Bool} {Q : Nat → Bool} {e : Bool}
    (hs : ∀ k i, i < n → L (k + 1) (i : Int) = if Q i = true then L k ((i + 1 : Nat) : Int) else some false)
    (he : ∀ k, L (k + 1) (n : Int) = some e) :
    ∀ d i k, i + d = n → d < k → L k (i : Int) = some ((List.range' i d).all Q && e) := by
  intro d
  induction d with
  | zero =>
    intro i k h hk
    obtain ⟨k, rfl⟩ : ∃ m, k = m + 1 := ⟨k - 1, by omega⟩
    obtain rfl : i = n := by omega
    rw [he]; simp
  | succ d ih =>
    intro i k h hk
    obtain ⟨k, rfl⟩ : ∃ m, k = m + 1 := ⟨k - 1, by omega⟩
    rw [hs k i (by omega)]
    rw [List.range'_succ]
    cases hq : Q i with
    | true => rw [if_pos rfl, ih (i + 1) k (by omega) (by omega)]; simp [hq]
    | false => simp [hq]
theorem all_loop0 {n : Nat} {L : Nat → Int → Option Bool} {Q : Nat → Bool} {e : Bool}
    (hs : ∀ k i, i < n → L (k + 1) (i : Int) = if Q i = true then L k ((i + 1 : Nat) : Int) else some false)
    (he : ∀ k, L (k + 1) (n : Int) = some e) (k : Nat) (hk : n < k) : L k 0 = some ((List.range n).all Q && e) := by
  have := all_loop hs he n 0 k (by omega) hk
  rw [List.range_eq_range']
  exact this
theorem all_loopT {n : Nat} {L : Nat → Int → Option Bool}
    (hs : ∀ k i, i < n → L (k + 1) (i : Int) = L k ((i + 1 : Nat) : Int)) (he : ∀ k, L (k + 1) (n : Int) = some true) (k : Nat) (hk : n < k) : L k 0 = some true := by
  have := all_loop0 (Q := fun _ => true) (e := true) (fun k i hi => by rw [if_pos rfl]; exact hs k i hi) he k hk
  rw [this]
  simp [List.all_eq_true]
theorem track_loop {n : Nat} {σ ρ : Type} {L : Nat → σ → Int → Option ρ} {F : Nat → σ} {r : ρ} {c : Nat}
    (hs : ∀ k i, i < n → c ≤ k → L (k + 1) (F i) (i : Int) = L k (F (i + 1)) ((i + 1 : Nat) : Int))
    (he : ∀ k, c ≤ k → L (k + 1) (F n) (n : Int) = some r) :
    ∀ d i k, i + d = n → d + c < k → L k (F i) (i : Int) = some r := by
  intro d
  induction d with
  | zero =>
    intro i k h hk
    obtain ⟨k, rfl⟩ : ∃ m, k = m + 1 := ⟨k - 1, by omega⟩
    obtain rfl : i = n := by omega
    exact he k (by omega)
  | succ d ih =>
    intro i k h hk
    obtain ⟨k, rfl⟩ : ∃ m, k = m + 1 := ⟨k - 1, by omega⟩
    rw [hs k i (by omega) (by omega)]
    exact ih (i + 1) k (by omega) (by omega)
theorem track_loop0 {n : Nat} {σ ρ : Type} {L : Nat → σ → Int → Option ρ} {F : Nat → σ} {r : ρ} {c : Nat}
    (hs : ∀ k i, i < n → c ≤ k → L (k + 1) (F i) (i : Int) = L k (F (i + 1)) ((i + 1 : Nat) : Int))
    (he : ∀ k, c ≤ k → L (k + 1) (F n) (n : Int) = some r) (k : Nat) (hk : n + c < k) : L k (F 0) 0 = some r :=
  track_loop hs he n 0 k (by omega) hk
theorem to_loop {α β : Type} {l : List α} {c : α → β} {z : β} {L : Nat → List β → Int → Option (List β)}
    (hs : ∀ k acc i (hi : i < l.length), acc.length = l.length → L (k + 1) acc (i : Int) = L k (acc.set i (c l[i])) ((i + 1 : Nat) : Int))
    (he : ∀ k acc, acc.length = l.length → L (k + 1) acc (l.length : Int) = some acc) :
    ∀ d i k, i + d = l.length → d < k → L k ((l.take i).map c ++ List.replicate d z) (i : Int) = some (l.map c) := by
  intro d
  induction d with
  | zero =>
    intro i k h hk
    obtain ⟨k, rfl⟩ : ∃ m, k = m + 1 := ⟨k - 1, by omega⟩
    obtain rfl : i = l.length := by omega
    rw [he _ _ (by simp)]; simp
  | succ d ih =>
    intro i k h hk
    obtain ⟨k, rfl⟩ : ∃ m, k = m + 1 := ⟨k - 1, by omega⟩
    have hi : i < l.length := by omega
    rw [hs _ _ i hi (by simp; omega), ← ih (i + 1) k (by omega) (by omega)]
    congr 1
    have hl : ((l.take i).map c).length = i := by simp; omega
    rw [List.set_append, if_neg (by omega), hl, Nat.sub_self, List.replicate_succ, List.set_cons_zero, List.take_succ_eq_append_getElem hi, List.map_append, List.append_assoc]
    rfl
theorem to_loop0 {α β : Type} {l : List α} {c : α → β} {z : β} {L : Nat → List β → Int → Option (List β)}
    (hs : ∀ k acc i (hi : i < l.length), acc.length = l.length → L (k + 1) acc (i : Int) = L k (acc.set i (c l[i])) ((i + 1 : Nat) : Int))
    (he : ∀ k acc, acc.length = l.length → L (k + 1) acc (l.length : Int) = some acc) (k : Nat) (hk : l.length < k) : L k (List.replicate l.length z) 0 = some (l.map c) := by
  have := to_loop hs he l.length 0 k (by omega) hk (z := z)
  simpa using this
end Go.Proofs.Ytcgdnfaclbnflaa.G
namespace Go.Proofs.Ytcgdnfaclbnflaa.P
open Go.RowKit Go.Proofs.YtcgdnfaclbnflaaW.PrintWords Go.Proofs.YtcgdnfaclbnflaaW.PrintLast Go.Proofs.YtcgdnfaclbnflaaW.PrintMore
attribute [local go_sem] max2_int min2_int max_two min_two max_three min_three max_four min_four
set_option linter.unusedVariables false
set_option linter.unusedSimpArgs false
end Go.Proofs.Ytcgdnfaclbnflaa.P

namespace Go.Proofs.Ytcgdnfaclbnflaa.P
open Go.RowKit Go.Proofs.YtcgdnfaclbnflaaW.PrintWords Go.Proofs.YtcgdnfaclbnflaaW.PrintLast Go.Proofs.YtcgdnfaclbnflaaW.PrintMore
attribute [local go_sem] max2_int min2_int max_two min_two max_three min_three max_four min_four
set_option linter.unusedVariables false
set_option linter.unusedSimpArgs false
end Go.Proofs.Ytcgdnfaclbnflaa.P

namespace Go.Proofs.Ytcgdnfaclbnflaa.P
open Go.RowKit Go.Proofs.YtcgdnfaclbnflaaW.PrintWords Go.Proofs.YtcgdnfaclbnflaaW.PrintLast Go.Proofs.YtcgdnfaclbnflaaW.PrintMore
attribute [local go_sem] max2_int min2_int max_two min_two max_three min_three max_four min_four
set_option linter.unusedVariables false
set_option linter.unusedSimpArgs false
end Go.Proofs.Ytcgdnfaclbnflaa.P

namespace Go.Proofs.Ytcgdnfaclbnflaa.P
open Go.RowKit Go.Proofs.YtcgdnfaclbnflaaW.PrintWords Go.Proofs.YtcgdnfaclbnflaaW.PrintLast Go.Proofs.YtcgdnfaclbnflaaW.PrintMore
attribute [local go_sem] max2_int min2_int max_two min_two max_three min_three max_four min_four
set_option linter.unusedVariables false
set_option linter.unusedSimpArgs false
end Go.Proofs.Ytcgdnfaclbnflaa.P

namespace Go.Proofs.Ytcgdnfaclbnflaa.C
open Go.RowKit Go.Proofs.Ytcgdnfaclbnflaa.P Go.Proofs.Ytcgdnfaclbnflaa.G
theorem l1In (a b c : Int) : spec_l1In.f a b c = some (decide (b ≤ a ∧ a ≤ c)) := by
  unfold spec_l1In.f; by_cases h : a ≥ b <;> simp [h] <;> omega
theorem in_ (a b c : Int) : impl_in.f a b c = some (decide (b ≤ a ∧ a ≤ c)) := by
  unfold impl_in.f; by_cases h : b ≤ a <;> simp [h]
def ivalOk (a b : Int) : Bool := decide (-1000000000000 ≤ a) && decide (a ≤ b) && decide (b ≤ 1000000000000)
theorem ivalOk_iff (a b : Int) : ivalOk a b = true ↔ -1000000000000 ≤ a ∧ a ≤ b ∧ b ≤ 1000000000000 := by unfold ivalOk; simp; omega
theorem sIvalOk (a b : Int) : spec_IvalOk.f a b = some (ivalOk a b) := by
  have e : ivalOk a b = decide (-1000000000000 ≤ a ∧ a ≤ b ∧ b ≤ 1000000000000) := by
    rw [Bool.eq_iff_iff, ivalOk_iff, decide_eq_true_iff]
  rw [e]
  unfold spec_IvalOk.f; simp only [l1In, Option.bind_some]
  by_cases h1 : a ≤ b
  · rw [if_pos h1]
    by_cases h2 : (-1000000000000 ≤ a ∧ a ≤ 1000000000000)
    · rw [decide_eq_true h2, if_pos rfl]; congr 1; rw [decide_eq_decide]; omega
    · rw [decide_eq_false h2, if_neg (by decide)]; congr 1; symm; apply decide_eq_false; omega
  · rw [if_neg h1]; congr 1; symm; apply decide_eq_false; omega
theorem iIvalOk (a b : Int) : impl_IvalOk.f a b = some (ivalOk a b) := by
  unfold impl_IvalOk.f ivalOk
  by_cases h1 : a ≤ b <;> by_cases h2 : -1000000000000 ≤ a <;> by_cases h3 : b ≤ 1000000000000 <;> simp [h1, h2, h3]
end Go.Proofs.Ytcgdnfaclbnflaa.C
