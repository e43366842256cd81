/- Texts of the seat's proofs, part 6: functions of the program told as plain functions, with their contracts, and what is shown of them. No condition. -/
import Derived.Test.YtnafimhnjgnlcaaU
import Derived.Test.YtnafimhnjgnlcaaM1
import Derived.Test.YtnafimhnjgnlcaaM5
import Derived.Test.YtnafimhnjgnlcaaM3
import Derived.Test.YtnafimhnjgnlcaaM4
set_option linter.unusedVariables false
set_option linter.unusedSimpArgs false
namespace Go.Proofs.Ytnafimhnjgnlcaa.P
open Go.RowKit Go.Proofs.YtnafimhnjgnlcaaW.PrintWords Go.Proofs.YtnafimhnjgnlcaaW.PrintLast Go.Proofs.YtnafimhnjgnlcaaW.PrintMore
attribute [local go_sem] max2_int min2_int max_two min_two max_three min_three max_four min_four
set_option linter.unusedVariables false
set_option linter.unusedSimpArgs false
mutual
def spec_BusClashes.l0 : Nat → List (S40) → List (S57) → Int → Option ((List (S57)))
  | 0, _, _, _ => none
  | k + 1, x0, x3, x4 => if x4 < (x0.length : Int) then (spec_BusClashes.l1 k x0 x3 x4 (wrap64 (x4 + 1))) else (some x3)
def spec_BusClashes.l1 : Nat → List (S40) → List (S57) → Int → Int → Option ((List (S57)))
  | 0, _, _, _, _ => none
  | k + 1, x0, x3, x4, x5 => if x5 < (x0.length : Int) then (if 0 ≤ x4 then (if x4 < (x0.length : Int) then (if 0 ≤ x5 then ((spec_l15Clash.f ((rd_T40 x0 x4).f0) ((rd_T40 x0 x4).f1) ((rd_T40 x0 x4).f2) ((rd_T40 x0 x4).f3) ((rd_T40 x0 x4).f4) ((rd_T40 x0 x4).f5) ((rd_T40 x0 x5).f0) ((rd_T40 x0 x5).f1) ((rd_T40 x0 x5).f2) ((rd_T40 x0 x5).f3) ((rd_T40 x0 x5).f4) ((rd_T40 x0 x5).f5)).bind fun t315 => (if t315 = true then (if x3.length < 8796093022208 then (spec_BusClashes.l1 k x0 (x3 ++ [(⟨x4, x5⟩ : S57)]) x4 (wrap64 (x5 + 1))) else (none)) else (spec_BusClashes.l1 k x0 x3 x4 (wrap64 (x5 + 1))))) else (none)) else (none)) else (none)) else (spec_BusClashes.l0 k x0 x3 (wrap64 (x4 + 1)))
end
def spec_BusClashes.f (k : Nat) (l0 : List (S40)) : Option ((List (S57))) := (some (([] : List (S57)) : List (S57))).bind fun y309 => ((spec_BusOk.f k l0).bind fun t312 => (if t312 = true then (spec_BusClashes.l0 k l0 y309 0) else (some y309)))
theorem spec_BusClashes.mono_l : ∀ k, (∀ y0 y1 y2, LeO (spec_BusClashes.l0 k y0 y1 y2) (spec_BusClashes.l0 (k + 1) y0 y1 y2)) ∧ (∀ y0 y1 y2 y3, LeO (spec_BusClashes.l1 k y0 y1 y2 y3) (spec_BusClashes.l1 (k + 1) y0 y1 y2 y3))
  | 0 => ⟨fun _ _ _ r h => by simp [spec_BusClashes.l0] at h, fun _ _ _ _ r h => by simp [spec_BusClashes.l1] at h⟩
  | k + 1 => by
    obtain ⟨ih0, ih1⟩ := spec_BusClashes.mono_l k
    refine ⟨?_, ?_⟩
    · intro y0 y1 y2
      unfold spec_BusClashes.l0
      repeat' first
      | (with_reducible exact ih0 _ _ _)
      | (with_reducible exact ih1 _ _ _ _)
      | (with_reducible exact spec_BusOk.mono _ _)
      | (with_reducible exact LeO.refl _)
      | (with_reducible exact LeO.none _)
      | (with_reducible refine LeO.ite ?_ ?_)
      | (with_reducible refine LeO.bind ?_ (fun _ => ?_))
      | exact ih0 _ _ _
      | exact ih1 _ _ _ _
      | exact spec_BusOk.mono _ _
      | exact LeO.none _
      | refine LeO.ite ?_ ?_
      | refine LeO.bind ?_ (fun _ => ?_)
    · intro y0 y1 y2 y3
      unfold spec_BusClashes.l1
      repeat' first
      | (with_reducible exact ih0 _ _ _)
      | (with_reducible exact ih1 _ _ _ _)
      | (with_reducible exact spec_BusOk.mono _ _)
      | (with_reducible exact LeO.refl _)
      | (with_reducible exact LeO.none _)
      | (with_reducible refine LeO.ite ?_ ?_)
      | (with_reducible refine LeO.bind ?_ (fun _ => ?_))
      | exact ih0 _ _ _
      | exact ih1 _ _ _ _
      | exact spec_BusOk.mono _ _
      | exact LeO.none _
      | refine LeO.ite ?_ ?_
      | refine LeO.bind ?_ (fun _ => ?_)
theorem spec_BusClashes.mono : ∀ a0 k, LeO (spec_BusClashes.f k a0) (spec_BusClashes.f (k + 1) a0) := by
  intro a0 k
  obtain ⟨ih0, ih1⟩ := spec_BusClashes.mono_l k
  unfold spec_BusClashes.f
  repeat' first
      | (with_reducible exact ih0 _ _ _)
      | (with_reducible exact ih1 _ _ _ _)
      | (with_reducible exact spec_BusOk.mono _ _)
      | (with_reducible exact LeO.refl _)
      | (with_reducible exact LeO.none _)
      | (with_reducible refine LeO.ite ?_ ?_)
      | (with_reducible refine LeO.bind ?_ (fun _ => ?_))
      | exact ih0 _ _ _
      | exact ih1 _ _ _ _
      | exact spec_BusOk.mono _ _
      | exact LeO.none _
      | refine LeO.ite ?_ ?_
      | refine LeO.bind ?_ (fun _ => ?_)
def spec_BusClashes.T10 : Bool × List (List Nat × List Nat) := (true, [([], []), ([], []), ([0, 1], [0, 1]), ([2], [2]), ([], []), ([], []), ([4, 5], [4, 5]), ([6], [6]), ([3, 7], [3, 7])])
def spec_BusClashes.B10 : List Nat := [0, 0, 3, 7, 0, 0, 48, 112, 255]
theorem spec_BusClashes.tab10 : rtab .any (opsOf Try.f29 10) = spec_BusClashes.T10 := by kernel_rfl
theorem spec_BusClashes.bits10 : waitsOk spec_BusClashes.T10.2 spec_BusClashes.B10 = true := by kernel_rfl
set_option maxHeartbeats 8000000 in
set_option maxRecDepth 100000 in
theorem spec_BusClashes.calls (k : Nat) (A0 : Option Addr) (c0 : Nat) (l0 : List (S40)) (r : List (S57)) (w : World) (hr0 : Kd.C k40 w A0 l0.length l0) (hc0 : l0.length ≤ c0) (h : spec_BusClashes.f k l0 = some r) :
    Calls Try.prog 29 #[.slice A0 l0.length c0] w fun e w' => ∃ v0_ : Value, e = .returned (v0_) ∧ Kd.R k57 57 w' w.heap.size (fun _ => True) v0_ r ∧ Below w.heap.size w w' := by
  have hu40 := Try.underlying40
  have hu57 := Try.underlying57
  have HR0 := Aside0.mk hr0
  have HC0 := Aside0.mk hc0
  clear hr0 hc0
  have HB := Aside0.mk (Below.refl w.heap.size w)
  have H : ((some (([] : List (S57)) : List (S57))).bind fun y309 => ((spec_BusOk.f k l0).bind fun t312 => (if t312 = true then (spec_BusClashes.l0 k l0 y309 0) else (some y309)))) = some r := h
  clear h
  obtain ⟨y309, hy309⟩ : ∃ y_ : List (S57), y_ = (([] : List (S57))) := ⟨_, rfl⟩
  replace H : ((spec_BusOk.f k l0).bind fun t312 => (if t312 = true then (spec_BusClashes.l0 k l0 y309 0) else (some y309))) = some r := by first | (rw [hy309]; with_reducible exact H) | (have H2_ := (Option.bind_some _ _).symm.trans H; rw [hy309]; with_reducible exact H2_) | (have H2_ := (Option.bind_some _ _).symm.trans H; with_reducible exact H2_) | with_reducible exact H | (rw [hy309]; exact H) | exact H
  have Ny309 := Aside0.mk hy309
  clear hy309
  replace H := Option.bind_eq_some_iff.mp H
  obtain ⟨t312, A20, H⟩ := H
  replace H : (if t312 = true then (spec_BusClashes.l0 k l0 y309 0) else (some y309)) = some r := H
  have A2 := Aside0.mk A20
  clear A20
  by_cases c3 : t312 = true
  · subst c3
    have H1 : (spec_BusClashes.l0 k l0 y309 0) = some r := by rw [if_pos rfl] at H; exact H
    clear H
    have H := H1
    clear H1
    have H' := Aside0.mk H
    clear H
    go_enter Try.func29, Try.ntmps29
    go_wp2_with (first | ((with_reducible refine gate_dst (N := 6) rfl ?_); refine Kd.R_lit k57 _ 57 ?hg (N := 6) ?hd (xs := ([] : List (S57))) (inner := []) (ok := fun _ => True) (okp := fun _ => True) ?hr ?hp (fun _ hk => hk) trivial (Below.refl _ _) (Nat.le_refl _) (by simp) ?_; (case hd => rfl); (case hg => rfl); (case hr => first | (go_simp; done) | (go_simp; rfl)); (case hp => exact (Reps.none _ _)); intro v310 w4 ho5 hb hg_ hnew_; clear hg_ hnew_; (first | rw [← Ny309.out] at ho5 | (simp only [Int.reduceToNat] at ho5; rw [← Ny309.out] at ho5)); have n0_ := Aside0.mk (Kd.R_lower ho5 (below_size (hb_ HB.out))); have n1_ := Aside0.mk (below_step (hb_ HB.out) hb); clear HB; have HO311 := n0_; have HB := n1_; clear n0_ n1_; clear hb ho5) | ((with_reducible refine gate_callee (f := 41) rfl ?_); refine goesL_ (some 8) rfl rfl Try.func41 (by kernel_rfl) rfl #[.slice A0 l0.length c0] rfl arr_ ?_; (with_reducible refine (spec_BusOk.calls k _ _ l0 true _ ?side1 ?side2 A2.out).mono ?_); (case side1 => exact kc_ (Kd.C_below HR0.out HB.out)); (case side2 => exact HC0.out); rintro e w6 ⟨rfl, hb⟩; refine ⟨_, rfl, ?_⟩; have n0_ := Aside0.mk (Kd.R_below (by (with_reducible repeat (first | apply Kd.R_alloc | apply Kd.R_drewN | apply Kd.R_drew)); exact HO311.out) hb); have n1_ := Aside0.mk (below_step (hb_ HB.out) hb); clear HO311; clear HB; have HO311 := n0_; have HB := n1_; clear n0_ n1_; (try clear hb); (try clear hb2); (try clear hk); (try clear hi)))
    go_loopg [3, 4] k (fun kq v3 v4 w' => ∃ (x3_1 : List (S57)) (x4_1 : Int), v4 = .int .i64 x4_1 ∧ Aside0 (spec_BusClashes.l0 kq l0 x3_1 x4_1 = some r) ∧ Aside0 (kq ≤ k) ∧ Aside0 (Kd.R k57 57 w' w.heap.size (fun _ => True) v3 x3_1) ∧ Aside0 (Below w.heap.size w w'))
    case atStart => exact ⟨(y309), (0), (by first | rfl | (simp; done) | (simp [*]; done)), H', ⟨Nat.le_refl _⟩, ⟨by (with_reducible repeat (first | apply Kd.R_alloc | apply Kd.R_drewN | apply Kd.R_drew)); exact HO311.out⟩, ⟨hb_ HB.out⟩⟩
    case round =>
      clear H'
      try clear c2
      try clear p2
      try clear c3
      try clear c4
      obtain ⟨x3_1, x4_1, rfl, HA, HK1, HO_3, HB⟩ := hrel
      cases gk with
      | zero => exact absurd HA.out (by simp [spec_BusClashes.l0])
      | succ k1 =>
        have H := HA.out
        clear HA
        simp only [spec_BusClashes.l0] at H
        by_cases c7 : x4_1 < (l0.length : Int)
        · rw [if_pos c7] at H
          have c7b0 : decide (x4_1 < (l0.length : Int)) = true := decide_eq_true c7
          clear c7
          have H' := Aside0.mk H
          clear H
          go_wp2
          go_loopg [3, 5] k1 (fun kq v3 v5 w' => ∃ (x3_2 : List (S57)) (x5_2 : Int), v5 = .int .i64 x5_2 ∧ Aside0 (spec_BusClashes.l1 kq l0 x3_2 x4_1 x5_2 = some r) ∧ Aside0 (kq ≤ k1) ∧ Aside0 (Kd.R k57 57 w' w.heap.size (fun _ => True) v3 x3_2) ∧ Aside0 (Below w.heap.size w w'))
          case atStart => exact ⟨(x3_1), (wrap64 (x4_1 + 1)), (by first | rfl | (simp; done) | (simp [*]; done)), H', ⟨Nat.le_refl _⟩, ⟨by (with_reducible repeat (first | apply Kd.R_alloc | apply Kd.R_drewN | apply Kd.R_drew)); exact HO_3.out⟩, ⟨hb_ HB.out⟩⟩
          case round =>
            clear H'
            try clear c2
            try clear p2
            try clear c3
            try clear c4
            try clear p6
            try clear c7
            try clear c7b0
            try clear p2
            obtain ⟨x3_2, x5_2, rfl, HA, HK2, HO_3, HB⟩ := hrel
            cases gk with
            | zero => exact absurd HA.out (by simp [spec_BusClashes.l1])
            | succ k2 =>
              have H := HA.out
              clear HA
              simp only [spec_BusClashes.l1] at H
              by_cases c8 : x5_2 < (l0.length : Int)
              · rw [if_pos c8] at H
                have c8b0 : decide (x5_2 < (l0.length : Int)) = true := decide_eq_true c8
                clear c8
                by_cases c9 : 0 ≤ x4_1
                · rw [if_pos c9] at H
                  have c9b0 : decide (0 ≤ x4_1) = true := decide_eq_true c9
                  clear c9
                  by_cases c10 : x4_1 < (l0.length : Int)
                  · rw [if_pos c10] at H
                    have c10b0 : decide (x4_1 < (l0.length : Int)) = true := decide_eq_true c10
                    clear c10
                    by_cases c11 : 0 ≤ x5_2
                    · rw [if_pos c11] at H
                      have c11b0 : decide (0 ≤ x5_2) = true := decide_eq_true c11
                      clear c11
                      replace H := Option.bind_eq_some_iff.mp H
                      obtain ⟨t315, A120, H⟩ := H
                      replace H : (if t315 = true then (if x3_2.length < 8796093022208 then (spec_BusClashes.l1 k2 l0 (x3_2 ++ [(⟨x4_1, x5_2⟩ : S57)]) x4_1 (wrap64 (x5_2 + 1))) else (none)) else (spec_BusClashes.l1 k2 l0 x3_2 x4_1 (wrap64 (x5_2 + 1)))) = some r := H
                      have A12 := Aside0.mk A120
                      clear A120
                      by_cases c13 : t315 = true
                      · subst c13
                        have H1 : (if x3_2.length < 8796093022208 then (spec_BusClashes.l1 k2 l0 (x3_2 ++ [(⟨x4_1, x5_2⟩ : S57)]) x4_1 (wrap64 (x5_2 + 1))) else (none)) = some r := by rw [if_pos rfl] at H; exact H
                        clear H
                        have H := H1
                        clear H1
                        by_cases c14 : x3_2.length < 8796093022208
                        · rw [if_pos c14] at H
                          have LMc14 := Aside0.mk c14
                          clear c14
                          obtain ⟨y316, hy316⟩ : ∃ y_ : List (S57), y_ = (x3_2 ++ [(⟨x4_1, x5_2⟩ : S57)]) := ⟨_, rfl⟩
                          replace H : (spec_BusClashes.l1 k2 l0 y316 x4_1 (wrap64 (x5_2 + 1))) = some r := by first | (rw [hy316]; with_reducible exact H) | (have H2_ := (Option.bind_some _ _).symm.trans H; rw [hy316]; with_reducible exact H2_) | (have H2_ := (Option.bind_some _ _).symm.trans H; with_reducible exact H2_) | with_reducible exact H | (rw [hy316]; exact H) | exact H
                          have Ny316 := Aside0.mk hy316
                          clear hy316
                          have H' := Aside0.mk H
                          clear H
                          try go_wp2
                          have n0_ := Aside0.mk (Kd.R_drew HO_3.out)
                          have n1_ := Aside0.mk (below_drew1 HB.out)
                          clear HO_3
                          clear HB
                          have HO_3 := n0_
                          have HB := n1_
                          clear n0_ n1_
                          have p313 : 0 ≤ (x4_1 : Int) := of_decide_eq_true (by first | (with_reducible assumption) | assumption)
                          have q313 : x4_1 < (l0.length : Int) := of_decide_eq_true (by first | (with_reducible assumption) | assumption)
                          obtain ⟨ad313, e313, hx313_0, hx313_1, hx313_2, hx313_3, hx313_4, hx313_5⟩ := at_T40 HR0.out x4_1 p313 q313
                          have hw313_5 := hx313_5
                          have hw313_4 := hx313_4
                          have hw313_3 := hx313_3
                          have hw313_2 := hx313_2
                          have hw313_1 := hx313_1
                          have hw313_0 := hx313_0
                          cases e313
                          replace hx313_0 := (HB.out.cell (World.block_lt_of_cell? w _ hx313_0)).trans hx313_0
                          replace hx313_1 := (HB.out.cell (World.block_lt_of_cell? w _ hx313_1)).trans hx313_1
                          replace hx313_2 := (HB.out.cell (World.block_lt_of_cell? w _ hx313_2)).trans hx313_2
                          replace hx313_3 := (HB.out.cell (World.block_lt_of_cell? w _ hx313_3)).trans hx313_3
                          replace hx313_4 := (HB.out.cell (World.block_lt_of_cell? w _ hx313_4)).trans hx313_4
                          replace hx313_5 := (HB.out.cell (World.block_lt_of_cell? w _ hx313_5)).trans hx313_5
                          replace p313 := eq_true p313
                          replace q313 := eq_true q313
                          have p314 : 0 ≤ (x5_2 : Int) := of_decide_eq_true (by first | (with_reducible assumption) | assumption)
                          have q314 : x5_2 < (l0.length : Int) := of_decide_eq_true (by first | (with_reducible assumption) | assumption)
                          obtain ⟨ad314, e314, hx314_0, hx314_1, hx314_2, hx314_3, hx314_4, hx314_5⟩ := at_T40 HR0.out x5_2 p314 q314
                          have hw314_5 := hx314_5
                          have hw314_4 := hx314_4
                          have hw314_3 := hx314_3
                          have hw314_2 := hx314_2
                          have hw314_1 := hx314_1
                          have hw314_0 := hx314_0
                          obtain rfl : ad313 = ad314 := (by injection e314)
                          replace hx314_0 := (HB.out.cell (World.block_lt_of_cell? w _ hx314_0)).trans hx314_0
                          replace hx314_1 := (HB.out.cell (World.block_lt_of_cell? w _ hx314_1)).trans hx314_1
                          replace hx314_2 := (HB.out.cell (World.block_lt_of_cell? w _ hx314_2)).trans hx314_2
                          replace hx314_3 := (HB.out.cell (World.block_lt_of_cell? w _ hx314_3)).trans hx314_3
                          replace hx314_4 := (HB.out.cell (World.block_lt_of_cell? w _ hx314_4)).trans hx314_4
                          replace hx314_5 := (HB.out.cell (World.block_lt_of_cell? w _ hx314_5)).trans hx314_5
                          replace p314 := eq_true p314
                          replace q314 := eq_true q314
                          refine start_ (n := 9) (S := fun w' => w'.cell? (ad313.add ((x4_1).toNat * 6)) = some (.int .i64 ((rd_T40 l0 x4_1).f0)) ∧ w'.cell? ⟨(ad313.add ((x4_1).toNat * 6)).block, (ad313.add ((x4_1).toNat * 6)).off + 1, none⟩ = some (.int .i64 ((rd_T40 l0 x4_1).f1)) ∧ w'.cell? ⟨(ad313.add ((x4_1).toNat * 6)).block, (ad313.add ((x4_1).toNat * 6)).off + 2, none⟩ = some (.int .i64 ((rd_T40 l0 x4_1).f2)) ∧ w'.cell? ⟨(ad313.add ((x4_1).toNat * 6)).block, (ad313.add ((x4_1).toNat * 6)).off + 3, none⟩ = some (.int .i64 ((rd_T40 l0 x4_1).f3)) ∧ w'.cell? ⟨(ad313.add ((x4_1).toNat * 6)).block, (ad313.add ((x4_1).toNat * 6)).off + 4, none⟩ = some (.int .i64 ((rd_T40 l0 x4_1).f4)) ∧ w'.cell? ⟨(ad313.add ((x4_1).toNat * 6)).block, (ad313.add ((x4_1).toNat * 6)).off + 5, none⟩ = some (.string ((rd_T40 l0 x4_1).f5)) ∧ w'.cell? (ad313.add ((x5_2).toNat * 6)) = some (.int .i64 ((rd_T40 l0 x5_2).f0)) ∧ w'.cell? ⟨(ad313.add ((x5_2).toNat * 6)).block, (ad313.add ((x5_2).toNat * 6)).off + 1, none⟩ = some (.int .i64 ((rd_T40 l0 x5_2).f1)) ∧ w'.cell? ⟨(ad313.add ((x5_2).toNat * 6)).block, (ad313.add ((x5_2).toNat * 6)).off + 2, none⟩ = some (.int .i64 ((rd_T40 l0 x5_2).f2)) ∧ w'.cell? ⟨(ad313.add ((x5_2).toNat * 6)).block, (ad313.add ((x5_2).toNat * 6)).off + 3, none⟩ = some (.int .i64 ((rd_T40 l0 x5_2).f3)) ∧ w'.cell? ⟨(ad313.add ((x5_2).toNat * 6)).block, (ad313.add ((x5_2).toNat * 6)).off + 4, none⟩ = some (.int .i64 ((rd_T40 l0 x5_2).f4)) ∧ w'.cell? ⟨(ad313.add ((x5_2).toNat * 6)).block, (ad313.add ((x5_2).toNat * 6)).off + 5, none⟩ = some (.string ((rd_T40 l0 x5_2).f5))) (ds := []) #[false, false, false, false, false, false, false, false, false] (by kernel_rfl) rfl rfl ⟨((HB.out.cell (World.block_lt_of_cell? w _ hw313_0)).trans hw313_0), ((HB.out.cell (World.block_lt_of_cell? w _ hw313_1)).trans hw313_1), ((HB.out.cell (World.block_lt_of_cell? w _ hw313_2)).trans hw313_2), ((HB.out.cell (World.block_lt_of_cell? w _ hw313_3)).trans hw313_3), ((HB.out.cell (World.block_lt_of_cell? w _ hw313_4)).trans hw313_4), ((HB.out.cell (World.block_lt_of_cell? w _ hw313_5)).trans hw313_5), ((HB.out.cell (World.block_lt_of_cell? w _ hw314_0)).trans hw314_0), ((HB.out.cell (World.block_lt_of_cell? w _ hw314_1)).trans hw314_1), ((HB.out.cell (World.block_lt_of_cell? w _ hw314_2)).trans hw314_2), ((HB.out.cell (World.block_lt_of_cell? w _ hw314_3)).trans hw314_3), ((HB.out.cell (World.block_lt_of_cell? w _ hw314_4)).trans hw314_4), ((HB.out.cell (World.block_lt_of_cell? w _ hw314_5)).trans hw314_5)⟩ (fun hHeld => ?_); refine with_tabW spec_BusClashes.tab10 spec_BusClashes.bits10 (fun HT_ HW_ => ?_)
                          generalize wr.drew = w15 at HO_3 HB hx313_0 hx313_1 hx313_2 hx313_3 hx313_4 hx313_5 hx314_0 hx314_1 hx314_2 hx314_3 hx314_4 hx314_5 hHeld ⊢
                          refine pure_ (i := 0) (N := some 25) (v := ?_) (a' := ?_) #[true, false, false, false, false, false, false, false, false] rfl rfl (any_of HT_.out (by kernel_rfl)) (fun _ _ _ h => h) (Or.inl ⟨by rfl, ?_⟩) ?_ ?_
                          rotate_left
                          · intro w'
                            go_simp
                            with_reducible rfl
                          rotate_left
                          · simp only [Act.put, List.setIfInBounds_toArray, List.set_cons_zero, List.set_cons_succ, i64_w, i32_w]
                            rfl
                          refine pure_ (i := 1) (N := some 26) (v := ?_) (a' := ?_) #[true, true, false, false, false, false, false, false, false] rfl rfl (any_of HT_.out (by kernel_rfl)) (fun _ _ _ h => h) (Or.inl ⟨by rfl, ?_⟩) ?_ ?_
                          rotate_left
                          · intro w'
                            go_simp
                            with_reducible rfl
                          rotate_left
                          · simp only [Act.put, List.setIfInBounds_toArray, List.set_cons_zero, List.set_cons_succ, i64_w, i32_w]
                            rfl
                          refine pure_ (i := 2) (N := some 27) (v := ?_) (a' := ?_) #[true, true, true, false, false, false, false, false, false] rfl rfl (any_of HT_.out (by kernel_rfl)) (fun _ _ _ h => h) (Or.inl ⟨by rfl, ?_⟩) ?_ ?_
                          rotate_left
                          · intro w'
                            go_simp
                            with_reducible rfl
                          rotate_left
                          · simp only [Act.put, List.setIfInBounds_toArray, List.set_cons_zero, List.set_cons_succ, i64_w, i32_w]
                            rfl
                          refine pure_ (i := 4) (N := some 29) (v := ?_) (a' := ?_) #[true, true, true, false, true, false, false, false, false] rfl rfl (any_of HT_.out (by kernel_rfl)) (fun _ _ _ h => h) (Or.inl ⟨by rfl, ?_⟩) ?_ ?_
                          rotate_left
                          · intro w'
                            go_simp
                            with_reducible rfl
                          rotate_left
                          · simp only [Act.put, List.setIfInBounds_toArray, List.set_cons_zero, List.set_cons_succ, i64_w, i32_w]
                            rfl
                          refine pure_ (i := 5) (N := some 30) (v := ?_) (a' := ?_) #[true, true, true, false, true, true, false, false, false] rfl rfl (any_of HT_.out (by kernel_rfl)) (fun _ _ _ h => h) (Or.inl ⟨by rfl, ?_⟩) ?_ ?_
                          rotate_left
                          · intro w'
                            go_simp
                            with_reducible rfl
                          rotate_left
                          · simp only [Act.put, List.setIfInBounds_toArray, List.set_cons_zero, List.set_cons_succ, i64_w, i32_w]
                            rfl
                          refine pure_ (i := 6) (N := some 31) (v := ?_) (a' := ?_) #[true, true, true, false, true, true, true, false, false] rfl rfl (any_of HT_.out (by kernel_rfl)) (fun _ _ _ h => h) (Or.inl ⟨by rfl, ?_⟩) ?_ ?_
                          rotate_left
                          · intro w'
                            go_simp
                            with_reducible rfl
                          rotate_left
                          · simp only [Act.put, List.setIfInBounds_toArray, List.set_cons_zero, List.set_cons_succ, i64_w, i32_w]
                            rfl
                          refine take_ (i := 3) (N := some 28) (v := ?_) (a' := ?_) #[true, true, true, true, true, true, true, false, false] rfl rfl (take_ofW HT_.out HW_.out (by kernel_rfl)) (fun _ _ _ h => h) (Or.inl ⟨by rfl, ?_⟩) hHeld ?_ ?_
                          rotate_left
                          · rintro w' ⟨s0, s1, s2, s3, s4, s5, s6, s7, s8, s9, s10, s11⟩
                            go_simp
                            with_reducible rfl
                          rotate_left
                          · simp only [Act.put, List.setIfInBounds_toArray, List.set_cons_zero, List.set_cons_succ, i64_w, i32_w]
                            rfl
                          refine take_ (i := 7) (N := some 32) (v := ?_) (a' := ?_) #[true, true, true, true, true, true, true, true, false] rfl rfl (take_ofW HT_.out HW_.out (by kernel_rfl)) (fun _ _ _ h => h) (Or.inl ⟨by rfl, ?_⟩) hHeld ?_ ?_
                          rotate_left
                          · rintro w' ⟨s0, s1, s2, s3, s4, s5, s6, s7, s8, s9, s10, s11⟩
                            go_simp
                            with_reducible rfl
                          rotate_left
                          · simp only [Act.put, List.setIfInBounds_toArray, List.set_cons_zero, List.set_cons_succ, i64_w, i32_w]
                            rfl
                          refine one_ (i := 8) (N := some 33) #[true, true, true, true, true, true, true, true, true] rfl rfl (one_of HT_.out (by kernel_rfl)) (by decide) (fun K hK => ?_)
                          refine goes_ Try.func56 (by kernel_rfl) rfl #[.agg #[.int .i64 ((rd_T40 l0 x4_1).f0), .int .i64 ((rd_T40 l0 x4_1).f1), .int .i64 ((rd_T40 l0 x4_1).f2), .int .i64 ((rd_T40 l0 x4_1).f3), .int .i64 ((rd_T40 l0 x4_1).f4), .string ((rd_T40 l0 x4_1).f5)], .agg #[.int .i64 ((rd_T40 l0 x5_2).f0), .int .i64 ((rd_T40 l0 x5_2).f1), .int .i64 ((rd_T40 l0 x5_2).f2), .int .i64 ((rd_T40 l0 x5_2).f3), .int .i64 ((rd_T40 l0 x5_2).f4), .string ((rd_T40 l0 x5_2).f5)]] (by rfl) rfl rfl arr_ ?_
                          with_reducible refine (spec_l15Clash.calls ((rd_T40 l0 x4_1).f0) ((rd_T40 l0 x4_1).f1) ((rd_T40 l0 x4_1).f2) ((rd_T40 l0 x4_1).f3) ((rd_T40 l0 x4_1).f4) ((rd_T40 l0 x4_1).f5) ((rd_T40 l0 x5_2).f0) ((rd_T40 l0 x5_2).f1) ((rd_T40 l0 x5_2).f2) ((rd_T40 l0 x5_2).f3) ((rd_T40 l0 x5_2).f4) ((rd_T40 l0 x5_2).f5) true _ A12.out).mono ?_
                          rintro e w16 ⟨rfl, hb⟩
                          refine ⟨_, rfl, ?_⟩
                          have n0_ := Aside0.mk (Kd.R_below (by (with_reducible repeat (first | apply Kd.R_alloc | apply Kd.R_drewN | apply Kd.R_drew)); exact HO_3.out) hb)
                          have n1_ := Aside0.mk (below_step (hb_ HB.out) hb)
                          clear HO_3
                          clear HB
                          have HO_3 := n0_
                          have HB := n1_
                          clear n0_ n1_
                          (try clear hb)
                          (try clear hb2)
                          (try clear hk)
                          (try clear hi)
                          refine hK.out _ _ ⟨((HB.out.cell (World.block_lt_of_cell? w _ hw313_0)).trans hw313_0), ((HB.out.cell (World.block_lt_of_cell? w _ hw313_1)).trans hw313_1), ((HB.out.cell (World.block_lt_of_cell? w _ hw313_2)).trans hw313_2), ((HB.out.cell (World.block_lt_of_cell? w _ hw313_3)).trans hw313_3), ((HB.out.cell (World.block_lt_of_cell? w _ hw313_4)).trans hw313_4), ((HB.out.cell (World.block_lt_of_cell? w _ hw313_5)).trans hw313_5), ((HB.out.cell (World.block_lt_of_cell? w _ hw314_0)).trans hw314_0), ((HB.out.cell (World.block_lt_of_cell? w _ hw314_1)).trans hw314_1), ((HB.out.cell (World.block_lt_of_cell? w _ hw314_2)).trans hw314_2), ((HB.out.cell (World.block_lt_of_cell? w _ hw314_3)).trans hw314_3), ((HB.out.cell (World.block_lt_of_cell? w _ hw314_4)).trans hw314_4), ((HB.out.cell (World.block_lt_of_cell? w _ hw314_5)).trans hw314_5)⟩ (fun hHeld => ?_)
                          clear hK K
                          refine norm_ (a' := ?_) ?_ ?_
                          rotate_left
                          · show Act.put _ (some 33) _ = _
                            simp only [Act.put, List.setIfInBounds_toArray, List.set_cons_zero, List.set_cons_succ, i64_w, i32_w]
                            rfl
                          refine done_ (done_of HT_.out (by kernel_rfl)) ?_
                          try go_wp2_with (first | ((with_reducible refine gate_builtin (b := .append) (xs := #[.tmp 34, .tmp 38]) rfl ?_); at_builtin; refine Kd.R_append k57 (w0 := w) w.heap.size rfl (.tmp 34) (.tmp 38) 43 57 (.agg #[(.int .i64 0), (.int .i64 0)]) 16 rfl Try.underlying43 info57 rfl (by decide) (by omega) u3 x3_2 (⟨x4_1, x5_2⟩ : S57) [.int .i64 x4_1, .int .i64 x5_2] (fun _ => True) (fun _ => False) rfl rfl ?aP (fun _ hk => hk.elim) ?aF ?aO ?aB ?aS ?aL ?_; (case aP => exact k57_mkM _ _ _ (⟨x4_1, x5_2⟩ : S57)); (case aB => exact (hb_ HB.out)); (case aF => exact (fun _ _ => trivial)); (case aO => exact (by (with_reducible repeat (first | apply Kd.R_alloc | apply Kd.R_drewN | apply Kd.R_drew)); exact HO_3.out)); (case aS => exact (below_size (hb_ HB.out))); (case aL => have := LMc14.out; omega); intro v317 w17 ho hb hg hat; rw [← Ny316.out] at ho; have n0_ := Aside0.mk (hb); have n1_ := Aside0.mk (ho); clear HB; clear HO_3; have HB := n0_; have HO318 := n1_; clear n0_ n1_; clear ho hb hg hat))
                          go_roundg k2
                          case measure => have := HK1.out; have := HK2.out; omega
                          case rel => exact ⟨(y316), (wrap64 (x5_2 + 1)), (by first | rfl | (simp; done) | (simp [*]; done)), H', ⟨by have := HK1.out; have := HK2.out; omega⟩, ⟨by (with_reducible repeat (first | apply Kd.R_alloc | apply Kd.R_drewN | apply Kd.R_drew)); exact HO318.out⟩, ⟨hb_ HB.out⟩⟩
                        · rw [if_neg c14] at H
                          exact absurd H (by simp)
                      · replace c13 := Bool.eq_false_iff.mpr c13
                        subst c13
                        have H1 : (spec_BusClashes.l1 k2 l0 x3_2 x4_1 (wrap64 (x5_2 + 1))) = some r := by rw [if_neg (show ¬ (false = true) by decide)] at H; exact H
                        clear H
                        have H := H1
                        clear H1
                        have H' := Aside0.mk H
                        clear H
                        try go_wp2
                        have n0_ := Aside0.mk (Kd.R_drew HO_3.out)
                        have n1_ := Aside0.mk (below_drew1 HB.out)
                        clear HO_3
                        clear HB
                        have HO_3 := n0_
                        have HB := n1_
                        clear n0_ n1_
                        have p313 : 0 ≤ (x4_1 : Int) := of_decide_eq_true (by first | (with_reducible assumption) | assumption)
                        have q313 : x4_1 < (l0.length : Int) := of_decide_eq_true (by first | (with_reducible assumption) | assumption)
                        obtain ⟨ad313, e313, hx313_0, hx313_1, hx313_2, hx313_3, hx313_4, hx313_5⟩ := at_T40 HR0.out x4_1 p313 q313
                        have hw313_5 := hx313_5
                        have hw313_4 := hx313_4
                        have hw313_3 := hx313_3
                        have hw313_2 := hx313_2
                        have hw313_1 := hx313_1
                        have hw313_0 := hx313_0
                        cases e313
                        replace hx313_0 := (HB.out.cell (World.block_lt_of_cell? w _ hx313_0)).trans hx313_0
                        replace hx313_1 := (HB.out.cell (World.block_lt_of_cell? w _ hx313_1)).trans hx313_1
                        replace hx313_2 := (HB.out.cell (World.block_lt_of_cell? w _ hx313_2)).trans hx313_2
                        replace hx313_3 := (HB.out.cell (World.block_lt_of_cell? w _ hx313_3)).trans hx313_3
                        replace hx313_4 := (HB.out.cell (World.block_lt_of_cell? w _ hx313_4)).trans hx313_4
                        replace hx313_5 := (HB.out.cell (World.block_lt_of_cell? w _ hx313_5)).trans hx313_5
                        replace p313 := eq_true p313
                        replace q313 := eq_true q313
                        have p314 : 0 ≤ (x5_2 : Int) := of_decide_eq_true (by first | (with_reducible assumption) | assumption)
                        have q314 : x5_2 < (l0.length : Int) := of_decide_eq_true (by first | (with_reducible assumption) | assumption)
                        obtain ⟨ad314, e314, hx314_0, hx314_1, hx314_2, hx314_3, hx314_4, hx314_5⟩ := at_T40 HR0.out x5_2 p314 q314
                        have hw314_5 := hx314_5
                        have hw314_4 := hx314_4
                        have hw314_3 := hx314_3
                        have hw314_2 := hx314_2
                        have hw314_1 := hx314_1
                        have hw314_0 := hx314_0
                        obtain rfl : ad313 = ad314 := (by injection e314)
                        replace hx314_0 := (HB.out.cell (World.block_lt_of_cell? w _ hx314_0)).trans hx314_0
                        replace hx314_1 := (HB.out.cell (World.block_lt_of_cell? w _ hx314_1)).trans hx314_1
                        replace hx314_2 := (HB.out.cell (World.block_lt_of_cell? w _ hx314_2)).trans hx314_2
                        replace hx314_3 := (HB.out.cell (World.block_lt_of_cell? w _ hx314_3)).trans hx314_3
                        replace hx314_4 := (HB.out.cell (World.block_lt_of_cell? w _ hx314_4)).trans hx314_4
                        replace hx314_5 := (HB.out.cell (World.block_lt_of_cell? w _ hx314_5)).trans hx314_5
                        replace p314 := eq_true p314
                        replace q314 := eq_true q314
                        refine start_ (n := 9) (S := fun w' => w'.cell? (ad313.add ((x4_1).toNat * 6)) = some (.int .i64 ((rd_T40 l0 x4_1).f0)) ∧ w'.cell? ⟨(ad313.add ((x4_1).toNat * 6)).block, (ad313.add ((x4_1).toNat * 6)).off + 1, none⟩ = some (.int .i64 ((rd_T40 l0 x4_1).f1)) ∧ w'.cell? ⟨(ad313.add ((x4_1).toNat * 6)).block, (ad313.add ((x4_1).toNat * 6)).off + 2, none⟩ = some (.int .i64 ((rd_T40 l0 x4_1).f2)) ∧ w'.cell? ⟨(ad313.add ((x4_1).toNat * 6)).block, (ad313.add ((x4_1).toNat * 6)).off + 3, none⟩ = some (.int .i64 ((rd_T40 l0 x4_1).f3)) ∧ w'.cell? ⟨(ad313.add ((x4_1).toNat * 6)).block, (ad313.add ((x4_1).toNat * 6)).off + 4, none⟩ = some (.int .i64 ((rd_T40 l0 x4_1).f4)) ∧ w'.cell? ⟨(ad313.add ((x4_1).toNat * 6)).block, (ad313.add ((x4_1).toNat * 6)).off + 5, none⟩ = some (.string ((rd_T40 l0 x4_1).f5)) ∧ w'.cell? (ad313.add ((x5_2).toNat * 6)) = some (.int .i64 ((rd_T40 l0 x5_2).f0)) ∧ w'.cell? ⟨(ad313.add ((x5_2).toNat * 6)).block, (ad313.add ((x5_2).toNat * 6)).off + 1, none⟩ = some (.int .i64 ((rd_T40 l0 x5_2).f1)) ∧ w'.cell? ⟨(ad313.add ((x5_2).toNat * 6)).block, (ad313.add ((x5_2).toNat * 6)).off + 2, none⟩ = some (.int .i64 ((rd_T40 l0 x5_2).f2)) ∧ w'.cell? ⟨(ad313.add ((x5_2).toNat * 6)).block, (ad313.add ((x5_2).toNat * 6)).off + 3, none⟩ = some (.int .i64 ((rd_T40 l0 x5_2).f3)) ∧ w'.cell? ⟨(ad313.add ((x5_2).toNat * 6)).block, (ad313.add ((x5_2).toNat * 6)).off + 4, none⟩ = some (.int .i64 ((rd_T40 l0 x5_2).f4)) ∧ w'.cell? ⟨(ad313.add ((x5_2).toNat * 6)).block, (ad313.add ((x5_2).toNat * 6)).off + 5, none⟩ = some (.string ((rd_T40 l0 x5_2).f5))) (ds := []) #[false, false, false, false, false, false, false, false, false] (by kernel_rfl) rfl rfl ⟨((HB.out.cell (World.block_lt_of_cell? w _ hw313_0)).trans hw313_0), ((HB.out.cell (World.block_lt_of_cell? w _ hw313_1)).trans hw313_1), ((HB.out.cell (World.block_lt_of_cell? w _ hw313_2)).trans hw313_2), ((HB.out.cell (World.block_lt_of_cell? w _ hw313_3)).trans hw313_3), ((HB.out.cell (World.block_lt_of_cell? w _ hw313_4)).trans hw313_4), ((HB.out.cell (World.block_lt_of_cell? w _ hw313_5)).trans hw313_5), ((HB.out.cell (World.block_lt_of_cell? w _ hw314_0)).trans hw314_0), ((HB.out.cell (World.block_lt_of_cell? w _ hw314_1)).trans hw314_1), ((HB.out.cell (World.block_lt_of_cell? w _ hw314_2)).trans hw314_2), ((HB.out.cell (World.block_lt_of_cell? w _ hw314_3)).trans hw314_3), ((HB.out.cell (World.block_lt_of_cell? w _ hw314_4)).trans hw314_4), ((HB.out.cell (World.block_lt_of_cell? w _ hw314_5)).trans hw314_5)⟩ (fun hHeld => ?_); refine with_tabW spec_BusClashes.tab10 spec_BusClashes.bits10 (fun HT_ HW_ => ?_)
                        generalize wr.drew = w18 at HO_3 HB hx313_0 hx313_1 hx313_2 hx313_3 hx313_4 hx313_5 hx314_0 hx314_1 hx314_2 hx314_3 hx314_4 hx314_5 hHeld ⊢
                        refine pure_ (i := 0) (N := some 25) (v := ?_) (a' := ?_) #[true, false, false, false, false, false, false, false, false] rfl rfl (any_of HT_.out (by kernel_rfl)) (fun _ _ _ h => h) (Or.inl ⟨by rfl, ?_⟩) ?_ ?_
                        rotate_left
                        · intro w'
                          go_simp
                          with_reducible rfl
                        rotate_left
                        · simp only [Act.put, List.setIfInBounds_toArray, List.set_cons_zero, List.set_cons_succ, i64_w, i32_w]
                          rfl
                        refine pure_ (i := 1) (N := some 26) (v := ?_) (a' := ?_) #[true, true, false, false, false, false, false, false, false] rfl rfl (any_of HT_.out (by kernel_rfl)) (fun _ _ _ h => h) (Or.inl ⟨by rfl, ?_⟩) ?_ ?_
                        rotate_left
                        · intro w'
                          go_simp
                          with_reducible rfl
                        rotate_left
                        · simp only [Act.put, List.setIfInBounds_toArray, List.set_cons_zero, List.set_cons_succ, i64_w, i32_w]
                          rfl
                        refine pure_ (i := 2) (N := some 27) (v := ?_) (a' := ?_) #[true, true, true, false, false, false, false, false, false] rfl rfl (any_of HT_.out (by kernel_rfl)) (fun _ _ _ h => h) (Or.inl ⟨by rfl, ?_⟩) ?_ ?_
                        rotate_left
                        · intro w'
                          go_simp
                          with_reducible rfl
                        rotate_left
                        · simp only [Act.put, List.setIfInBounds_toArray, List.set_cons_zero, List.set_cons_succ, i64_w, i32_w]
                          rfl
                        refine pure_ (i := 4) (N := some 29) (v := ?_) (a' := ?_) #[true, true, true, false, true, false, false, false, false] rfl rfl (any_of HT_.out (by kernel_rfl)) (fun _ _ _ h => h) (Or.inl ⟨by rfl, ?_⟩) ?_ ?_
                        rotate_left
                        · intro w'
                          go_simp
                          with_reducible rfl
                        rotate_left
                        · simp only [Act.put, List.setIfInBounds_toArray, List.set_cons_zero, List.set_cons_succ, i64_w, i32_w]
                          rfl
                        refine pure_ (i := 5) (N := some 30) (v := ?_) (a' := ?_) #[true, true, true, false, true, true, false, false, false] rfl rfl (any_of HT_.out (by kernel_rfl)) (fun _ _ _ h => h) (Or.inl ⟨by rfl, ?_⟩) ?_ ?_
                        rotate_left
                        · intro w'
                          go_simp
                          with_reducible rfl
                        rotate_left
                        · simp only [Act.put, List.setIfInBounds_toArray, List.set_cons_zero, List.set_cons_succ, i64_w, i32_w]
                          rfl
                        refine pure_ (i := 6) (N := some 31) (v := ?_) (a' := ?_) #[true, true, true, false, true, true, true, false, false] rfl rfl (any_of HT_.out (by kernel_rfl)) (fun _ _ _ h => h) (Or.inl ⟨by rfl, ?_⟩) ?_ ?_
                        rotate_left
                        · intro w'
                          go_simp
                          with_reducible rfl
                        rotate_left
                        · simp only [Act.put, List.setIfInBounds_toArray, List.set_cons_zero, List.set_cons_succ, i64_w, i32_w]
                          rfl
                        refine take_ (i := 3) (N := some 28) (v := ?_) (a' := ?_) #[true, true, true, true, true, true, true, false, false] rfl rfl (take_ofW HT_.out HW_.out (by kernel_rfl)) (fun _ _ _ h => h) (Or.inl ⟨by rfl, ?_⟩) hHeld ?_ ?_
                        rotate_left
                        · rintro w' ⟨s0, s1, s2, s3, s4, s5, s6, s7, s8, s9, s10, s11⟩
                          go_simp
                          with_reducible rfl
                        rotate_left
                        · simp only [Act.put, List.setIfInBounds_toArray, List.set_cons_zero, List.set_cons_succ, i64_w, i32_w]
                          rfl
                        refine take_ (i := 7) (N := some 32) (v := ?_) (a' := ?_) #[true, true, true, true, true, true, true, true, false] rfl rfl (take_ofW HT_.out HW_.out (by kernel_rfl)) (fun _ _ _ h => h) (Or.inl ⟨by rfl, ?_⟩) hHeld ?_ ?_
                        rotate_left
                        · rintro w' ⟨s0, s1, s2, s3, s4, s5, s6, s7, s8, s9, s10, s11⟩
                          go_simp
                          with_reducible rfl
                        rotate_left
                        · simp only [Act.put, List.setIfInBounds_toArray, List.set_cons_zero, List.set_cons_succ, i64_w, i32_w]
                          rfl
                        refine one_ (i := 8) (N := some 33) #[true, true, true, true, true, true, true, true, true] rfl rfl (one_of HT_.out (by kernel_rfl)) (by decide) (fun K hK => ?_)
                        refine goes_ Try.func56 (by kernel_rfl) rfl #[.agg #[.int .i64 ((rd_T40 l0 x4_1).f0), .int .i64 ((rd_T40 l0 x4_1).f1), .int .i64 ((rd_T40 l0 x4_1).f2), .int .i64 ((rd_T40 l0 x4_1).f3), .int .i64 ((rd_T40 l0 x4_1).f4), .string ((rd_T40 l0 x4_1).f5)], .agg #[.int .i64 ((rd_T40 l0 x5_2).f0), .int .i64 ((rd_T40 l0 x5_2).f1), .int .i64 ((rd_T40 l0 x5_2).f2), .int .i64 ((rd_T40 l0 x5_2).f3), .int .i64 ((rd_T40 l0 x5_2).f4), .string ((rd_T40 l0 x5_2).f5)]] (by rfl) rfl rfl arr_ ?_
                        with_reducible refine (spec_l15Clash.calls ((rd_T40 l0 x4_1).f0) ((rd_T40 l0 x4_1).f1) ((rd_T40 l0 x4_1).f2) ((rd_T40 l0 x4_1).f3) ((rd_T40 l0 x4_1).f4) ((rd_T40 l0 x4_1).f5) ((rd_T40 l0 x5_2).f0) ((rd_T40 l0 x5_2).f1) ((rd_T40 l0 x5_2).f2) ((rd_T40 l0 x5_2).f3) ((rd_T40 l0 x5_2).f4) ((rd_T40 l0 x5_2).f5) false _ A12.out).mono ?_
                        rintro e w19 ⟨rfl, hb⟩
                        refine ⟨_, rfl, ?_⟩
                        have n0_ := Aside0.mk (Kd.R_below (by (with_reducible repeat (first | apply Kd.R_alloc | apply Kd.R_drewN | apply Kd.R_drew)); exact HO_3.out) hb)
                        have n1_ := Aside0.mk (below_step (hb_ HB.out) hb)
                        clear HO_3
                        clear HB
                        have HO_3 := n0_
                        have HB := n1_
                        clear n0_ n1_
                        (try clear hb)
                        (try clear hb2)
                        (try clear hk)
                        (try clear hi)
                        refine hK.out _ _ ⟨((HB.out.cell (World.block_lt_of_cell? w _ hw313_0)).trans hw313_0), ((HB.out.cell (World.block_lt_of_cell? w _ hw313_1)).trans hw313_1), ((HB.out.cell (World.block_lt_of_cell? w _ hw313_2)).trans hw313_2), ((HB.out.cell (World.block_lt_of_cell? w _ hw313_3)).trans hw313_3), ((HB.out.cell (World.block_lt_of_cell? w _ hw313_4)).trans hw313_4), ((HB.out.cell (World.block_lt_of_cell? w _ hw313_5)).trans hw313_5), ((HB.out.cell (World.block_lt_of_cell? w _ hw314_0)).trans hw314_0), ((HB.out.cell (World.block_lt_of_cell? w _ hw314_1)).trans hw314_1), ((HB.out.cell (World.block_lt_of_cell? w _ hw314_2)).trans hw314_2), ((HB.out.cell (World.block_lt_of_cell? w _ hw314_3)).trans hw314_3), ((HB.out.cell (World.block_lt_of_cell? w _ hw314_4)).trans hw314_4), ((HB.out.cell (World.block_lt_of_cell? w _ hw314_5)).trans hw314_5)⟩ (fun hHeld => ?_)
                        clear hK K
                        refine norm_ (a' := ?_) ?_ ?_
                        rotate_left
                        · show Act.put _ (some 33) _ = _
                          simp only [Act.put, List.setIfInBounds_toArray, List.set_cons_zero, List.set_cons_succ, i64_w, i32_w]
                          rfl
                        refine done_ (done_of HT_.out (by kernel_rfl)) ?_
                        try go_wp2
                        go_roundg k2
                        case measure => have := HK1.out; have := HK2.out; omega
                        case rel => exact ⟨(x3_2), (wrap64 (x5_2 + 1)), (by first | rfl | (simp; done) | (simp [*]; done)), H', ⟨by have := HK1.out; have := HK2.out; omega⟩, ⟨by (with_reducible repeat (first | apply Kd.R_alloc | apply Kd.R_drewN | apply Kd.R_drew)); exact HO_3.out⟩, ⟨hb_ HB.out⟩⟩
                    · rw [if_neg c11] at H
                      exact absurd H (by simp)
                  · rw [if_neg c10] at H
                    exact absurd H (by simp)
                · rw [if_neg c9] at H
                  exact absurd H (by simp)
              · rw [if_neg c8] at H
                have c8b0 : decide (x5_2 < (l0.length : Int)) = false := decide_eq_false c8
                clear c8
                have H' := Aside0.mk H
                clear H
                go_wp2
                go_roundg k2
                case measure => have := HK1.out; have := HK2.out; omega
                case rel => exact ⟨(x3_2), (wrap64 (x4_1 + 1)), (by first | rfl | (simp; done) | (simp [*]; done)), H', ⟨by have := HK1.out; have := HK2.out; omega⟩, ⟨by (with_reducible repeat (first | apply Kd.R_alloc | apply Kd.R_drewN | apply Kd.R_drew)); exact HO_3.out⟩, ⟨hb_ HB.out⟩⟩
        · rw [if_neg c7] at H
          have c7b0 : decide (x4_1 < (l0.length : Int)) = false := decide_eq_false c7
          clear c7
          obtain rfl := Option.some.inj H
          go_wp2
          go_ret
          exact ⟨_, er_, by (with_reducible repeat (first | apply Kd.R_alloc | apply Kd.R_drewN | apply Kd.R_drew)); exact HO_3.out, hb_ HB.out⟩
  · replace c3 := Bool.eq_false_iff.mpr c3
    subst c3
    have H1 : (some y309) = some r := by rw [if_neg (show ¬ (false = true) by decide)] at H; exact H
    clear H
    have H := H1
    clear H1
    obtain rfl := Option.some.inj H
    go_enter Try.func29, Try.ntmps29
    go_wp2_with (first | ((with_reducible refine gate_dst (N := 6) rfl ?_); refine Kd.R_lit k57 _ 57 ?hg (N := 6) ?hd (xs := ([] : List (S57))) (inner := []) (ok := fun _ => True) (okp := fun _ => True) ?hr ?hp (fun _ hk => hk) trivial (Below.refl _ _) (Nat.le_refl _) (by simp) ?_; (case hd => rfl); (case hg => rfl); (case hr => first | (go_simp; done) | (go_simp; rfl)); (case hp => exact (Reps.none _ _)); intro v310 w20 ho21 hb hg_ hnew_; clear hg_ hnew_; (first | rw [← Ny309.out] at ho21 | (simp only [Int.reduceToNat] at ho21; rw [← Ny309.out] at ho21)); have n0_ := Aside0.mk (Kd.R_lower ho21 (below_size (hb_ HB.out))); have n1_ := Aside0.mk (below_step (hb_ HB.out) hb); clear HB; have HO311 := n0_; have HB := n1_; clear n0_ n1_; clear hb ho21) | ((with_reducible refine gate_callee (f := 41) rfl ?_); refine goesL_ (some 8) rfl rfl Try.func41 (by kernel_rfl) rfl #[.slice A0 l0.length c0] rfl arr_ ?_; (with_reducible refine (spec_BusOk.calls k _ _ l0 false _ ?side1 ?side2 A2.out).mono ?_); (case side1 => exact kc_ (Kd.C_below HR0.out HB.out)); (case side2 => exact HC0.out); rintro e w22 ⟨rfl, hb⟩; refine ⟨_, rfl, ?_⟩; have n0_ := Aside0.mk (Kd.R_below (by (with_reducible repeat (first | apply Kd.R_alloc | apply Kd.R_drewN | apply Kd.R_drew)); exact HO311.out) hb); have n1_ := Aside0.mk (below_step (hb_ HB.out) hb); clear HO311; clear HB; have HO311 := n0_; have HB := n1_; clear n0_ n1_; (try clear hb); (try clear hb2); (try clear hk); (try clear hi)))
    go_ret
    exact ⟨_, er_, by (with_reducible repeat (first | apply Kd.R_alloc | apply Kd.R_drewN | apply Kd.R_drew)); exact HO311.out, hb_ HB.out⟩
end Go.Proofs.Ytnafimhnjgnlcaa.P

namespace Go.Proofs.Ytnafimhnjgnlcaa.P
open Go.RowKit Go.Proofs.YtnafimhnjgnlcaaW.PrintWords Go.Proofs.YtnafimhnjgnlcaaW.PrintLast Go.Proofs.YtnafimhnjgnlcaaW.PrintMore
attribute [local go_sem] max2_int min2_int max_two min_two max_three min_three max_four min_four
set_option linter.unusedVariables false
set_option linter.unusedSimpArgs false
def impl_clash.f (a0_0 : Int) (a0_1 : Int) (a0_2 : Int) (a0_3 : Int) (a0_4 : Int) (a0_5 : ByteArray) (a1_0 : Int) (a1_1 : Int) (a1_2 : Int) (a1_3 : Int) (a1_4 : Int) (a1_5 : ByteArray) : Option (Bool) := if a0_3 < a1_4 then (some (decide (a1_3 < a0_4))) else (some false)
set_option maxHeartbeats 8000000 in
set_option maxRecDepth 100000 in
theorem impl_clash.calls (a0_0 : Int) (a0_1 : Int) (a0_2 : Int) (a0_3 : Int) (a0_4 : Int) (a0_5 : ByteArray) (a1_0 : Int) (a1_1 : Int) (a1_2 : Int) (a1_3 : Int) (a1_4 : Int) (a1_5 : ByteArray) (r : Bool) (w : World) (h : impl_clash.f a0_0 a0_1 a0_2 a0_3 a0_4 a0_5 a1_0 a1_1 a1_2 a1_3 a1_4 a1_5 = some r) :
    Calls Try.prog 59 #[.agg #[.int .i64 a0_0, .int .i64 a0_1, .int .i64 a0_2, .int .i64 a0_3, .int .i64 a0_4, .string a0_5], .agg #[.int .i64 a1_0, .int .i64 a1_1, .int .i64 a1_2, .int .i64 a1_3, .int .i64 a1_4, .string a1_5]] w fun e w' => e = .returned (.bool r) ∧ Below w.heap.size w w' := by
  have hu40 := Try.underlying40
  have HB := Aside0.mk (Below.refl w.heap.size w)
  have H : (if a0_3 < a1_4 then (some (decide (a1_3 < a0_4))) else (some false)) = some r := h
  clear h
  by_cases c3 : a0_3 < a1_4
  · rw [if_pos c3] at H
    have c3b0 : decide (a0_3 < a1_4) = true := decide_eq_true c3
    clear c3
    obtain rfl := Option.some.inj H
    go_enter Try.func59, Try.ntmps59
    go_wp2_with (first | ((with_reducible refine gate_dst (N := 2) rfl ?_); refine box_event ?hg (N := 2) ?hd (cs := #[.int .i64 a0_0, .int .i64 a0_1, .int .i64 a0_2, .int .i64 a0_3, .int .i64 a0_4, .string a0_5]) (t := 40) ?hr ?_; (case hd => rfl); (case hg => rfl); (case hr => first | (go_simp; done) | (go_simp; rfl)); intro gb319 hg w4 hbox hb; have n0_ := Aside0.mk (below_step (hb_ HB.out) hb); have n1_ := Aside0.mk (hbox); have n2_ := Aside0.mk ((by rw [hg]; exact (below_size (hb_ HB.out)) : w.heap.size ≤ gb319)); have n3_ := Aside0.mk ((by rw [hg]; exact (below_size (hb_ HB.out)) : w.heap.size ≤ gb319)); clear HB; have HB := n0_; have BK319 := n1_; have GW319 := n2_; have GE319 := n3_; clear n0_ n1_ n2_ n3_; clear hb hbox hg) | ((with_reducible refine gate_dst (N := 3) rfl ?_); refine box_event ?hg (N := 3) ?hd (cs := #[.int .i64 a1_0, .int .i64 a1_1, .int .i64 a1_2, .int .i64 a1_3, .int .i64 a1_4, .string a1_5]) (t := 40) ?hr ?_; (case hd => rfl); (case hg => rfl); (case hr => first | (go_simp; done) | (go_simp; rfl)); intro gb320 hg w5 hbox hb; have n0_ := Aside0.mk (bb_ BK319.out hb); have n1_ := Aside0.mk (below_step (hb1_ HB.out GE319.out) hb); have n2_ := Aside0.mk (hbox); have n3_ := Aside0.mk ((by rw [hg]; exact (below_size (hb1_ HB.out GE319.out)) : w.heap.size ≤ gb320)); have n4_ := Aside0.mk ((by rw [hg]; exact (below_size (hb1_ HB.out GE319.out)) : w.heap.size ≤ gb320)); have n5_ := Aside0.mk ((bl_ hg BK319.out : gb319 ≠ gb320)); have n6_ := Aside0.mk ((bg_ hg BK319.out : gb320 ≠ gb319)); clear BK319; clear HB; have BK319 := n0_; have HB := n1_; have BK320 := n2_; have GW320 := n3_; have GE320 := n4_; have NB319_320 := n5_; have NB320_319 := n6_; clear n0_ n1_ n2_ n3_ n4_ n5_ n6_; clear hb hbox hg; have hnb6 := NB319_320.out; have hnc6 := NB320_319.out; have hcz7_0 := bc_ BK319.out 0 (.int .i64 a0_0) rfl; have hcz7_1 := bc_ BK319.out 1 (.int .i64 a0_1) rfl; have hcz7_2 := bc_ BK319.out 2 (.int .i64 a0_2) rfl; have hcz7_3 := bc_ BK319.out 3 (.int .i64 a0_3) rfl; have hcz7_4 := bc_ BK319.out 4 (.int .i64 a0_4) rfl; have hcz7_5 := bc_ BK319.out 5 (.string a0_5) rfl; have hfz7_0 := blk_frozen BK319.out 0; have hfz7_1 := blk_frozen BK319.out 1; have hfz7_2 := blk_frozen BK319.out 2; have hfz7_3 := blk_frozen BK319.out 3; have hfz7_4 := blk_frozen BK319.out 4; have hfz7_5 := blk_frozen BK319.out 5; have hcz8_0 := bc_ BK320.out 0 (.int .i64 a1_0) rfl; have hcz8_1 := bc_ BK320.out 1 (.int .i64 a1_1) rfl; have hcz8_2 := bc_ BK320.out 2 (.int .i64 a1_2) rfl; have hcz8_3 := bc_ BK320.out 3 (.int .i64 a1_3) rfl; have hcz8_4 := bc_ BK320.out 4 (.int .i64 a1_4) rfl; have hcz8_5 := bc_ BK320.out 5 (.string a1_5) rfl; have hfz8_0 := blk_frozen BK320.out 0; have hfz8_1 := blk_frozen BK320.out 1; have hfz8_2 := blk_frozen BK320.out 2; have hfz8_3 := blk_frozen BK320.out 3; have hfz8_4 := blk_frozen BK320.out 4; have hfz8_5 := blk_frozen BK320.out 5))
    go_ret
    exact ⟨er_, hb2_ HB.out GE319.out GE320.out⟩
  · rw [if_neg c3] at H
    have c3b0 : decide (a0_3 < a1_4) = false := decide_eq_false c3
    clear c3
    obtain rfl := Option.some.inj H
    go_enter Try.func59, Try.ntmps59
    go_wp2_with (first | ((with_reducible refine gate_dst (N := 2) rfl ?_); refine box_event ?hg (N := 2) ?hd (cs := #[.int .i64 a0_0, .int .i64 a0_1, .int .i64 a0_2, .int .i64 a0_3, .int .i64 a0_4, .string a0_5]) (t := 40) ?hr ?_; (case hd => rfl); (case hg => rfl); (case hr => first | (go_simp; done) | (go_simp; rfl)); intro gb319 hg w9 hbox hb; have n0_ := Aside0.mk (below_step (hb_ HB.out) hb); have n1_ := Aside0.mk (hbox); have n2_ := Aside0.mk ((by rw [hg]; exact (below_size (hb_ HB.out)) : w.heap.size ≤ gb319)); have n3_ := Aside0.mk ((by rw [hg]; exact (below_size (hb_ HB.out)) : w.heap.size ≤ gb319)); clear HB; have HB := n0_; have BK319 := n1_; have GW319 := n2_; have GE319 := n3_; clear n0_ n1_ n2_ n3_; clear hb hbox hg) | ((with_reducible refine gate_dst (N := 3) rfl ?_); refine box_event ?hg (N := 3) ?hd (cs := #[.int .i64 a1_0, .int .i64 a1_1, .int .i64 a1_2, .int .i64 a1_3, .int .i64 a1_4, .string a1_5]) (t := 40) ?hr ?_; (case hd => rfl); (case hg => rfl); (case hr => first | (go_simp; done) | (go_simp; rfl)); intro gb320 hg w10 hbox hb; have n0_ := Aside0.mk (bb_ BK319.out hb); have n1_ := Aside0.mk (below_step (hb1_ HB.out GE319.out) hb); have n2_ := Aside0.mk (hbox); have n3_ := Aside0.mk ((by rw [hg]; exact (below_size (hb1_ HB.out GE319.out)) : w.heap.size ≤ gb320)); have n4_ := Aside0.mk ((by rw [hg]; exact (below_size (hb1_ HB.out GE319.out)) : w.heap.size ≤ gb320)); have n5_ := Aside0.mk ((bl_ hg BK319.out : gb319 ≠ gb320)); have n6_ := Aside0.mk ((bg_ hg BK319.out : gb320 ≠ gb319)); clear BK319; clear HB; have BK319 := n0_; have HB := n1_; have BK320 := n2_; have GW320 := n3_; have GE320 := n4_; have NB319_320 := n5_; have NB320_319 := n6_; clear n0_ n1_ n2_ n3_ n4_ n5_ n6_; clear hb hbox hg; have hnb11 := NB319_320.out; have hnc11 := NB320_319.out; have hcz12_0 := bc_ BK319.out 0 (.int .i64 a0_0) rfl; have hcz12_1 := bc_ BK319.out 1 (.int .i64 a0_1) rfl; have hcz12_2 := bc_ BK319.out 2 (.int .i64 a0_2) rfl; have hcz12_3 := bc_ BK319.out 3 (.int .i64 a0_3) rfl; have hcz12_4 := bc_ BK319.out 4 (.int .i64 a0_4) rfl; have hcz12_5 := bc_ BK319.out 5 (.string a0_5) rfl; have hfz12_0 := blk_frozen BK319.out 0; have hfz12_1 := blk_frozen BK319.out 1; have hfz12_2 := blk_frozen BK319.out 2; have hfz12_3 := blk_frozen BK319.out 3; have hfz12_4 := blk_frozen BK319.out 4; have hfz12_5 := blk_frozen BK319.out 5; have hcz13_0 := bc_ BK320.out 0 (.int .i64 a1_0) rfl; have hcz13_1 := bc_ BK320.out 1 (.int .i64 a1_1) rfl; have hcz13_2 := bc_ BK320.out 2 (.int .i64 a1_2) rfl; have hcz13_3 := bc_ BK320.out 3 (.int .i64 a1_3) rfl; have hcz13_4 := bc_ BK320.out 4 (.int .i64 a1_4) rfl; have hcz13_5 := bc_ BK320.out 5 (.string a1_5) rfl; have hfz13_0 := blk_frozen BK320.out 0; have hfz13_1 := blk_frozen BK320.out 1; have hfz13_2 := blk_frozen BK320.out 2; have hfz13_3 := blk_frozen BK320.out 3; have hfz13_4 := blk_frozen BK320.out 4; have hfz13_5 := blk_frozen BK320.out 5))
    go_ret
    exact ⟨er_, hb2_ HB.out GE319.out GE320.out⟩
end Go.Proofs.Ytnafimhnjgnlcaa.P
namespace Go.Proofs.Ytnafimhnjgnlcaa.P
open Go.RowKit Go.Proofs.YtnafimhnjgnlcaaW.PrintWords Go.Proofs.YtnafimhnjgnlcaaW.PrintLast Go.Proofs.YtnafimhnjgnlcaaW.PrintMore
attribute [local go_sem] max2_int min2_int max_two min_two max_three min_three max_four min_four
set_option linter.unusedVariables false
set_option linter.unusedSimpArgs false
mutual
def impl_BusClashes.l0 : Nat → List (S40) → List (S57) → List (S40) → Int → Int → Option ((List (S57)))
  | 0, _, _, _, _, _ => none
  | k + 1, x0, x3, x11, x12, x13 => if x13 < x12 then (if 0 ≤ x13 then (if x13 < (x11.length : Int) then (impl_BusClashes.l1 k x0 x3 x13 (wrap64 (x13 + 1)) x11 x12 x13 ((rd_T40 x11 x13).f0) ((rd_T40 x11 x13).f1) ((rd_T40 x11 x13).f2) ((rd_T40 x11 x13).f3) ((rd_T40 x11 x13).f4) ((rd_T40 x11 x13).f5)) else (none)) else (none)) else (some x3)
def impl_BusClashes.l1 : Nat → List (S40) → List (S57) → Int → Int → List (S40) → Int → Int → Int → Int → Int → Int → Int → ByteArray → Option ((List (S57)))
  | 0, _, _, _, _, _, _, _, _, _, _, _, _, _ => none
  | k + 1, x0, x3, x4, x6, x11, x12, x13, x327000, x327001, x327002, x327003, x327004, x327005 => if x6 < (x0.length : Int) then (if 0 ≤ x6 then ((impl_clash.f x327000 x327001 x327002 x327003 x327004 x327005 ((rd_T40 x0 x6).f0) ((rd_T40 x0 x6).f1) ((rd_T40 x0 x6).f2) ((rd_T40 x0 x6).f3) ((rd_T40 x0 x6).f4) ((rd_T40 x0 x6).f5)).bind fun t328 => (if t328 = true then (if x3.length < 8796093022208 then (impl_BusClashes.l1 k x0 (x3 ++ [(⟨x4, x6⟩ : S57)]) x4 (wrap64 (x6 + 1)) x11 x12 x13 x327000 x327001 x327002 x327003 x327004 x327005) else (none)) else (impl_BusClashes.l1 k x0 x3 x4 (wrap64 (x6 + 1)) x11 x12 x13 x327000 x327001 x327002 x327003 x327004 x327005))) else (none)) else (impl_BusClashes.l0 k x0 x3 x11 x12 (wrap64 (x13 + 1)))
end
def impl_BusClashes.f (k : Nat) (l0 : List (S40)) : Option ((List (S57))) := (impl_BusOk.f k l0).bind fun t321 => (if t321 = true then (impl_BusClashes.l0 k l0 (([] : List (S57))) l0 (l0.length : Int) 0) else (some ([] : List (S57))))
theorem impl_BusClashes.mono_l : ∀ k, (∀ y0 y1 y2 y3 y4, LeO (impl_BusClashes.l0 k y0 y1 y2 y3 y4) (impl_BusClashes.l0 (k + 1) y0 y1 y2 y3 y4)) ∧ (∀ y0 y1 y2 y3 y4 y5 y6 y7 y8 y9 y10 y11 y12, LeO (impl_BusClashes.l1 k y0 y1 y2 y3 y4 y5 y6 y7 y8 y9 y10 y11 y12) (impl_BusClashes.l1 (k + 1) y0 y1 y2 y3 y4 y5 y6 y7 y8 y9 y10 y11 y12))
  | 0 => ⟨fun _ _ _ _ _ r h => by simp [impl_BusClashes.l0] at h, fun _ _ _ _ _ _ _ _ _ _ _ _ _ r h => by simp [impl_BusClashes.l1] at h⟩
  | k + 1 => by
    obtain ⟨ih0, ih1⟩ := impl_BusClashes.mono_l k
    refine ⟨?_, ?_⟩
    · intro y0 y1 y2 y3 y4
      unfold impl_BusClashes.l0
      repeat' first
      | (with_reducible exact ih0 _ _ _ _ _)
      | (with_reducible exact ih1 _ _ _ _ _ _ _ _ _ _ _ _ _)
      | (with_reducible exact impl_BusOk.mono _ _)
      | (with_reducible exact LeO.refl _)
      | (with_reducible exact LeO.none _)
      | (with_reducible refine LeO.ite ?_ ?_)
      | (with_reducible refine LeO.bind ?_ (fun _ => ?_))
      | exact ih0 _ _ _ _ _
      | exact ih1 _ _ _ _ _ _ _ _ _ _ _ _ _
      | exact impl_BusOk.mono _ _
      | exact LeO.none _
      | refine LeO.ite ?_ ?_
      | refine LeO.bind ?_ (fun _ => ?_)
    · intro y0 y1 y2 y3 y4 y5 y6 y7 y8 y9 y10 y11 y12
      unfold impl_BusClashes.l1
      repeat' first
      | (with_reducible exact ih0 _ _ _ _ _)
      | (with_reducible exact ih1 _ _ _ _ _ _ _ _ _ _ _ _ _)
      | (with_reducible exact impl_BusOk.mono _ _)
      | (with_reducible exact LeO.refl _)
      | (with_reducible exact LeO.none _)
      | (with_reducible refine LeO.ite ?_ ?_)
      | (with_reducible refine LeO.bind ?_ (fun _ => ?_))
      | exact ih0 _ _ _ _ _
      | exact ih1 _ _ _ _ _ _ _ _ _ _ _ _ _
      | exact impl_BusOk.mono _ _
      | exact LeO.none _
      | refine LeO.ite ?_ ?_
      | refine LeO.bind ?_ (fun _ => ?_)
theorem impl_BusClashes.mono : ∀ a0 k, LeO (impl_BusClashes.f k a0) (impl_BusClashes.f (k + 1) a0) := by
  intro a0 k
  obtain ⟨ih0, ih1⟩ := impl_BusClashes.mono_l k
  unfold impl_BusClashes.f
  repeat' first
      | (with_reducible exact ih0 _ _ _ _ _)
      | (with_reducible exact ih1 _ _ _ _ _ _ _ _ _ _ _ _ _)
      | (with_reducible exact impl_BusOk.mono _ _)
      | (with_reducible exact LeO.refl _)
      | (with_reducible exact LeO.none _)
      | (with_reducible refine LeO.ite ?_ ?_)
      | (with_reducible refine LeO.bind ?_ (fun _ => ?_))
      | exact ih0 _ _ _ _ _
      | exact ih1 _ _ _ _ _ _ _ _ _ _ _ _ _
      | exact impl_BusOk.mono _ _
      | exact LeO.none _
      | refine LeO.ite ?_ ?_
      | refine LeO.bind ?_ (fun _ => ?_)
set_option maxHeartbeats 8000000 in
set_option maxRecDepth 100000 in
theorem impl_BusClashes.calls (k : Nat) (A0 : Option Addr) (c0 : Nat) (l0 : List (S40)) (r : List (S57)) (w : World) (hr0 : Kd.C k40 w A0 l0.length l0) (hc0 : l0.length ≤ c0) (h : impl_BusClashes.f k l0 = some r) :
    Calls Try.prog 30 #[.slice A0 l0.length c0] w fun e w' => ∃ v0_ : Value, e = .returned (v0_) ∧ Kd.R k57 57 w' w.heap.size (fun _ => True) v0_ r ∧ Below w.heap.size w w' := by
  have hu40 := Try.underlying40
  have hu57 := Try.underlying57
  have HR0 := Aside0.mk hr0
  have HC0 := Aside0.mk hc0
  clear hr0 hc0
  have HB := Aside0.mk (Below.refl w.heap.size w)
  have H : ((impl_BusOk.f k l0).bind fun t321 => (if t321 = true then (impl_BusClashes.l0 k l0 (([] : List (S57))) l0 (l0.length : Int) 0) else (some ([] : List (S57))))) = some r := h
  clear h
  replace H := Option.bind_eq_some_iff.mp H
  obtain ⟨t321, A20, H⟩ := H
  replace H : (if t321 = true then (impl_BusClashes.l0 k l0 (([] : List (S57))) l0 (l0.length : Int) 0) else (some ([] : List (S57)))) = some r := H
  have A2 := Aside0.mk A20
  clear A20
  by_cases c3 : t321 = true
  · subst c3
    have H1 : (impl_BusClashes.l0 k l0 (([] : List (S57))) l0 (l0.length : Int) 0) = some r := by rw [if_pos rfl] at H; exact H
    clear H
    have H := H1
    clear H1
    obtain ⟨y322, hy322⟩ : ∃ y_ : List (S57), y_ = (([] : List (S57))) := ⟨_, rfl⟩
    replace H : (impl_BusClashes.l0 k l0 y322 l0 (l0.length : Int) 0) = some r := by first | (rw [hy322]; with_reducible exact H) | (have H2_ := (Option.bind_some _ _).symm.trans H; rw [hy322]; with_reducible exact H2_) | (have H2_ := (Option.bind_some _ _).symm.trans H; with_reducible exact H2_) | with_reducible exact H | (rw [hy322]; exact H) | exact H
    have Ny322 := Aside0.mk hy322
    clear hy322
    have H' := Aside0.mk H
    clear H
    go_enter Try.func30, Try.ntmps30
    go_wp2_with (first | ((with_reducible refine gate_callee (f := 42) rfl ?_); refine goesL_ (some 8) rfl rfl Try.func42 (by kernel_rfl) rfl #[.slice A0 l0.length c0] rfl arr_ ?_; (with_reducible refine (impl_BusOk.calls k _ _ l0 true _ ?side1 ?side2 A2.out).mono ?_); (case side1 => repeat (first | exact HR0.out | (with_reducible refine Kd.C_alloc ?_ _) | (with_reducible refine Kd.C_drewN ?_ _) | (with_reducible refine Kd.C_drew ?_))); (case side2 => exact HC0.out); rintro e w4 ⟨rfl, hb⟩; refine ⟨_, rfl, ?_⟩; have n0_ := Aside0.mk (below_step (hb_ HB.out) hb); clear HB; have HB := n0_; clear n0_; (try clear hb); (try clear hb2); (try clear hk); (try clear hi)) | ((with_reducible refine gate_dst (N := 10) rfl ?_); refine Kd.R_lit k57 _ 57 ?hg (N := 10) ?hd (xs := ([] : List (S57))) (inner := []) (ok := fun _ => True) (okp := fun _ => True) ?hr ?hp (fun _ hk => hk) trivial (Below.refl _ _) (Nat.le_refl _) (by simp) ?_; (case hd => rfl); (case hg => rfl); (case hr => first | (go_simp; done) | (go_simp; rfl)); (case hp => exact (Reps.none _ _)); intro v323 w5 ho6 hb hg_ hnew_; clear hg_ hnew_; (first | rw [← Ny322.out] at ho6 | (simp only [Int.reduceToNat] at ho6; rw [← Ny322.out] at ho6)); have n0_ := Aside0.mk (Kd.R_lower ho6 (below_size (hb_ HB.out))); have n1_ := Aside0.mk (below_step (hb_ HB.out) hb); clear HB; have HO324 := n0_; have HB := n1_; clear n0_ n1_; clear hb ho6))
    go_loopg [3, 13] k (fun kq v3 v13 w' => ∃ (x3_1 : List (S57)) (x13_1 : Int), v13 = .int .i64 x13_1 ∧ Aside0 (impl_BusClashes.l0 kq l0 x3_1 l0 (l0.length : Int) x13_1 = some r) ∧ Aside0 (kq ≤ k) ∧ Aside0 (Kd.R k57 57 w' w.heap.size (fun _ => True) v3 x3_1) ∧ Aside0 (Below w.heap.size w w'))
    case atStart => exact ⟨(y322), (0), (by first | rfl | (simp; done) | (simp [*]; done)), H', ⟨Nat.le_refl _⟩, ⟨by (with_reducible repeat (first | apply Kd.R_alloc | apply Kd.R_drewN | apply Kd.R_drew)); exact HO324.out⟩, ⟨hb_ HB.out⟩⟩
    case round =>
      clear H'
      try clear p2
      try clear c3
      try clear c4
      obtain ⟨x3_1, x13_1, rfl, HA, HK1, HO_3, HB⟩ := hrel
      cases gk with
      | zero => exact absurd HA.out (by simp [impl_BusClashes.l0])
      | succ k1 =>
        have H := HA.out
        clear HA
        simp only [impl_BusClashes.l0] at H
        by_cases c7 : x13_1 < (l0.length : Int)
        · rw [if_pos c7] at H
          have c7b0 : decide (x13_1 < (l0.length : Int)) = true := decide_eq_true c7
          clear c7
          by_cases c8 : 0 ≤ x13_1
          · rw [if_pos c8] at H
            have c8b0 : decide (0 ≤ x13_1) = true := decide_eq_true c8
            clear c8
            by_cases c9 : x13_1 < (l0.length : Int)
            · rw [if_pos c9] at H
              have c9b0 : decide (x13_1 < (l0.length : Int)) = true := decide_eq_true c9
              clear c9
              have H' := Aside0.mk H
              clear H
              have p325 : 0 ≤ (x13_1 : Int) := of_decide_eq_true (by first | (with_reducible assumption) | assumption)
              have q325 : x13_1 < (l0.length : Int) := of_decide_eq_true (by first | (with_reducible assumption) | assumption)
              obtain ⟨ad325, e325, hx325_0, hx325_1, hx325_2, hx325_3, hx325_4, hx325_5⟩ := at_T40 HR0.out x13_1 p325 q325
              cases e325
              replace hx325_0 := (HB.out.cell (World.block_lt_of_cell? w _ hx325_0)).trans hx325_0
              replace hx325_1 := (HB.out.cell (World.block_lt_of_cell? w _ hx325_1)).trans hx325_1
              replace hx325_2 := (HB.out.cell (World.block_lt_of_cell? w _ hx325_2)).trans hx325_2
              replace hx325_3 := (HB.out.cell (World.block_lt_of_cell? w _ hx325_3)).trans hx325_3
              replace hx325_4 := (HB.out.cell (World.block_lt_of_cell? w _ hx325_4)).trans hx325_4
              replace hx325_5 := (HB.out.cell (World.block_lt_of_cell? w _ hx325_5)).trans hx325_5
              replace p325 := eq_true p325
              replace q325 := eq_true q325
              go_wp2_with (first | ((with_reducible refine gate_dst (N := 5) rfl ?_); refine box_event ?hg (N := 5) ?hd (cs := #[.int .i64 0, .int .i64 0, .int .i64 0, .int .i64 0, .int .i64 0, .string (⟨#[]⟩ : ByteArray)]) (t := 40) ?hr ?_; (case hd => rfl); (case hg => rfl); (case hr => first | (go_simp; done) | (go_simp; rfl)); intro gb326 hg w10 hbox hb; have n0_ := Aside0.mk (Kd.R_below (by (with_reducible repeat (first | apply Kd.R_alloc | apply Kd.R_drewN | apply Kd.R_drew)); exact HO_3.out) hb); have n1_ := Aside0.mk (below_step (hb_ HB.out) hb); have n2_ := Aside0.mk (hbox); have n3_ := Aside0.mk ((by rw [hg]; exact (below_size (hb_ HB.out)) : w.heap.size ≤ gb326)); have n4_ := Aside0.mk ((by rw [hg]; exact (below_size (hb_ HB.out)) : w.heap.size ≤ gb326)); clear HO_3; clear HB; have HO_3 := n0_; have HB := n1_; have BK326 := n2_; have GW326 := n3_; have GE326 := n4_; clear n0_ n1_ n2_ n3_ n4_; clear hb hbox hg; have hcz11_0 := bc_ BK326.out 0 (.int .i64 0) rfl; have hcz11_1 := bc_ BK326.out 1 (.int .i64 0) rfl; have hcz11_2 := bc_ BK326.out 2 (.int .i64 0) rfl; have hcz11_3 := bc_ BK326.out 3 (.int .i64 0) rfl; have hcz11_4 := bc_ BK326.out 4 (.int .i64 0) rfl; have hcz11_5 : w10.cell? ⟨gb326, 5, none⟩ = some (.string (⟨#[]⟩ : ByteArray)) := (blk_cell BK326.out 5).trans rfl; have hfz11_0 := blk_frozen BK326.out 0; have hfz11_1 := blk_frozen BK326.out 1; have hfz11_2 := blk_frozen BK326.out 2; have hfz11_3 := blk_frozen BK326.out 3; have hfz11_4 := blk_frozen BK326.out 4; have hfz11_5 := blk_frozen BK326.out 5))
              go_loopg [3, 6] k1 (fun kq v3 v6 w' => ∃ (x3_2 : List (S57)) (x6_2 : Int), v6 = .int .i64 x6_2 ∧ Aside0 (impl_BusClashes.l1 kq l0 x3_2 x13_1 x6_2 l0 (l0.length : Int) x13_1 ((rd_T40 l0 x13_1).f0) ((rd_T40 l0 x13_1).f1) ((rd_T40 l0 x13_1).f2) ((rd_T40 l0 x13_1).f3) ((rd_T40 l0 x13_1).f4) ((rd_T40 l0 x13_1).f5) = some r) ∧ Aside0 (kq ≤ k1) ∧ Aside0 (Kd.R k57 57 w' w.heap.size (fun _ => True) v3 x3_2) ∧ Aside0 (w'.heap[gb326]? = some (.cells #[.int .i64 ((rd_T40 l0 x13_1).f0), .int .i64 ((rd_T40 l0 x13_1).f1), .int .i64 ((rd_T40 l0 x13_1).f2), .int .i64 ((rd_T40 l0 x13_1).f3), .int .i64 ((rd_T40 l0 x13_1).f4), .string ((rd_T40 l0 x13_1).f5)] 40 (0, 0))) ∧ Aside0 (Below w.heap.size w w'))
              case atStart => exact ⟨(x3_1), (wrap64 (x13_1 + 1)), (by first | rfl | (simp; done) | (simp [*]; done)), H', ⟨Nat.le_refl _⟩, ⟨by (with_reducible repeat (first | apply Kd.R_alloc | apply Kd.R_drewN | apply Kd.R_drew)); exact Kd.R_mono (Kd.R_far (p := ⟨gb326, 5, none⟩) (Kd.R_far (p := ⟨gb326, 4, none⟩) (Kd.R_far (p := ⟨gb326, 3, none⟩) (Kd.R_far (p := ⟨gb326, 2, none⟩) (Kd.R_far (p := ⟨gb326, 1, none⟩) (Kd.R_far (p := ⟨gb326, 0, none⟩) (Kd.R_types HO_3.out BK326.out (by decide)) (fun _ hk => hk.2) (.int .i64 ((rd_T40 l0 x13_1).f0))) (fun _ hk => hk.2) (.int .i64 ((rd_T40 l0 x13_1).f1))) (fun _ hk => hk.2) (.int .i64 ((rd_T40 l0 x13_1).f2))) (fun _ hk => hk.2) (.int .i64 ((rd_T40 l0 x13_1).f3))) (fun _ hk => hk.2) (.int .i64 ((rd_T40 l0 x13_1).f4))) (fun _ hk => hk.2) (.string ((rd_T40 l0 x13_1).f5))) (fun _ hk => trivial)⟩, ⟨by (with_reducible repeat (first | refine blk_drewN ?_ _ | refine blk_drew ?_ | refine blk_alloc ?_ _)); refine blk_put (cs := #[.int .i64 ((rd_T40 l0 x13_1).f0), .int .i64 ((rd_T40 l0 x13_1).f1), .int .i64 ((rd_T40 l0 x13_1).f2), .int .i64 ((rd_T40 l0 x13_1).f3), .int .i64 ((rd_T40 l0 x13_1).f4), .string (⟨#[]⟩ : ByteArray)]) ?_ 5 _ rfl; (with_reducible repeat (first | refine blk_drewN ?_ _ | refine blk_drew ?_ | refine blk_alloc ?_ _)); refine blk_put (cs := #[.int .i64 ((rd_T40 l0 x13_1).f0), .int .i64 ((rd_T40 l0 x13_1).f1), .int .i64 ((rd_T40 l0 x13_1).f2), .int .i64 ((rd_T40 l0 x13_1).f3), .int .i64 0, .string (⟨#[]⟩ : ByteArray)]) ?_ 4 _ rfl; (with_reducible repeat (first | refine blk_drewN ?_ _ | refine blk_drew ?_ | refine blk_alloc ?_ _)); refine blk_put (cs := #[.int .i64 ((rd_T40 l0 x13_1).f0), .int .i64 ((rd_T40 l0 x13_1).f1), .int .i64 ((rd_T40 l0 x13_1).f2), .int .i64 0, .int .i64 0, .string (⟨#[]⟩ : ByteArray)]) ?_ 3 _ rfl; (with_reducible repeat (first | refine blk_drewN ?_ _ | refine blk_drew ?_ | refine blk_alloc ?_ _)); refine blk_put (cs := #[.int .i64 ((rd_T40 l0 x13_1).f0), .int .i64 ((rd_T40 l0 x13_1).f1), .int .i64 0, .int .i64 0, .int .i64 0, .string (⟨#[]⟩ : ByteArray)]) ?_ 2 _ rfl; (with_reducible repeat (first | refine blk_drewN ?_ _ | refine blk_drew ?_ | refine blk_alloc ?_ _)); refine blk_put (cs := #[.int .i64 ((rd_T40 l0 x13_1).f0), .int .i64 0, .int .i64 0, .int .i64 0, .int .i64 0, .string (⟨#[]⟩ : ByteArray)]) ?_ 1 _ rfl; (with_reducible repeat (first | refine blk_drewN ?_ _ | refine blk_drew ?_ | refine blk_alloc ?_ _)); refine blk_put (cs := #[.int .i64 0, .int .i64 0, .int .i64 0, .int .i64 0, .int .i64 0, .string (⟨#[]⟩ : ByteArray)]) ?_ 0 _ rfl; (with_reducible repeat (first | refine blk_drewN ?_ _ | refine blk_drew ?_ | refine blk_alloc ?_ _)); exact BK326.out⟩, ⟨hb1_ HB.out GE326.out⟩⟩
              case round =>
                clear H'
                try clear p2
                try clear c3
                try clear p3
                try clear q3
                try clear hx3
                try clear c4
                try clear p6
                try clear c7
                try clear c7b0
                try clear c8
                try clear c8b0
                try clear c9
                try clear c9b0
                try clear hcz11_0
                try clear hcz11_1
                try clear hcz11_2
                try clear hcz11_3
                try clear hcz11_4
                try clear hcz11_5
                try clear hfz11_0
                try clear hfz11_1
                try clear hfz11_2
                try clear hfz11_3
                try clear hfz11_4
                try clear hfz11_5
                try clear hx325_0
                try clear hx325_1
                try clear hx325_2
                try clear hx325_3
                try clear hx325_4
                try clear hx325_5
                try clear p2
                try clear p325
                try clear q325
                obtain ⟨x3_2, x6_2, rfl, HA, HK2, HO_3, BK326, HB⟩ := hrel
                cases gk with
                | zero => exact absurd HA.out (by simp [impl_BusClashes.l1])
                | succ k2 =>
                  have H := HA.out
                  clear HA
                  simp only [impl_BusClashes.l1] at H
                  by_cases c12 : x6_2 < (l0.length : Int)
                  · rw [if_pos c12] at H
                    have c12b0 : decide (x6_2 < (l0.length : Int)) = true := decide_eq_true c12
                    clear c12
                    by_cases c13 : 0 ≤ x6_2
                    · rw [if_pos c13] at H
                      have c13b0 : decide (0 ≤ x6_2) = true := decide_eq_true c13
                      clear c13
                      replace H := Option.bind_eq_some_iff.mp H
                      obtain ⟨t328, A140, H⟩ := H
                      replace H : (if t328 = true then (if x3_2.length < 8796093022208 then (impl_BusClashes.l1 k2 l0 (x3_2 ++ [(⟨x13_1, x6_2⟩ : S57)]) x13_1 (wrap64 (x6_2 + 1)) l0 (l0.length : Int) x13_1 ((rd_T40 l0 x13_1).f0) ((rd_T40 l0 x13_1).f1) ((rd_T40 l0 x13_1).f2) ((rd_T40 l0 x13_1).f3) ((rd_T40 l0 x13_1).f4) ((rd_T40 l0 x13_1).f5)) else (none)) else (impl_BusClashes.l1 k2 l0 x3_2 x13_1 (wrap64 (x6_2 + 1)) l0 (l0.length : Int) x13_1 ((rd_T40 l0 x13_1).f0) ((rd_T40 l0 x13_1).f1) ((rd_T40 l0 x13_1).f2) ((rd_T40 l0 x13_1).f3) ((rd_T40 l0 x13_1).f4) ((rd_T40 l0 x13_1).f5))) = some r := H
                      have A14 := Aside0.mk A140
                      clear A140
                      by_cases c15 : t328 = true
                      · subst c15
                        have H1 : (if x3_2.length < 8796093022208 then (impl_BusClashes.l1 k2 l0 (x3_2 ++ [(⟨x13_1, x6_2⟩ : S57)]) x13_1 (wrap64 (x6_2 + 1)) l0 (l0.length : Int) x13_1 ((rd_T40 l0 x13_1).f0) ((rd_T40 l0 x13_1).f1) ((rd_T40 l0 x13_1).f2) ((rd_T40 l0 x13_1).f3) ((rd_T40 l0 x13_1).f4) ((rd_T40 l0 x13_1).f5)) else (none)) = some r := by rw [if_pos rfl] at H; exact H
                        clear H
                        have H := H1
                        clear H1
                        by_cases c16 : x3_2.length < 8796093022208
                        · rw [if_pos c16] at H
                          have LMc16 := Aside0.mk c16
                          clear c16
                          obtain ⟨y329, hy329⟩ : ∃ y_ : List (S57), y_ = (x3_2 ++ [(⟨x13_1, x6_2⟩ : S57)]) := ⟨_, rfl⟩
                          replace H : (impl_BusClashes.l1 k2 l0 y329 x13_1 (wrap64 (x6_2 + 1)) l0 (l0.length : Int) x13_1 ((rd_T40 l0 x13_1).f0) ((rd_T40 l0 x13_1).f1) ((rd_T40 l0 x13_1).f2) ((rd_T40 l0 x13_1).f3) ((rd_T40 l0 x13_1).f4) ((rd_T40 l0 x13_1).f5)) = some r := by first | (rw [hy329]; with_reducible exact H) | (have H2_ := (Option.bind_some _ _).symm.trans H; rw [hy329]; with_reducible exact H2_) | (have H2_ := (Option.bind_some _ _).symm.trans H; with_reducible exact H2_) | with_reducible exact H | (rw [hy329]; exact H) | exact H
                          have Ny329 := Aside0.mk hy329
                          clear hy329
                          have H' := Aside0.mk H
                          clear H
                          try go_wp2
                          have n0_ := Aside0.mk (Kd.R_drew HO_3.out)
                          have n1_ := Aside0.mk (blk_drew BK326.out)
                          have n2_ := Aside0.mk (below_drew1 HB.out)
                          clear HO_3
                          clear BK326
                          clear HB
                          have HO_3 := n0_
                          have BK326 := n1_
                          have HB := n2_
                          clear n0_ n1_ n2_
                          have p327 : 0 ≤ (x6_2 : Int) := of_decide_eq_true (by first | (with_reducible assumption) | assumption)
                          have q327 : x6_2 < (l0.length : Int) := of_decide_eq_true (by first | (with_reducible assumption) | assumption)
                          obtain ⟨ad327, e327, hx327_0, hx327_1, hx327_2, hx327_3, hx327_4, hx327_5⟩ := at_T40 HR0.out x6_2 p327 q327
                          have hw327_5 := hx327_5
                          have hw327_4 := hx327_4
                          have hw327_3 := hx327_3
                          have hw327_2 := hx327_2
                          have hw327_1 := hx327_1
                          have hw327_0 := hx327_0
                          obtain rfl : ad325 = ad327 := (by injection e327)
                          replace hx327_0 := (HB.out.cell (World.block_lt_of_cell? w _ hx327_0)).trans hx327_0
                          replace hx327_1 := (HB.out.cell (World.block_lt_of_cell? w _ hx327_1)).trans hx327_1
                          replace hx327_2 := (HB.out.cell (World.block_lt_of_cell? w _ hx327_2)).trans hx327_2
                          replace hx327_3 := (HB.out.cell (World.block_lt_of_cell? w _ hx327_3)).trans hx327_3
                          replace hx327_4 := (HB.out.cell (World.block_lt_of_cell? w _ hx327_4)).trans hx327_4
                          replace hx327_5 := (HB.out.cell (World.block_lt_of_cell? w _ hx327_5)).trans hx327_5
                          replace p327 := eq_true p327
                          replace q327 := eq_true q327
                          refine start_ (n := 6) (S := fun w' => w'.cell? ⟨gb326, 0, none⟩ = some (.int .i64 ((rd_T40 l0 x13_1).f0)) ∧ w'.cell? ⟨gb326, 1, none⟩ = some (.int .i64 ((rd_T40 l0 x13_1).f1)) ∧ w'.cell? ⟨gb326, 2, none⟩ = some (.int .i64 ((rd_T40 l0 x13_1).f2)) ∧ w'.cell? ⟨gb326, 3, none⟩ = some (.int .i64 ((rd_T40 l0 x13_1).f3)) ∧ w'.cell? ⟨gb326, 4, none⟩ = some (.int .i64 ((rd_T40 l0 x13_1).f4)) ∧ w'.cell? ⟨gb326, 5, none⟩ = some (.string ((rd_T40 l0 x13_1).f5)) ∧ w'.cell? (ad325.add ((x6_2).toNat * 6)) = some (.int .i64 ((rd_T40 l0 x6_2).f0)) ∧ w'.cell? ⟨(ad325.add ((x6_2).toNat * 6)).block, (ad325.add ((x6_2).toNat * 6)).off + 1, none⟩ = some (.int .i64 ((rd_T40 l0 x6_2).f1)) ∧ w'.cell? ⟨(ad325.add ((x6_2).toNat * 6)).block, (ad325.add ((x6_2).toNat * 6)).off + 2, none⟩ = some (.int .i64 ((rd_T40 l0 x6_2).f2)) ∧ w'.cell? ⟨(ad325.add ((x6_2).toNat * 6)).block, (ad325.add ((x6_2).toNat * 6)).off + 3, none⟩ = some (.int .i64 ((rd_T40 l0 x6_2).f3)) ∧ w'.cell? ⟨(ad325.add ((x6_2).toNat * 6)).block, (ad325.add ((x6_2).toNat * 6)).off + 4, none⟩ = some (.int .i64 ((rd_T40 l0 x6_2).f4)) ∧ w'.cell? ⟨(ad325.add ((x6_2).toNat * 6)).block, (ad325.add ((x6_2).toNat * 6)).off + 5, none⟩ = some (.string ((rd_T40 l0 x6_2).f5))) (ds := []) #[false, false, false, false, false, false] (by kernel_rfl) rfl rfl ⟨(blk_cell BK326.out 0).trans rfl, (blk_cell BK326.out 1).trans rfl, (blk_cell BK326.out 2).trans rfl, (blk_cell BK326.out 3).trans rfl, (blk_cell BK326.out 4).trans rfl, (blk_cell BK326.out 5).trans rfl, ((HB.out.cell (World.block_lt_of_cell? w _ hw327_0)).trans hw327_0), ((HB.out.cell (World.block_lt_of_cell? w _ hw327_1)).trans hw327_1), ((HB.out.cell (World.block_lt_of_cell? w _ hw327_2)).trans hw327_2), ((HB.out.cell (World.block_lt_of_cell? w _ hw327_3)).trans hw327_3), ((HB.out.cell (World.block_lt_of_cell? w _ hw327_4)).trans hw327_4), ((HB.out.cell (World.block_lt_of_cell? w _ hw327_5)).trans hw327_5)⟩ (fun hHeld => ?_)
                          generalize wr.drew = w17 at HO_3 BK326 HB hx327_0 hx327_1 hx327_2 hx327_3 hx327_4 hx327_5 hHeld ⊢
                          refine pure_ (i := 1) (N := some 27) (v := ?_) (a' := ?_) #[false, true, false, false, false, false] rfl rfl (by kernel_rfl) (fun _ _ _ h => h) (Or.inl ⟨by rfl, ?_⟩) ?_ ?_
                          rotate_left
                          · intro w'
                            go_simp
                            with_reducible rfl
                          rotate_left
                          · simp only [Act.put, List.setIfInBounds_toArray, List.set_cons_zero, List.set_cons_succ, i64_w, i32_w]
                            rfl
                          refine pure_ (i := 2) (N := some 28) (v := ?_) (a' := ?_) #[false, true, true, false, false, false] rfl rfl (by kernel_rfl) (fun _ _ _ h => h) (Or.inl ⟨by rfl, ?_⟩) ?_ ?_
                          rotate_left
                          · intro w'
                            go_simp
                            with_reducible rfl
                          rotate_left
                          · simp only [Act.put, List.setIfInBounds_toArray, List.set_cons_zero, List.set_cons_succ, i64_w, i32_w]
                            rfl
                          refine pure_ (i := 3) (N := some 29) (v := ?_) (a' := ?_) #[false, true, true, true, false, false] rfl rfl (by kernel_rfl) (fun _ _ _ h => h) (Or.inl ⟨by rfl, ?_⟩) ?_ ?_
                          rotate_left
                          · intro w'
                            go_simp
                            with_reducible rfl
                          rotate_left
                          · simp only [Act.put, List.setIfInBounds_toArray, List.set_cons_zero, List.set_cons_succ, i64_w, i32_w]
                            rfl
                          refine take_ (i := 0) (N := some 26) (v := ?_) (a' := ?_) #[true, true, true, true, false, false] rfl rfl (by kernel_rfl) (fun _ _ _ h => h) (Or.inl ⟨by rfl, ?_⟩) hHeld ?_ ?_
                          rotate_left
                          · rintro w' ⟨s0, s1, s2, s3, s4, s5, s6, s7, s8, s9, s10, s11⟩
                            go_simp
                            with_reducible rfl
                          rotate_left
                          · simp only [Act.put, List.setIfInBounds_toArray, List.set_cons_zero, List.set_cons_succ, i64_w, i32_w]
                            rfl
                          refine take_ (i := 4) (N := some 30) (v := ?_) (a' := ?_) #[true, true, true, true, true, false] rfl rfl (by kernel_rfl) (fun _ _ _ h => h) (Or.inl ⟨by rfl, ?_⟩) hHeld ?_ ?_
                          rotate_left
                          · rintro w' ⟨s0, s1, s2, s3, s4, s5, s6, s7, s8, s9, s10, s11⟩
                            go_simp
                            with_reducible rfl
                          rotate_left
                          · simp only [Act.put, List.setIfInBounds_toArray, List.set_cons_zero, List.set_cons_succ, i64_w, i32_w]
                            rfl
                          refine one_ (i := 5) (N := some 31) #[true, true, true, true, true, true] rfl rfl (by kernel_rfl) (by decide) (fun K hK => ?_)
                          refine goes_ Try.func59 (by kernel_rfl) rfl #[.agg #[.int .i64 ((rd_T40 l0 x13_1).f0), .int .i64 ((rd_T40 l0 x13_1).f1), .int .i64 ((rd_T40 l0 x13_1).f2), .int .i64 ((rd_T40 l0 x13_1).f3), .int .i64 ((rd_T40 l0 x13_1).f4), .string ((rd_T40 l0 x13_1).f5)], .agg #[.int .i64 ((rd_T40 l0 x6_2).f0), .int .i64 ((rd_T40 l0 x6_2).f1), .int .i64 ((rd_T40 l0 x6_2).f2), .int .i64 ((rd_T40 l0 x6_2).f3), .int .i64 ((rd_T40 l0 x6_2).f4), .string ((rd_T40 l0 x6_2).f5)]] (by rfl) rfl rfl arr_ ?_
                          with_reducible refine (impl_clash.calls ((rd_T40 l0 x13_1).f0) ((rd_T40 l0 x13_1).f1) ((rd_T40 l0 x13_1).f2) ((rd_T40 l0 x13_1).f3) ((rd_T40 l0 x13_1).f4) ((rd_T40 l0 x13_1).f5) ((rd_T40 l0 x6_2).f0) ((rd_T40 l0 x6_2).f1) ((rd_T40 l0 x6_2).f2) ((rd_T40 l0 x6_2).f3) ((rd_T40 l0 x6_2).f4) ((rd_T40 l0 x6_2).f5) true _ A14.out).mono ?_
                          rintro e w18 ⟨rfl, hb⟩
                          refine ⟨_, rfl, ?_⟩
                          have n0_ := Aside0.mk (Kd.R_below (by (with_reducible repeat (first | apply Kd.R_alloc | apply Kd.R_drewN | apply Kd.R_drew)); exact HO_3.out) hb)
                          have n1_ := Aside0.mk (bb_ BK326.out hb)
                          have n2_ := Aside0.mk (below_step (hb1_ HB.out GE326.out) hb)
                          clear HO_3
                          clear BK326
                          clear HB
                          have HO_3 := n0_
                          have BK326 := n1_
                          have HB := n2_
                          clear n0_ n1_ n2_
                          (try clear hb)
                          (try clear hb2)
                          (try clear hk)
                          (try clear hi)
                          refine hK.out _ _ ⟨(blk_cell BK326.out 0).trans rfl, (blk_cell BK326.out 1).trans rfl, (blk_cell BK326.out 2).trans rfl, (blk_cell BK326.out 3).trans rfl, (blk_cell BK326.out 4).trans rfl, (blk_cell BK326.out 5).trans rfl, ((HB.out.cell (World.block_lt_of_cell? w _ hw327_0)).trans hw327_0), ((HB.out.cell (World.block_lt_of_cell? w _ hw327_1)).trans hw327_1), ((HB.out.cell (World.block_lt_of_cell? w _ hw327_2)).trans hw327_2), ((HB.out.cell (World.block_lt_of_cell? w _ hw327_3)).trans hw327_3), ((HB.out.cell (World.block_lt_of_cell? w _ hw327_4)).trans hw327_4), ((HB.out.cell (World.block_lt_of_cell? w _ hw327_5)).trans hw327_5)⟩ (fun hHeld => ?_)
                          clear hK K
                          refine norm_ (a' := ?_) ?_ ?_
                          rotate_left
                          · show Act.put _ (some 31) _ = _
                            simp only [Act.put, List.setIfInBounds_toArray, List.set_cons_zero, List.set_cons_succ, i64_w, i32_w]
                            rfl
                          refine done_ (by kernel_rfl) ?_
                          try go_wp2_with (first | ((with_reducible refine gate_builtin (b := .append) (xs := #[.tmp 32, .tmp 36]) rfl ?_); at_builtin; refine Kd.R_append k57 (w0 := w) w.heap.size rfl (.tmp 32) (.tmp 36) 43 57 (.agg #[(.int .i64 0), (.int .i64 0)]) 16 rfl Try.underlying43 info57 rfl (by decide) (by omega) u3 x3_2 (⟨x13_1, x6_2⟩ : S57) [.int .i64 x13_1, .int .i64 x6_2] (fun _ => True) (fun _ => False) rfl rfl ?aP (fun _ hk => hk.elim) ?aF ?aO ?aB ?aS ?aL ?_; (case aP => exact k57_mkM _ _ _ (⟨x13_1, x6_2⟩ : S57)); (case aB => exact (hb1_ HB.out GE326.out)); (case aF => exact (fun _ _ => trivial)); (case aO => exact (by (with_reducible repeat (first | apply Kd.R_alloc | apply Kd.R_drewN | apply Kd.R_drew)); exact HO_3.out)); (case aS => exact (below_size (hb1_ HB.out GE326.out))); (case aL => have := LMc16.out; omega); intro v330 w19 ho hb hg hat; rw [← Ny329.out] at ho; have n0_ := Aside0.mk (blk_grown (g := gb326) (o := .cells #[.int .i64 ((rd_T40 l0 x13_1).f0), .int .i64 ((rd_T40 l0 x13_1).f1), .int .i64 ((rd_T40 l0 x13_1).f2), .int .i64 ((rd_T40 l0 x13_1).f3), .int .i64 ((rd_T40 l0 x13_1).f4), .string ((rd_T40 l0 x13_1).f5)] 40 (0, 0)) (bk_ BK326.out) hg (Kd.R_ne HO_3.out BK326.out (by decide))); have n1_ := Aside0.mk (hb); have n2_ := Aside0.mk (ho); clear BK326; clear HB; clear HO_3; have BK326 := n0_; have HB := n1_; have HO331 := n2_; clear n0_ n1_ n2_; clear ho hb hg hat))
                          go_roundg k2
                          case measure => have := HK1.out; have := HK2.out; omega
                          case rel => exact ⟨(y329), (wrap64 (x6_2 + 1)), (by first | rfl | (simp; done) | (simp [*]; done)), H', ⟨by have := HK1.out; have := HK2.out; omega⟩, ⟨by (with_reducible repeat (first | apply Kd.R_alloc | apply Kd.R_drewN | apply Kd.R_drew)); exact HO331.out⟩, ⟨bk_ BK326.out⟩, ⟨hb1_ HB.out GE326.out⟩⟩
                        · rw [if_neg c16] at H
                          exact absurd H (by simp)
                      · replace c15 := Bool.eq_false_iff.mpr c15
                        subst c15
                        have H1 : (impl_BusClashes.l1 k2 l0 x3_2 x13_1 (wrap64 (x6_2 + 1)) l0 (l0.length : Int) x13_1 ((rd_T40 l0 x13_1).f0) ((rd_T40 l0 x13_1).f1) ((rd_T40 l0 x13_1).f2) ((rd_T40 l0 x13_1).f3) ((rd_T40 l0 x13_1).f4) ((rd_T40 l0 x13_1).f5)) = some r := by rw [if_neg (show ¬ (false = true) by decide)] at H; exact H
                        clear H
                        have H := H1
                        clear H1
                        have H' := Aside0.mk H
                        clear H
                        try go_wp2
                        have n0_ := Aside0.mk (Kd.R_drew HO_3.out)
                        have n1_ := Aside0.mk (blk_drew BK326.out)
                        have n2_ := Aside0.mk (below_drew1 HB.out)
                        clear HO_3
                        clear BK326
                        clear HB
                        have HO_3 := n0_
                        have BK326 := n1_
                        have HB := n2_
                        clear n0_ n1_ n2_
                        have p327 : 0 ≤ (x6_2 : Int) := of_decide_eq_true (by first | (with_reducible assumption) | assumption)
                        have q327 : x6_2 < (l0.length : Int) := of_decide_eq_true (by first | (with_reducible assumption) | assumption)
                        obtain ⟨ad327, e327, hx327_0, hx327_1, hx327_2, hx327_3, hx327_4, hx327_5⟩ := at_T40 HR0.out x6_2 p327 q327
                        have hw327_5 := hx327_5
                        have hw327_4 := hx327_4
                        have hw327_3 := hx327_3
                        have hw327_2 := hx327_2
                        have hw327_1 := hx327_1
                        have hw327_0 := hx327_0
                        obtain rfl : ad325 = ad327 := (by injection e327)
                        replace hx327_0 := (HB.out.cell (World.block_lt_of_cell? w _ hx327_0)).trans hx327_0
                        replace hx327_1 := (HB.out.cell (World.block_lt_of_cell? w _ hx327_1)).trans hx327_1
                        replace hx327_2 := (HB.out.cell (World.block_lt_of_cell? w _ hx327_2)).trans hx327_2
                        replace hx327_3 := (HB.out.cell (World.block_lt_of_cell? w _ hx327_3)).trans hx327_3
                        replace hx327_4 := (HB.out.cell (World.block_lt_of_cell? w _ hx327_4)).trans hx327_4
                        replace hx327_5 := (HB.out.cell (World.block_lt_of_cell? w _ hx327_5)).trans hx327_5
                        replace p327 := eq_true p327
                        replace q327 := eq_true q327
                        refine start_ (n := 6) (S := fun w' => w'.cell? ⟨gb326, 0, none⟩ = some (.int .i64 ((rd_T40 l0 x13_1).f0)) ∧ w'.cell? ⟨gb326, 1, none⟩ = some (.int .i64 ((rd_T40 l0 x13_1).f1)) ∧ w'.cell? ⟨gb326, 2, none⟩ = some (.int .i64 ((rd_T40 l0 x13_1).f2)) ∧ w'.cell? ⟨gb326, 3, none⟩ = some (.int .i64 ((rd_T40 l0 x13_1).f3)) ∧ w'.cell? ⟨gb326, 4, none⟩ = some (.int .i64 ((rd_T40 l0 x13_1).f4)) ∧ w'.cell? ⟨gb326, 5, none⟩ = some (.string ((rd_T40 l0 x13_1).f5)) ∧ w'.cell? (ad325.add ((x6_2).toNat * 6)) = some (.int .i64 ((rd_T40 l0 x6_2).f0)) ∧ w'.cell? ⟨(ad325.add ((x6_2).toNat * 6)).block, (ad325.add ((x6_2).toNat * 6)).off + 1, none⟩ = some (.int .i64 ((rd_T40 l0 x6_2).f1)) ∧ w'.cell? ⟨(ad325.add ((x6_2).toNat * 6)).block, (ad325.add ((x6_2).toNat * 6)).off + 2, none⟩ = some (.int .i64 ((rd_T40 l0 x6_2).f2)) ∧ w'.cell? ⟨(ad325.add ((x6_2).toNat * 6)).block, (ad325.add ((x6_2).toNat * 6)).off + 3, none⟩ = some (.int .i64 ((rd_T40 l0 x6_2).f3)) ∧ w'.cell? ⟨(ad325.add ((x6_2).toNat * 6)).block, (ad325.add ((x6_2).toNat * 6)).off + 4, none⟩ = some (.int .i64 ((rd_T40 l0 x6_2).f4)) ∧ w'.cell? ⟨(ad325.add ((x6_2).toNat * 6)).block, (ad325.add ((x6_2).toNat * 6)).off + 5, none⟩ = some (.string ((rd_T40 l0 x6_2).f5))) (ds := []) #[false, false, false, false, false, false] (by kernel_rfl) rfl rfl ⟨(blk_cell BK326.out 0).trans rfl, (blk_cell BK326.out 1).trans rfl, (blk_cell BK326.out 2).trans rfl, (blk_cell BK326.out 3).trans rfl, (blk_cell BK326.out 4).trans rfl, (blk_cell BK326.out 5).trans rfl, ((HB.out.cell (World.block_lt_of_cell? w _ hw327_0)).trans hw327_0), ((HB.out.cell (World.block_lt_of_cell? w _ hw327_1)).trans hw327_1), ((HB.out.cell (World.block_lt_of_cell? w _ hw327_2)).trans hw327_2), ((HB.out.cell (World.block_lt_of_cell? w _ hw327_3)).trans hw327_3), ((HB.out.cell (World.block_lt_of_cell? w _ hw327_4)).trans hw327_4), ((HB.out.cell (World.block_lt_of_cell? w _ hw327_5)).trans hw327_5)⟩ (fun hHeld => ?_)
                        generalize wr.drew = w20 at HO_3 BK326 HB hx327_0 hx327_1 hx327_2 hx327_3 hx327_4 hx327_5 hHeld ⊢
                        refine pure_ (i := 1) (N := some 27) (v := ?_) (a' := ?_) #[false, true, false, false, false, false] rfl rfl (by kernel_rfl) (fun _ _ _ h => h) (Or.inl ⟨by rfl, ?_⟩) ?_ ?_
                        rotate_left
                        · intro w'
                          go_simp
                          with_reducible rfl
                        rotate_left
                        · simp only [Act.put, List.setIfInBounds_toArray, List.set_cons_zero, List.set_cons_succ, i64_w, i32_w]
                          rfl
                        refine pure_ (i := 2) (N := some 28) (v := ?_) (a' := ?_) #[false, true, true, false, false, false] rfl rfl (by kernel_rfl) (fun _ _ _ h => h) (Or.inl ⟨by rfl, ?_⟩) ?_ ?_
                        rotate_left
                        · intro w'
                          go_simp
                          with_reducible rfl
                        rotate_left
                        · simp only [Act.put, List.setIfInBounds_toArray, List.set_cons_zero, List.set_cons_succ, i64_w, i32_w]
                          rfl
                        refine pure_ (i := 3) (N := some 29) (v := ?_) (a' := ?_) #[false, true, true, true, false, false] rfl rfl (by kernel_rfl) (fun _ _ _ h => h) (Or.inl ⟨by rfl, ?_⟩) ?_ ?_
                        rotate_left
                        · intro w'
                          go_simp
                          with_reducible rfl
                        rotate_left
                        · simp only [Act.put, List.setIfInBounds_toArray, List.set_cons_zero, List.set_cons_succ, i64_w, i32_w]
                          rfl
                        refine take_ (i := 0) (N := some 26) (v := ?_) (a' := ?_) #[true, true, true, true, false, false] rfl rfl (by kernel_rfl) (fun _ _ _ h => h) (Or.inl ⟨by rfl, ?_⟩) hHeld ?_ ?_
                        rotate_left
                        · rintro w' ⟨s0, s1, s2, s3, s4, s5, s6, s7, s8, s9, s10, s11⟩
                          go_simp
                          with_reducible rfl
                        rotate_left
                        · simp only [Act.put, List.setIfInBounds_toArray, List.set_cons_zero, List.set_cons_succ, i64_w, i32_w]
                          rfl
                        refine take_ (i := 4) (N := some 30) (v := ?_) (a' := ?_) #[true, true, true, true, true, false] rfl rfl (by kernel_rfl) (fun _ _ _ h => h) (Or.inl ⟨by rfl, ?_⟩) hHeld ?_ ?_
                        rotate_left
                        · rintro w' ⟨s0, s1, s2, s3, s4, s5, s6, s7, s8, s9, s10, s11⟩
                          go_simp
                          with_reducible rfl
                        rotate_left
                        · simp only [Act.put, List.setIfInBounds_toArray, List.set_cons_zero, List.set_cons_succ, i64_w, i32_w]
                          rfl
                        refine one_ (i := 5) (N := some 31) #[true, true, true, true, true, true] rfl rfl (by kernel_rfl) (by decide) (fun K hK => ?_)
                        refine goes_ Try.func59 (by kernel_rfl) rfl #[.agg #[.int .i64 ((rd_T40 l0 x13_1).f0), .int .i64 ((rd_T40 l0 x13_1).f1), .int .i64 ((rd_T40 l0 x13_1).f2), .int .i64 ((rd_T40 l0 x13_1).f3), .int .i64 ((rd_T40 l0 x13_1).f4), .string ((rd_T40 l0 x13_1).f5)], .agg #[.int .i64 ((rd_T40 l0 x6_2).f0), .int .i64 ((rd_T40 l0 x6_2).f1), .int .i64 ((rd_T40 l0 x6_2).f2), .int .i64 ((rd_T40 l0 x6_2).f3), .int .i64 ((rd_T40 l0 x6_2).f4), .string ((rd_T40 l0 x6_2).f5)]] (by rfl) rfl rfl arr_ ?_
                        with_reducible refine (impl_clash.calls ((rd_T40 l0 x13_1).f0) ((rd_T40 l0 x13_1).f1) ((rd_T40 l0 x13_1).f2) ((rd_T40 l0 x13_1).f3) ((rd_T40 l0 x13_1).f4) ((rd_T40 l0 x13_1).f5) ((rd_T40 l0 x6_2).f0) ((rd_T40 l0 x6_2).f1) ((rd_T40 l0 x6_2).f2) ((rd_T40 l0 x6_2).f3) ((rd_T40 l0 x6_2).f4) ((rd_T40 l0 x6_2).f5) false _ A14.out).mono ?_
                        rintro e w21 ⟨rfl, hb⟩
                        refine ⟨_, rfl, ?_⟩
                        have n0_ := Aside0.mk (Kd.R_below (by (with_reducible repeat (first | apply Kd.R_alloc | apply Kd.R_drewN | apply Kd.R_drew)); exact HO_3.out) hb)
                        have n1_ := Aside0.mk (bb_ BK326.out hb)
                        have n2_ := Aside0.mk (below_step (hb1_ HB.out GE326.out) hb)
                        clear HO_3
                        clear BK326
                        clear HB
                        have HO_3 := n0_
                        have BK326 := n1_
                        have HB := n2_
                        clear n0_ n1_ n2_
                        (try clear hb)
                        (try clear hb2)
                        (try clear hk)
                        (try clear hi)
                        refine hK.out _ _ ⟨(blk_cell BK326.out 0).trans rfl, (blk_cell BK326.out 1).trans rfl, (blk_cell BK326.out 2).trans rfl, (blk_cell BK326.out 3).trans rfl, (blk_cell BK326.out 4).trans rfl, (blk_cell BK326.out 5).trans rfl, ((HB.out.cell (World.block_lt_of_cell? w _ hw327_0)).trans hw327_0), ((HB.out.cell (World.block_lt_of_cell? w _ hw327_1)).trans hw327_1), ((HB.out.cell (World.block_lt_of_cell? w _ hw327_2)).trans hw327_2), ((HB.out.cell (World.block_lt_of_cell? w _ hw327_3)).trans hw327_3), ((HB.out.cell (World.block_lt_of_cell? w _ hw327_4)).trans hw327_4), ((HB.out.cell (World.block_lt_of_cell? w _ hw327_5)).trans hw327_5)⟩ (fun hHeld => ?_)
                        clear hK K
                        refine norm_ (a' := ?_) ?_ ?_
                        rotate_left
                        · show Act.put _ (some 31) _ = _
                          simp only [Act.put, List.setIfInBounds_toArray, List.set_cons_zero, List.set_cons_succ, i64_w, i32_w]
                          rfl
                        refine done_ (by kernel_rfl) ?_
                        try go_wp2
                        go_roundg k2
                        case measure => have := HK1.out; have := HK2.out; omega
                        case rel => exact ⟨(x3_2), (wrap64 (x6_2 + 1)), (by first | rfl | (simp; done) | (simp [*]; done)), H', ⟨by have := HK1.out; have := HK2.out; omega⟩, ⟨by (with_reducible repeat (first | apply Kd.R_alloc | apply Kd.R_drewN | apply Kd.R_drew)); exact HO_3.out⟩, ⟨bk_ BK326.out⟩, ⟨hb1_ HB.out GE326.out⟩⟩
                    · rw [if_neg c13] at H
                      exact absurd H (by simp)
                  · rw [if_neg c12] at H
                    have c12b0 : decide (x6_2 < (l0.length : Int)) = false := decide_eq_false c12
                    clear c12
                    have H' := Aside0.mk H
                    clear H
                    go_wp2
                    go_roundg k2
                    case measure => have := HK1.out; have := HK2.out; omega
                    case rel => exact ⟨(x3_2), (wrap64 (x13_1 + 1)), (by first | rfl | (simp; done) | (simp [*]; done)), H', ⟨by have := HK1.out; have := HK2.out; omega⟩, ⟨by (with_reducible repeat (first | apply Kd.R_alloc | apply Kd.R_drewN | apply Kd.R_drew)); exact HO_3.out⟩, ⟨hb1_ HB.out GE326.out⟩⟩
            · rw [if_neg c9] at H
              exact absurd H (by simp)
          · rw [if_neg c8] at H
            exact absurd H (by simp)
        · rw [if_neg c7] at H
          have c7b0 : decide (x13_1 < (l0.length : Int)) = false := decide_eq_false c7
          clear c7
          obtain rfl := Option.some.inj H
          go_wp2
          go_ret
          exact ⟨_, er_, by (with_reducible repeat (first | apply Kd.R_alloc | apply Kd.R_drewN | apply Kd.R_drew)); exact HO_3.out, hb_ HB.out⟩
  · replace c3 := Bool.eq_false_iff.mpr c3
    subst c3
    have H1 : (some ([] : List (S57))) = some r := by rw [if_neg (show ¬ (false = true) by decide)] at H; exact H
    clear H
    have H := H1
    clear H1
    obtain rfl := Option.some.inj H
    go_enter Try.func30, Try.ntmps30
    go_wp2_with (first | ((with_reducible refine gate_callee (f := 42) rfl ?_); refine goesL_ (some 8) rfl rfl Try.func42 (by kernel_rfl) rfl #[.slice A0 l0.length c0] rfl arr_ ?_; (with_reducible refine (impl_BusOk.calls k _ _ l0 false _ ?side1 ?side2 A2.out).mono ?_); (case side1 => repeat (first | exact HR0.out | (with_reducible refine Kd.C_alloc ?_ _) | (with_reducible refine Kd.C_drewN ?_ _) | (with_reducible refine Kd.C_drew ?_))); (case side2 => exact HC0.out); rintro e w22 ⟨rfl, hb⟩; refine ⟨_, rfl, ?_⟩; have n0_ := Aside0.mk (below_step (hb_ HB.out) hb); clear HB; have HB := n0_; clear n0_; (try clear hb); (try clear hb2); (try clear hk); (try clear hi)))
    go_ret
    exact ⟨_, er_, by first | exact Kd.R_nil _ _ _ _ _ | exact Kd.N_nil _ _ _ _ _ | exact Kd.V_nil _ _ _ _ _ | exact Kd.Q_nil _ _ _ _ _ | exact Kd.S_nil _ _ _ _ _, hb_ HB.out⟩
end Go.Proofs.Ytnafimhnjgnlcaa.P

namespace Go.Proofs.Ytnafimhnjgnlcaa.C
open Go.RowKit Go.Proofs.Ytnafimhnjgnlcaa.P Go.Proofs.Ytnafimhnjgnlcaa.G Go.Proofs.YtnafimhnjgnlcaaW.PrintWords
abbrev Cl := S57
theorem rdCl (l : List Cl) (i : Nat) (h : i < l.length) : rd_T57 l (i : Int) = l[i] := by
  unfold rd_T57; simp [List.getD, h]
def cl (l : List Fr) (i j : Nat) : Bool := match l[i]?, l[j]? with
  | some x, some y => decide (x.f3 < y.f4) && decide (y.f3 < x.f4)
  | _, _ => false
theorem cl_eq (l : List Fr) (i j : Nat) (hi : i < l.length) (hj : j < l.length) : cl l i j = (decide (l[i].f3 < l[j].f4) && decide (l[j].f3 < l[i].f4)) := by
  unfold cl; rw [List.getElem?_eq_getElem hi, List.getElem?_eq_getElem hj]
def clStep (l : List Fr) (i : Nat) (acc : List Cl) (j : Nat) : List Cl := if cl l i j = true then acc ++ [⟨i, j⟩] else acc
def clRow (l : List Fr) (i : Nat) (acc : List Cl) : List Cl := (List.range' (i + 1) (l.length - (i + 1))).foldl (fun s j => clStep l i s j) acc
theorem clRow_len (l : List Fr) (i : Nat) (acc : List Cl) : (clRow l i acc).length ≤ acc.length + l.length := by
  unfold clRow
  have : ∀ (d j : Nat) (acc : List Cl), ((List.range' j d).foldl (fun s j => clStep l i s j) acc).length ≤ acc.length + d := by
    intro d
    induction d with
    | zero => intro j acc; simp
    | succ d ih =>
      intro j acc
      rw [List.range'_succ, List.foldl_cons]
      have := ih (j + 1) (clStep l i acc j)
      have h2 : (clStep l i acc j).length ≤ acc.length + 1 := by unfold clStep; split <;> simp
      omega
  have := this (l.length - (i + 1)) (i + 1) acc
  omega
def clF (l : List Fr) : Nat → List Cl
  | 0 => []
  | i + 1 => clRow l i (clF l i)
theorem clF_len (l : List Fr) : ∀ i, (clF l i).length ≤ i * l.length := by
  intro i
  induction i with
  | zero => simp [clF]
  | succ i ih => rw [clF]; have := clRow_len l i (clF l i); rw [Nat.succ_mul]; omega
def clashes (l : List Fr) : List Cl := if busOk l = true then clF l l.length else []
theorem clashes_len (l : List Fr) : (clashes l).length ≤ 3600 := by
  unfold clashes; split
  · rename_i h
    have := busOk_len h
    have h2 := clF_len l l.length
    have h3 : l.length * l.length ≤ 60 * 60 := Nat.mul_le_mul this this
    omega
  · simp
theorem clStep_len (l : List Fr) (i j : Nat) (acc : List Cl) : (clStep l i acc j).length ≤ acc.length + 1 := by unfold clStep; split <;> simp
theorem sClashRow {l : List Fr} (hb : l.length ≤ 60) (i : Nat) (hi : i < l.length) (acc : List Cl) (ha : acc.length ≤ 3600) (k : Nat) :
    spec_BusClashes.l1 (k + (l.length - (i + 1)) + 1) l acc (i : Int) ((i + 1 : Nat) : Int) = spec_BusClashes.l0 k l (clRow l i acc) ((i + 1 : Nat) : Int) := by
  refine fold_exact (n := l.length) (L := fun k s j => spec_BusClashes.l1 k l s (i : Int) j) (M := fun k s => spec_BusClashes.l0 k l s ((i + 1 : Nat) : Int)) (st := fun j s => clStep l i s j) (I := fun j s => s.length ≤ 3600 + j) (fun k j s hj hs => ?_) (fun j s hj hs => ?_) (fun k s hs => ?_) (l.length - (i + 1)) (i + 1) acc k (by omega) (by omega)
  · simp only [spec_BusClashes.l1, spec_l15Clash.f]
    rw [if_pos (by omega), if_pos (by omega), if_pos (by omega), if_pos (by omega), wrap_succ hj (by omega), rdFr l i hi, rdFr l j hj]
    unfold clStep
    rw [cl_eq l i j hi hj]
    by_cases h1 : l[i].f3 < l[j].f4
    · rw [if_pos h1, Option.bind_some]
      by_cases h2 : l[j].f3 < l[i].f4
      · rw [decide_eq_true h2, if_pos rfl, if_pos (by omega), decide_eq_true h1, Bool.and_self, if_pos rfl]
      · rw [decide_eq_false h2, if_neg (by decide), Bool.and_false, if_neg (by decide)]
    · rw [if_neg h1, Option.bind_some, if_neg (by decide), decide_eq_false h1, Bool.false_and, if_neg (by decide)]
  · have := clStep_len l i j s; omega
  · simp only [spec_BusClashes.l1]
    rw [if_neg (by omega), wrap_succ hi (by omega)]
theorem sClashes (l : List Fr) (hl : l.length ≤ 1048576) (k : Nat) (hk : 1050000 ≤ k) : spec_BusClashes.f k l = some (clashes l) := by
  unfold spec_BusClashes.f clashes
  rw [Option.bind_some, sBusOk l hl k (by omega), Option.bind_some]
  split
  · rename_i h
    have hb := busOk_len h
    have : ∀ d i k, i + d = l.length → d * 70 < k → spec_BusClashes.l0 k l (clF l i) (i : Int) = some (clF l l.length) := by
      intro d
      induction d with
      | zero =>
        intro i k hi hk
        obtain ⟨k, rfl⟩ : ∃ j, k = j + 1 := ⟨k - 1, by omega⟩
        obtain rfl : i = l.length := by omega
        simp only [spec_BusClashes.l0]
        rw [if_neg (by omega)]
      | succ d ih =>
        intro i k hi hk
        obtain ⟨k, rfl⟩ : ∃ j, k = (j + (l.length - (i + 1)) + 1) + 1 := ⟨k - (l.length - (i + 1)) - 2, by omega⟩
        have hn := clF_len l i
        have h3 : i * l.length ≤ 60 * 60 := Nat.mul_le_mul (by omega) hb
        simp only [spec_BusClashes.l0]
        rw [if_pos (by omega), wrap_succ (show i < l.length by omega) (by omega), sClashRow hb i (by omega) _ (by omega) k]
        exact ih (i + 1) k (by omega) (by omega)
    exact this l.length 0 k (by omega) (by omega)
  · rfl
theorem iClashRow {l : List Fr} (hb : l.length ≤ 60) (i : Nat) (hi : i < l.length) (acc : List Cl) (ha : acc.length ≤ 3600) (k : Nat) :
    impl_BusClashes.l1 (k + (l.length - (i + 1)) + 1) l acc (i : Int) ((i + 1 : Nat) : Int) l (l.length : Int) (i : Int) l[i].f0 l[i].f1 l[i].f2 l[i].f3 l[i].f4 l[i].f5 = impl_BusClashes.l0 k l (clRow l i acc) l (l.length : Int) ((i + 1 : Nat) : Int) := by
  refine fold_exact (n := l.length) (L := fun k s j => impl_BusClashes.l1 k l s (i : Int) j l (l.length : Int) (i : Int) l[i].f0 l[i].f1 l[i].f2 l[i].f3 l[i].f4 l[i].f5) (M := fun k s => impl_BusClashes.l0 k l s l (l.length : Int) ((i + 1 : Nat) : Int)) (st := fun j s => clStep l i s j) (I := fun j s => s.length ≤ 3600 + j) (fun k j s hj hs => ?_) (fun j s hj hs => ?_) (fun k s hs => ?_) (l.length - (i + 1)) (i + 1) acc k (by omega) (by omega)
  · simp only [impl_BusClashes.l1, impl_clash.f]
    rw [if_pos (by omega), if_pos (by omega), wrap_succ hj (by omega), rdFr l j hj]
    unfold clStep
    rw [cl_eq l i j hi hj]
    by_cases h1 : l[i].f3 < l[j].f4
    · rw [if_pos h1, Option.bind_some]
      by_cases h2 : l[j].f3 < l[i].f4
      · rw [decide_eq_true h2, if_pos rfl, if_pos (by omega), decide_eq_true h1, Bool.and_self, if_pos rfl]
      · rw [decide_eq_false h2, if_neg (by decide), Bool.and_false, if_neg (by decide)]
    · rw [if_neg h1, Option.bind_some, if_neg (by decide), decide_eq_false h1, Bool.false_and, if_neg (by decide)]
  · have := clStep_len l i j s; omega
  · simp only [impl_BusClashes.l1]
    rw [if_neg (by omega), wrap_succ hi (by omega)]
theorem iClashes (l : List Fr) (hl : l.length ≤ 1048576) (k : Nat) (hk : 1050000 ≤ k) : impl_BusClashes.f k l = some (clashes l) := by
  unfold impl_BusClashes.f clashes
  rw [iBusOk l hl k (by omega), Option.bind_some]
  split
  · rename_i h
    have hb := busOk_len h
    have : ∀ d i k, i + d = l.length → d * 70 < k → impl_BusClashes.l0 k l (clF l i) l (l.length : Int) (i : Int) = some (clF l l.length) := by
      intro d
      induction d with
      | zero =>
        intro i k hi hk
        obtain ⟨k, rfl⟩ : ∃ j, k = j + 1 := ⟨k - 1, by omega⟩
        obtain rfl : i = l.length := by omega
        simp only [impl_BusClashes.l0]
        rw [if_neg (by omega)]
      | succ d ih =>
        intro i k hi hk
        obtain ⟨k, rfl⟩ : ∃ j, k = (j + (l.length - (i + 1)) + 1) + 1 := ⟨k - (l.length - (i + 1)) - 2, by omega⟩
        have hn := clF_len l i
        have h3 : i * l.length ≤ 60 * 60 := Nat.mul_le_mul (by omega) hb
        simp only [impl_BusClashes.l0]
        rw [if_pos (by omega), if_pos (by omega), if_pos (by omega), wrap_succ (show i < l.length by omega) (by omega), rdFr l i (by omega), iClashRow hb i (by omega) _ (by omega) k]
        exact ih (i + 1) k (by omega) (by omega)
    exact this l.length 0 k (by omega) (by omega)
  · rfl
end Go.Proofs.Ytnafimhnjgnlcaa.C
namespace Go.Proofs.Ytnafimhnjgnlcaa.P
open Go.RowKit Go.Proofs.YtnafimhnjgnlcaaW.PrintWords Go.Proofs.YtnafimhnjgnlcaaW.PrintLast Go.Proofs.YtnafimhnjgnlcaaW.PrintMore
attribute [local go_sem] max2_int min2_int max_two min_two max_three min_three max_four min_four
set_option linter.unusedVariables false
set_option linter.unusedSimpArgs false
def laws_eqClash.f (a0_0 : Int) (a0_1 : Int) (a1_0 : Int) (a1_1 : Int) : Option (Bool) := if a0_0 = a1_0 then (if a0_1 = a1_1 then (some true) else (some false)) else (some false)
set_option maxHeartbeats 8000000 in
set_option maxRecDepth 100000 in
theorem laws_eqClash.calls (a0_0 : Int) (a0_1 : Int) (a1_0 : Int) (a1_1 : Int) (r : Bool) (w : World) (h : laws_eqClash.f a0_0 a0_1 a1_0 a1_1 = some r) :
    Calls Try.prog 60 #[.agg #[.int .i64 a0_0, .int .i64 a0_1], .agg #[.int .i64 a1_0, .int .i64 a1_1]] w fun e w' => e = .returned (.bool r) ∧ Below w.heap.size w w' := by
  have hu57 := Try.underlying57
  have HB := Aside0.mk (Below.refl w.heap.size w)
  have H : (if a0_0 = a1_0 then (if a0_1 = a1_1 then (some true) else (some false)) else (some false)) = some r := h
  clear h
  by_cases c3 : a0_0 = a1_0
  · rw [if_pos c3] at H
    have c3b0 : (a0_0 == a1_0) = true := beq_iff_eq.mpr c3
    have c3b1 : (a0_0 != a1_0) = false := bne_eq_false_iff_eq.mpr c3
    clear c3
    by_cases c4 : a0_1 = a1_1
    · rw [if_pos c4] at H
      have c4b0 : (a0_1 == a1_1) = true := beq_iff_eq.mpr c4
      have c4b1 : (a0_1 != a1_1) = false := bne_eq_false_iff_eq.mpr c4
      clear c4
      obtain rfl := Option.some.inj H
      go_enter Try.func60, Try.ntmps60
      go_wp2_with (first | ((with_reducible refine gate_dst (N := 2) rfl ?_); refine box_event ?hg (N := 2) ?hd (cs := #[.int .i64 a0_0, .int .i64 a0_1]) (t := 57) ?hr ?_; (case hd => rfl); (case hg => rfl); (case hr => first | (go_simp; done) | (go_simp; rfl)); intro gb332 hg w5 hbox hb; have n0_ := Aside0.mk (below_step (hb_ HB.out) hb); have n1_ := Aside0.mk (hbox); have n2_ := Aside0.mk ((by rw [hg]; exact (below_size (hb_ HB.out)) : w.heap.size ≤ gb332)); have n3_ := Aside0.mk ((by rw [hg]; exact (below_size (hb_ HB.out)) : w.heap.size ≤ gb332)); clear HB; have HB := n0_; have BK332 := n1_; have GW332 := n2_; have GE332 := n3_; clear n0_ n1_ n2_ n3_; clear hb hbox hg) | ((with_reducible refine gate_dst (N := 3) rfl ?_); refine box_event ?hg (N := 3) ?hd (cs := #[.int .i64 a1_0, .int .i64 a1_1]) (t := 57) ?hr ?_; (case hd => rfl); (case hg => rfl); (case hr => first | (go_simp; done) | (go_simp; rfl)); intro gb333 hg w6 hbox hb; have n0_ := Aside0.mk (bb_ BK332.out hb); have n1_ := Aside0.mk (below_step (hb1_ HB.out GE332.out) hb); have n2_ := Aside0.mk (hbox); have n3_ := Aside0.mk ((by rw [hg]; exact (below_size (hb1_ HB.out GE332.out)) : w.heap.size ≤ gb333)); have n4_ := Aside0.mk ((by rw [hg]; exact (below_size (hb1_ HB.out GE332.out)) : w.heap.size ≤ gb333)); have n5_ := Aside0.mk ((bl_ hg BK332.out : gb332 ≠ gb333)); have n6_ := Aside0.mk ((bg_ hg BK332.out : gb333 ≠ gb332)); clear BK332; clear HB; have BK332 := n0_; have HB := n1_; have BK333 := n2_; have GW333 := n3_; have GE333 := n4_; have NB332_333 := n5_; have NB333_332 := n6_; clear n0_ n1_ n2_ n3_ n4_ n5_ n6_; clear hb hbox hg; have hnb7 := NB332_333.out; have hnc7 := NB333_332.out; have hcz8_0 := bc_ BK332.out 0 (.int .i64 a0_0) rfl; have hcz8_1 := bc_ BK332.out 1 (.int .i64 a0_1) rfl; have hfz8_0 := blk_frozen BK332.out 0; have hfz8_1 := blk_frozen BK332.out 1; have hcz9_0 := bc_ BK333.out 0 (.int .i64 a1_0) rfl; have hcz9_1 := bc_ BK333.out 1 (.int .i64 a1_1) rfl; have hfz9_0 := blk_frozen BK333.out 0; have hfz9_1 := blk_frozen BK333.out 1))
      go_ret
      exact ⟨er_, hb2_ HB.out GE332.out GE333.out⟩
    · rw [if_neg c4] at H
      have c4b0 : (a0_1 == a1_1) = false := beq_eq_false_iff_ne.mpr c4
      have c4b1 : (a0_1 != a1_1) = true := bne_iff_ne.mpr c4
      obtain rfl := Option.some.inj H
      go_enter Try.func60, Try.ntmps60
      go_wp2_with (first | ((with_reducible refine gate_dst (N := 2) rfl ?_); refine box_event ?hg (N := 2) ?hd (cs := #[.int .i64 a0_0, .int .i64 a0_1]) (t := 57) ?hr ?_; (case hd => rfl); (case hg => rfl); (case hr => first | (go_simp; done) | (go_simp; rfl)); intro gb332 hg w10 hbox hb; have n0_ := Aside0.mk (below_step (hb_ HB.out) hb); have n1_ := Aside0.mk (hbox); have n2_ := Aside0.mk ((by rw [hg]; exact (below_size (hb_ HB.out)) : w.heap.size ≤ gb332)); have n3_ := Aside0.mk ((by rw [hg]; exact (below_size (hb_ HB.out)) : w.heap.size ≤ gb332)); clear HB; have HB := n0_; have BK332 := n1_; have GW332 := n2_; have GE332 := n3_; clear n0_ n1_ n2_ n3_; clear hb hbox hg) | ((with_reducible refine gate_dst (N := 3) rfl ?_); refine box_event ?hg (N := 3) ?hd (cs := #[.int .i64 a1_0, .int .i64 a1_1]) (t := 57) ?hr ?_; (case hd => rfl); (case hg => rfl); (case hr => first | (go_simp; done) | (go_simp; rfl)); intro gb333 hg w11 hbox hb; have n0_ := Aside0.mk (bb_ BK332.out hb); have n1_ := Aside0.mk (below_step (hb1_ HB.out GE332.out) hb); have n2_ := Aside0.mk (hbox); have n3_ := Aside0.mk ((by rw [hg]; exact (below_size (hb1_ HB.out GE332.out)) : w.heap.size ≤ gb333)); have n4_ := Aside0.mk ((by rw [hg]; exact (below_size (hb1_ HB.out GE332.out)) : w.heap.size ≤ gb333)); have n5_ := Aside0.mk ((bl_ hg BK332.out : gb332 ≠ gb333)); have n6_ := Aside0.mk ((bg_ hg BK332.out : gb333 ≠ gb332)); clear BK332; clear HB; have BK332 := n0_; have HB := n1_; have BK333 := n2_; have GW333 := n3_; have GE333 := n4_; have NB332_333 := n5_; have NB333_332 := n6_; clear n0_ n1_ n2_ n3_ n4_ n5_ n6_; clear hb hbox hg; have hnb12 := NB332_333.out; have hnc12 := NB333_332.out; have hcz13_0 := bc_ BK332.out 0 (.int .i64 a0_0) rfl; have hcz13_1 := bc_ BK332.out 1 (.int .i64 a0_1) rfl; have hfz13_0 := blk_frozen BK332.out 0; have hfz13_1 := blk_frozen BK332.out 1; have hcz14_0 := bc_ BK333.out 0 (.int .i64 a1_0) rfl; have hcz14_1 := bc_ BK333.out 1 (.int .i64 a1_1) rfl; have hfz14_0 := blk_frozen BK333.out 0; have hfz14_1 := blk_frozen BK333.out 1))
      go_ret
      exact ⟨er_, hb2_ HB.out GE332.out GE333.out⟩
  · rw [if_neg c3] at H
    have c3b0 : (a0_0 == a1_0) = false := beq_eq_false_iff_ne.mpr c3
    have c3b1 : (a0_0 != a1_0) = true := bne_iff_ne.mpr c3
    obtain rfl := Option.some.inj H
    go_enter Try.func60, Try.ntmps60
    go_wp2_with (first | ((with_reducible refine gate_dst (N := 2) rfl ?_); refine box_event ?hg (N := 2) ?hd (cs := #[.int .i64 a0_0, .int .i64 a0_1]) (t := 57) ?hr ?_; (case hd => rfl); (case hg => rfl); (case hr => first | (go_simp; done) | (go_simp; rfl)); intro gb332 hg w15 hbox hb; have n0_ := Aside0.mk (below_step (hb_ HB.out) hb); have n1_ := Aside0.mk (hbox); have n2_ := Aside0.mk ((by rw [hg]; exact (below_size (hb_ HB.out)) : w.heap.size ≤ gb332)); have n3_ := Aside0.mk ((by rw [hg]; exact (below_size (hb_ HB.out)) : w.heap.size ≤ gb332)); clear HB; have HB := n0_; have BK332 := n1_; have GW332 := n2_; have GE332 := n3_; clear n0_ n1_ n2_ n3_; clear hb hbox hg) | ((with_reducible refine gate_dst (N := 3) rfl ?_); refine box_event ?hg (N := 3) ?hd (cs := #[.int .i64 a1_0, .int .i64 a1_1]) (t := 57) ?hr ?_; (case hd => rfl); (case hg => rfl); (case hr => first | (go_simp; done) | (go_simp; rfl)); intro gb333 hg w16 hbox hb; have n0_ := Aside0.mk (bb_ BK332.out hb); have n1_ := Aside0.mk (below_step (hb1_ HB.out GE332.out) hb); have n2_ := Aside0.mk (hbox); have n3_ := Aside0.mk ((by rw [hg]; exact (below_size (hb1_ HB.out GE332.out)) : w.heap.size ≤ gb333)); have n4_ := Aside0.mk ((by rw [hg]; exact (below_size (hb1_ HB.out GE332.out)) : w.heap.size ≤ gb333)); have n5_ := Aside0.mk ((bl_ hg BK332.out : gb332 ≠ gb333)); have n6_ := Aside0.mk ((bg_ hg BK332.out : gb333 ≠ gb332)); clear BK332; clear HB; have BK332 := n0_; have HB := n1_; have BK333 := n2_; have GW333 := n3_; have GE333 := n4_; have NB332_333 := n5_; have NB333_332 := n6_; clear n0_ n1_ n2_ n3_ n4_ n5_ n6_; clear hb hbox hg; have hnb17 := NB332_333.out; have hnc17 := NB333_332.out; have hcz18_0 := bc_ BK332.out 0 (.int .i64 a0_0) rfl; have hcz18_1 := bc_ BK332.out 1 (.int .i64 a0_1) rfl; have hfz18_0 := blk_frozen BK332.out 0; have hfz18_1 := blk_frozen BK332.out 1; have hcz19_0 := bc_ BK333.out 0 (.int .i64 a1_0) rfl; have hcz19_1 := bc_ BK333.out 1 (.int .i64 a1_1) rfl; have hfz19_0 := blk_frozen BK333.out 0; have hfz19_1 := blk_frozen BK333.out 1))
    go_ret
    exact ⟨er_, hb2_ HB.out GE332.out GE333.out⟩
def laws_eqClashS.l0 : Nat → List (S57) → List (S57) → Int → Option (Bool)
  | 0, _, _, _ => none
  | k + 1, x0, x1, x5 => if x5 < (x0.length : Int) then (if 0 ≤ x5 then (if x5 < (x1.length : Int) then ((laws_eqClash.f ((rd_T57 x0 x5).f0) ((rd_T57 x0 x5).f1) ((rd_T57 x1 x5).f0) ((rd_T57 x1 x5).f1)).bind fun t336 => (if t336 = true then (laws_eqClashS.l0 k x0 x1 (wrap64 (x5 + 1))) else (some false))) else (none)) else (none)) else (some true)
def laws_eqClashS.f (k : Nat) (l0 : List (S57)) (l1 : List (S57)) : Option (Bool) := if (l0.length : Int) = (l1.length : Int) then (laws_eqClashS.l0 k l0 l1 0) else (some false)
theorem laws_eqClashS.mono_l : ∀ k, (∀ y0 y1 y2, LeO (laws_eqClashS.l0 k y0 y1 y2) (laws_eqClashS.l0 (k + 1) y0 y1 y2))
  | 0 => fun _ _ _ r h => by simp [laws_eqClashS.l0] at h
  | k + 1 => by
    have ih0 := laws_eqClashS.mono_l k
    · intro y0 y1 y2
      unfold laws_eqClashS.l0
      repeat' first
      | (with_reducible exact ih0 _ _ _)
      | (with_reducible exact LeO.refl _)
      | (with_reducible exact LeO.none _)
      | (with_reducible refine LeO.ite ?_ ?_)
      | (with_reducible refine LeO.bind ?_ (fun _ => ?_))
      | exact ih0 _ _ _
      | exact LeO.none _
      | refine LeO.ite ?_ ?_
      | refine LeO.bind ?_ (fun _ => ?_)
theorem laws_eqClashS.mono : ∀ a0 a1 k, LeO (laws_eqClashS.f k a0 a1) (laws_eqClashS.f (k + 1) a0 a1) := by
  intro a0 a1 k
  have ih0 := laws_eqClashS.mono_l k
  unfold laws_eqClashS.f
  repeat' first
      | (with_reducible exact ih0 _ _ _)
      | (with_reducible exact LeO.refl _)
      | (with_reducible exact LeO.none _)
      | (with_reducible refine LeO.ite ?_ ?_)
      | (with_reducible refine LeO.bind ?_ (fun _ => ?_))
      | exact ih0 _ _ _
      | exact LeO.none _
      | refine LeO.ite ?_ ?_
      | refine LeO.bind ?_ (fun _ => ?_)
def laws_eqClashS.T6 : Bool × List (List Nat × List Nat) := (true, [([], []), ([], []), ([0, 1], [0, 1]), ([2], [2]), ([], []), ([], []), ([4, 5], [4, 5]), ([6], [6]), ([3, 7], [3, 7]), ([8], [8])])
def laws_eqClashS.B6 : List Nat := [0, 0, 3, 7, 0, 0, 48, 112, 255, 511]
theorem laws_eqClashS.tab6 : rtab .any (opsOf Try.f31 6) = laws_eqClashS.T6 := by kernel_rfl
theorem laws_eqClashS.bits6 : waitsOk laws_eqClashS.T6.2 laws_eqClashS.B6 = true := by kernel_rfl
set_option maxHeartbeats 8000000 in
set_option maxRecDepth 100000 in
theorem laws_eqClashS.calls (k : Nat) (A0 : Option Addr) (c0 : Nat) (l0 : List (S57)) (A1 : Option Addr) (c1 : Nat) (l1 : List (S57)) (r : Bool) (w : World) (hr0 : Kd.C k57 w A0 l0.length l0) (hc0 : l0.length ≤ c0) (hr1 : Kd.C k57 w A1 l1.length l1) (hc1 : l1.length ≤ c1) (h : laws_eqClashS.f k l0 l1 = some r) :
    Calls Try.prog 31 #[.slice A0 l0.length c0, .slice A1 l1.length c1] w fun e w' => e = .returned (.bool r) ∧ Below w.heap.size w w' := by
  have hu57 := Try.underlying57
  have HR0 := Aside0.mk hr0
  have HC0 := Aside0.mk hc0
  clear hr0 hc0
  have HR1 := Aside0.mk hr1
  have HC1 := Aside0.mk hc1
  clear hr1 hc1
  have HB := Aside0.mk (Below.refl w.heap.size w)
  have H : (if (l0.length : Int) = (l1.length : Int) then (laws_eqClashS.l0 k l0 l1 0) else (some false)) = some r := h
  clear h
  by_cases c3 : (l0.length : Int) = (l1.length : Int)
  · rw [if_pos c3] at H
    have c3b0 : ((l0.length : Int) == (l1.length : Int)) = true := beq_iff_eq.mpr c3
    have c3b1 : ((l0.length : Int) != (l1.length : Int)) = false := bne_eq_false_iff_eq.mpr c3
    have c3b2 : (l0.length == l1.length) = true := by first | simpa using c3 | (simp at c3 ⊢; omega)
    clear c3
    have H' := Aside0.mk H
    clear H
    go_enter Try.func31, Try.ntmps31
    go_wp2
    go_loopg [5] k (fun kq v5 w' => ∃ (x5_1 : Int), v5 = .int .i64 x5_1 ∧ Aside0 (laws_eqClashS.l0 kq l0 l1 x5_1 = some r) ∧ Aside0 (kq ≤ k) ∧ Aside0 (Below w.heap.size w w'))
    case atStart => exact ⟨(0), (by first | rfl | (simp; done) | (simp [*]; done)), H', ⟨Nat.le_refl _⟩, ⟨hb_ HB.out⟩⟩
    case round =>
      clear H'
      try clear c1
      try clear p2
      try clear c3
      try clear c3b0
      try clear c3b1
      try clear c3b2
      obtain ⟨x5_1, rfl, HA, HK1, HB⟩ := hrel
      cases gk with
      | zero => exact absurd HA.out (by simp [laws_eqClashS.l0])
      | succ k1 =>
        have H := HA.out
        clear HA
        simp only [laws_eqClashS.l0] at H
        by_cases c4 : x5_1 < (l0.length : Int)
        · rw [if_pos c4] at H
          have c4b0 : decide (x5_1 < (l0.length : Int)) = true := decide_eq_true c4
          clear c4
          by_cases c5 : 0 ≤ x5_1
          · rw [if_pos c5] at H
            have c5b0 : decide (0 ≤ x5_1) = true := decide_eq_true c5
            clear c5
            by_cases c6 : x5_1 < (l1.length : Int)
            · rw [if_pos c6] at H
              have c6b0 : decide (x5_1 < (l1.length : Int)) = true := decide_eq_true c6
              clear c6
              replace H := Option.bind_eq_some_iff.mp H
              obtain ⟨t336, A70, H⟩ := H
              replace H : (if t336 = true then (laws_eqClashS.l0 k1 l0 l1 (wrap64 (x5_1 + 1))) else (some false)) = some r := H
              have A7 := Aside0.mk A70
              clear A70
              by_cases c8 : t336 = true
              · subst c8
                have H1 : (laws_eqClashS.l0 k1 l0 l1 (wrap64 (x5_1 + 1))) = some r := by rw [if_pos rfl] at H; exact H
                clear H
                have H := H1
                clear H1
                have H' := Aside0.mk H
                clear H
                try go_wp2
                have n0_ := Aside0.mk (below_drew1 HB.out)
                clear HB
                have HB := n0_
                clear n0_
                have p334 : 0 ≤ (x5_1 : Int) := of_decide_eq_true (by first | (with_reducible assumption) | assumption)
                have q334 : x5_1 < (l0.length : Int) := of_decide_eq_true (by first | (with_reducible assumption) | assumption)
                obtain ⟨ad334, e334, hx334_0, hx334_1⟩ := at_T57 HR0.out x5_1 p334 q334
                have hw334_1 := hx334_1
                have hw334_0 := hx334_0
                cases e334
                replace hx334_0 := (HB.out.cell (World.block_lt_of_cell? w _ hx334_0)).trans hx334_0
                replace hx334_1 := (HB.out.cell (World.block_lt_of_cell? w _ hx334_1)).trans hx334_1
                replace p334 := eq_true p334
                replace q334 := eq_true q334
                have p335 : 0 ≤ (x5_1 : Int) := of_decide_eq_true (by first | (with_reducible assumption) | assumption)
                have q335 : x5_1 < (l1.length : Int) := of_decide_eq_true (by first | (with_reducible assumption) | assumption)
                obtain ⟨ad335, e335, hx335_0, hx335_1⟩ := at_T57 HR1.out x5_1 p335 q335
                have hw335_1 := hx335_1
                have hw335_0 := hx335_0
                cases e335
                replace hx335_0 := (HB.out.cell (World.block_lt_of_cell? w _ hx335_0)).trans hx335_0
                replace hx335_1 := (HB.out.cell (World.block_lt_of_cell? w _ hx335_1)).trans hx335_1
                replace p335 := eq_true p335
                replace q335 := eq_true q335
                refine start_ (n := 10) (S := fun w' => w'.cell? (ad334.add ((x5_1).toNat * 2)) = some (.int .i64 ((rd_T57 l0 x5_1).f0)) ∧ w'.cell? ⟨(ad334.add ((x5_1).toNat * 2)).block, (ad334.add ((x5_1).toNat * 2)).off + 1, none⟩ = some (.int .i64 ((rd_T57 l0 x5_1).f1)) ∧ w'.cell? (ad335.add ((x5_1).toNat * 2)) = some (.int .i64 ((rd_T57 l1 x5_1).f0)) ∧ w'.cell? ⟨(ad335.add ((x5_1).toNat * 2)).block, (ad335.add ((x5_1).toNat * 2)).off + 1, none⟩ = some (.int .i64 ((rd_T57 l1 x5_1).f1))) (ds := []) #[false, false, false, false, false, false, false, false, false, false] (by kernel_rfl) rfl rfl ⟨((HB.out.cell (World.block_lt_of_cell? w _ hw334_0)).trans hw334_0), ((HB.out.cell (World.block_lt_of_cell? w _ hw334_1)).trans hw334_1), ((HB.out.cell (World.block_lt_of_cell? w _ hw335_0)).trans hw335_0), ((HB.out.cell (World.block_lt_of_cell? w _ hw335_1)).trans hw335_1)⟩ (fun hHeld => ?_); refine with_tabW laws_eqClashS.tab6 laws_eqClashS.bits6 (fun HT_ HW_ => ?_)
                generalize wr.drew = w9 at HB hx334_0 hx334_1 hx335_0 hx335_1 hHeld ⊢
                refine pure_ (i := 0) (N := some 17) (v := ?_) (a' := ?_) #[true, false, false, false, false, false, false, false, false, false] rfl rfl (any_of HT_.out (by kernel_rfl)) (fun _ _ _ h => h) (Or.inl ⟨by rfl, ?_⟩) ?_ ?_
                rotate_left
                · intro w'
                  go_simp
                  with_reducible rfl
                rotate_left
                · simp only [Act.put, List.setIfInBounds_toArray, List.set_cons_zero, List.set_cons_succ, i64_w, i32_w]
                  rfl
                refine pure_ (i := 1) (N := some 18) (v := ?_) (a' := ?_) #[true, true, false, false, false, false, false, false, false, false] rfl rfl (any_of HT_.out (by kernel_rfl)) (fun _ _ _ h => h) (Or.inl ⟨by rfl, ?_⟩) ?_ ?_
                rotate_left
                · intro w'
                  go_simp
                  with_reducible rfl
                rotate_left
                · simp only [Act.put, List.setIfInBounds_toArray, List.set_cons_zero, List.set_cons_succ, i64_w, i32_w]
                  rfl
                refine pure_ (i := 2) (N := some 19) (v := ?_) (a' := ?_) #[true, true, true, false, false, false, false, false, false, false] rfl rfl (any_of HT_.out (by kernel_rfl)) (fun _ _ _ h => h) (Or.inl ⟨by rfl, ?_⟩) ?_ ?_
                rotate_left
                · intro w'
                  go_simp
                  with_reducible rfl
                rotate_left
                · simp only [Act.put, List.setIfInBounds_toArray, List.set_cons_zero, List.set_cons_succ, i64_w, i32_w]
                  rfl
                refine pure_ (i := 4) (N := some 21) (v := ?_) (a' := ?_) #[true, true, true, false, true, false, false, false, false, false] rfl rfl (any_of HT_.out (by kernel_rfl)) (fun _ _ _ h => h) (Or.inl ⟨by rfl, ?_⟩) ?_ ?_
                rotate_left
                · intro w'
                  go_simp
                  with_reducible rfl
                rotate_left
                · simp only [Act.put, List.setIfInBounds_toArray, List.set_cons_zero, List.set_cons_succ, i64_w, i32_w]
                  rfl
                refine pure_ (i := 5) (N := some 22) (v := ?_) (a' := ?_) #[true, true, true, false, true, true, false, false, false, false] rfl rfl (any_of HT_.out (by kernel_rfl)) (fun _ _ _ h => h) (Or.inl ⟨by rfl, ?_⟩) ?_ ?_
                rotate_left
                · intro w'
                  go_simp
                  with_reducible rfl
                rotate_left
                · simp only [Act.put, List.setIfInBounds_toArray, List.set_cons_zero, List.set_cons_succ, i64_w, i32_w]
                  rfl
                refine pure_ (i := 6) (N := some 23) (v := ?_) (a' := ?_) #[true, true, true, false, true, true, true, false, false, false] rfl rfl (any_of HT_.out (by kernel_rfl)) (fun _ _ _ h => h) (Or.inl ⟨by rfl, ?_⟩) ?_ ?_
                rotate_left
                · intro w'
                  go_simp
                  with_reducible rfl
                rotate_left
                · simp only [Act.put, List.setIfInBounds_toArray, List.set_cons_zero, List.set_cons_succ, i64_w, i32_w]
                  rfl
                refine take_ (i := 3) (N := some 20) (v := ?_) (a' := ?_) #[true, true, true, true, true, true, true, false, false, false] rfl rfl (take_ofW HT_.out HW_.out (by kernel_rfl)) (fun _ _ _ h => h) (Or.inl ⟨by rfl, ?_⟩) hHeld ?_ ?_
                rotate_left
                · rintro w' ⟨s0, s1, s2, s3⟩
                  go_simp
                  with_reducible rfl
                rotate_left
                · simp only [Act.put, List.setIfInBounds_toArray, List.set_cons_zero, List.set_cons_succ, i64_w, i32_w]
                  rfl
                refine take_ (i := 7) (N := some 24) (v := ?_) (a' := ?_) #[true, true, true, true, true, true, true, true, false, false] rfl rfl (take_ofW HT_.out HW_.out (by kernel_rfl)) (fun _ _ _ h => h) (Or.inl ⟨by rfl, ?_⟩) hHeld ?_ ?_
                rotate_left
                · rintro w' ⟨s0, s1, s2, s3⟩
                  go_simp
                  with_reducible rfl
                rotate_left
                · simp only [Act.put, List.setIfInBounds_toArray, List.set_cons_zero, List.set_cons_succ, i64_w, i32_w]
                  rfl
                refine one_ (i := 8) (N := some 25) #[true, true, true, true, true, true, true, true, true, false] rfl rfl (one_of HT_.out (by kernel_rfl)) (by decide) (fun K hK => ?_)
                refine goes_ Try.func60 (by kernel_rfl) rfl #[.agg #[.int .i64 ((rd_T57 l0 x5_1).f0), .int .i64 ((rd_T57 l0 x5_1).f1)], .agg #[.int .i64 ((rd_T57 l1 x5_1).f0), .int .i64 ((rd_T57 l1 x5_1).f1)]] (by rfl) rfl rfl arr_ ?_
                with_reducible refine (laws_eqClash.calls ((rd_T57 l0 x5_1).f0) ((rd_T57 l0 x5_1).f1) ((rd_T57 l1 x5_1).f0) ((rd_T57 l1 x5_1).f1) true _ A7.out).mono ?_
                rintro e w10 ⟨rfl, hb⟩
                refine ⟨_, rfl, ?_⟩
                have n0_ := Aside0.mk (below_step (hb_ HB.out) hb)
                clear HB
                have HB := n0_
                clear n0_
                (try clear hb)
                (try clear hb2)
                (try clear hk)
                (try clear hi)
                refine hK.out _ _ ⟨((HB.out.cell (World.block_lt_of_cell? w _ hw334_0)).trans hw334_0), ((HB.out.cell (World.block_lt_of_cell? w _ hw334_1)).trans hw334_1), ((HB.out.cell (World.block_lt_of_cell? w _ hw335_0)).trans hw335_0), ((HB.out.cell (World.block_lt_of_cell? w _ hw335_1)).trans hw335_1)⟩ (fun hHeld => ?_)
                clear hK K
                refine norm_ (a' := ?_) ?_ ?_
                rotate_left
                · show Act.put _ (some 25) _ = _
                  simp only [Act.put, List.setIfInBounds_toArray, List.set_cons_zero, List.set_cons_succ, i64_w, i32_w]
                  rfl
                refine pure_ (i := 9) (N := some 26) (v := ?_) (a' := ?_) #[true, true, true, true, true, true, true, true, true, true] rfl rfl (any_of HT_.out (by kernel_rfl)) (fun _ _ _ h => h) (Or.inl ⟨by rfl, ?_⟩) ?_ ?_
                rotate_left
                · intro w'
                  go_simp
                  with_reducible rfl
                rotate_left
                · simp only [Act.put, List.setIfInBounds_toArray, List.set_cons_zero, List.set_cons_succ, i64_w, i32_w]
                  rfl
                refine done_ (done_of HT_.out (by kernel_rfl)) ?_
                try go_wp2
                go_roundg k1
                case measure => have := HK1.out; omega
                case rel => exact ⟨(wrap64 (x5_1 + 1)), (by first | rfl | (simp; done) | (simp [*]; done)), H', ⟨by have := HK1.out; omega⟩, ⟨hb_ HB.out⟩⟩
              · replace c8 := Bool.eq_false_iff.mpr c8
                subst c8
                have H1 : (some false) = some r := by rw [if_neg (show ¬ (false = true) by decide)] at H; exact H
                clear H
                have H := H1
                clear H1
                obtain rfl := Option.some.inj H
                try go_wp2
                have n0_ := Aside0.mk (below_drew1 HB.out)
                clear HB
                have HB := n0_
                clear n0_
                have p334 : 0 ≤ (x5_1 : Int) := of_decide_eq_true (by first | (with_reducible assumption) | assumption)
                have q334 : x5_1 < (l0.length : Int) := of_decide_eq_true (by first | (with_reducible assumption) | assumption)
                obtain ⟨ad334, e334, hx334_0, hx334_1⟩ := at_T57 HR0.out x5_1 p334 q334
                have hw334_1 := hx334_1
                have hw334_0 := hx334_0
                cases e334
                replace hx334_0 := (HB.out.cell (World.block_lt_of_cell? w _ hx334_0)).trans hx334_0
                replace hx334_1 := (HB.out.cell (World.block_lt_of_cell? w _ hx334_1)).trans hx334_1
                replace p334 := eq_true p334
                replace q334 := eq_true q334
                have p335 : 0 ≤ (x5_1 : Int) := of_decide_eq_true (by first | (with_reducible assumption) | assumption)
                have q335 : x5_1 < (l1.length : Int) := of_decide_eq_true (by first | (with_reducible assumption) | assumption)
                obtain ⟨ad335, e335, hx335_0, hx335_1⟩ := at_T57 HR1.out x5_1 p335 q335
                have hw335_1 := hx335_1
                have hw335_0 := hx335_0
                cases e335
                replace hx335_0 := (HB.out.cell (World.block_lt_of_cell? w _ hx335_0)).trans hx335_0
                replace hx335_1 := (HB.out.cell (World.block_lt_of_cell? w _ hx335_1)).trans hx335_1
                replace p335 := eq_true p335
                replace q335 := eq_true q335
                refine start_ (n := 10) (S := fun w' => w'.cell? (ad334.add ((x5_1).toNat * 2)) = some (.int .i64 ((rd_T57 l0 x5_1).f0)) ∧ w'.cell? ⟨(ad334.add ((x5_1).toNat * 2)).block, (ad334.add ((x5_1).toNat * 2)).off + 1, none⟩ = some (.int .i64 ((rd_T57 l0 x5_1).f1)) ∧ w'.cell? (ad335.add ((x5_1).toNat * 2)) = some (.int .i64 ((rd_T57 l1 x5_1).f0)) ∧ w'.cell? ⟨(ad335.add ((x5_1).toNat * 2)).block, (ad335.add ((x5_1).toNat * 2)).off + 1, none⟩ = some (.int .i64 ((rd_T57 l1 x5_1).f1))) (ds := []) #[false, false, false, false, false, false, false, false, false, false] (by kernel_rfl) rfl rfl ⟨((HB.out.cell (World.block_lt_of_cell? w _ hw334_0)).trans hw334_0), ((HB.out.cell (World.block_lt_of_cell? w _ hw334_1)).trans hw334_1), ((HB.out.cell (World.block_lt_of_cell? w _ hw335_0)).trans hw335_0), ((HB.out.cell (World.block_lt_of_cell? w _ hw335_1)).trans hw335_1)⟩ (fun hHeld => ?_); refine with_tabW laws_eqClashS.tab6 laws_eqClashS.bits6 (fun HT_ HW_ => ?_)
                generalize wr.drew = w11 at HB hx334_0 hx334_1 hx335_0 hx335_1 hHeld ⊢
                refine pure_ (i := 0) (N := some 17) (v := ?_) (a' := ?_) #[true, false, false, false, false, false, false, false, false, false] rfl rfl (any_of HT_.out (by kernel_rfl)) (fun _ _ _ h => h) (Or.inl ⟨by rfl, ?_⟩) ?_ ?_
                rotate_left
                · intro w'
                  go_simp
                  with_reducible rfl
                rotate_left
                · simp only [Act.put, List.setIfInBounds_toArray, List.set_cons_zero, List.set_cons_succ, i64_w, i32_w]
                  rfl
                refine pure_ (i := 1) (N := some 18) (v := ?_) (a' := ?_) #[true, true, false, false, false, false, false, false, false, false] rfl rfl (any_of HT_.out (by kernel_rfl)) (fun _ _ _ h => h) (Or.inl ⟨by rfl, ?_⟩) ?_ ?_
                rotate_left
                · intro w'
                  go_simp
                  with_reducible rfl
                rotate_left
                · simp only [Act.put, List.setIfInBounds_toArray, List.set_cons_zero, List.set_cons_succ, i64_w, i32_w]
                  rfl
                refine pure_ (i := 2) (N := some 19) (v := ?_) (a' := ?_) #[true, true, true, false, false, false, false, false, false, false] rfl rfl (any_of HT_.out (by kernel_rfl)) (fun _ _ _ h => h) (Or.inl ⟨by rfl, ?_⟩) ?_ ?_
                rotate_left
                · intro w'
                  go_simp
                  with_reducible rfl
                rotate_left
                · simp only [Act.put, List.setIfInBounds_toArray, List.set_cons_zero, List.set_cons_succ, i64_w, i32_w]
                  rfl
                refine pure_ (i := 4) (N := some 21) (v := ?_) (a' := ?_) #[true, true, true, false, true, false, false, false, false, false] rfl rfl (any_of HT_.out (by kernel_rfl)) (fun _ _ _ h => h) (Or.inl ⟨by rfl, ?_⟩) ?_ ?_
                rotate_left
                · intro w'
                  go_simp
                  with_reducible rfl
                rotate_left
                · simp only [Act.put, List.setIfInBounds_toArray, List.set_cons_zero, List.set_cons_succ, i64_w, i32_w]
                  rfl
                refine pure_ (i := 5) (N := some 22) (v := ?_) (a' := ?_) #[true, true, true, false, true, true, false, false, false, false] rfl rfl (any_of HT_.out (by kernel_rfl)) (fun _ _ _ h => h) (Or.inl ⟨by rfl, ?_⟩) ?_ ?_
                rotate_left
                · intro w'
                  go_simp
                  with_reducible rfl
                rotate_left
                · simp only [Act.put, List.setIfInBounds_toArray, List.set_cons_zero, List.set_cons_succ, i64_w, i32_w]
                  rfl
                refine pure_ (i := 6) (N := some 23) (v := ?_) (a' := ?_) #[true, true, true, false, true, true, true, false, false, false] rfl rfl (any_of HT_.out (by kernel_rfl)) (fun _ _ _ h => h) (Or.inl ⟨by rfl, ?_⟩) ?_ ?_
                rotate_left
                · intro w'
                  go_simp
                  with_reducible rfl
                rotate_left
                · simp only [Act.put, List.setIfInBounds_toArray, List.set_cons_zero, List.set_cons_succ, i64_w, i32_w]
                  rfl
                refine take_ (i := 3) (N := some 20) (v := ?_) (a' := ?_) #[true, true, true, true, true, true, true, false, false, false] rfl rfl (take_ofW HT_.out HW_.out (by kernel_rfl)) (fun _ _ _ h => h) (Or.inl ⟨by rfl, ?_⟩) hHeld ?_ ?_
                rotate_left
                · rintro w' ⟨s0, s1, s2, s3⟩
                  go_simp
                  with_reducible rfl
                rotate_left
                · simp only [Act.put, List.setIfInBounds_toArray, List.set_cons_zero, List.set_cons_succ, i64_w, i32_w]
                  rfl
                refine take_ (i := 7) (N := some 24) (v := ?_) (a' := ?_) #[true, true, true, true, true, true, true, true, false, false] rfl rfl (take_ofW HT_.out HW_.out (by kernel_rfl)) (fun _ _ _ h => h) (Or.inl ⟨by rfl, ?_⟩) hHeld ?_ ?_
                rotate_left
                · rintro w' ⟨s0, s1, s2, s3⟩
                  go_simp
                  with_reducible rfl
                rotate_left
                · simp only [Act.put, List.setIfInBounds_toArray, List.set_cons_zero, List.set_cons_succ, i64_w, i32_w]
                  rfl
                refine one_ (i := 8) (N := some 25) #[true, true, true, true, true, true, true, true, true, false] rfl rfl (one_of HT_.out (by kernel_rfl)) (by decide) (fun K hK => ?_)
                refine goes_ Try.func60 (by kernel_rfl) rfl #[.agg #[.int .i64 ((rd_T57 l0 x5_1).f0), .int .i64 ((rd_T57 l0 x5_1).f1)], .agg #[.int .i64 ((rd_T57 l1 x5_1).f0), .int .i64 ((rd_T57 l1 x5_1).f1)]] (by rfl) rfl rfl arr_ ?_
                with_reducible refine (laws_eqClash.calls ((rd_T57 l0 x5_1).f0) ((rd_T57 l0 x5_1).f1) ((rd_T57 l1 x5_1).f0) ((rd_T57 l1 x5_1).f1) false _ A7.out).mono ?_
                rintro e w12 ⟨rfl, hb⟩
                refine ⟨_, rfl, ?_⟩
                have n0_ := Aside0.mk (below_step (hb_ HB.out) hb)
                clear HB
                have HB := n0_
                clear n0_
                (try clear hb)
                (try clear hb2)
                (try clear hk)
                (try clear hi)
                refine hK.out _ _ ⟨((HB.out.cell (World.block_lt_of_cell? w _ hw334_0)).trans hw334_0), ((HB.out.cell (World.block_lt_of_cell? w _ hw334_1)).trans hw334_1), ((HB.out.cell (World.block_lt_of_cell? w _ hw335_0)).trans hw335_0), ((HB.out.cell (World.block_lt_of_cell? w _ hw335_1)).trans hw335_1)⟩ (fun hHeld => ?_)
                clear hK K
                refine norm_ (a' := ?_) ?_ ?_
                rotate_left
                · show Act.put _ (some 25) _ = _
                  simp only [Act.put, List.setIfInBounds_toArray, List.set_cons_zero, List.set_cons_succ, i64_w, i32_w]
                  rfl
                refine pure_ (i := 9) (N := some 26) (v := ?_) (a' := ?_) #[true, true, true, true, true, true, true, true, true, true] rfl rfl (any_of HT_.out (by kernel_rfl)) (fun _ _ _ h => h) (Or.inl ⟨by rfl, ?_⟩) ?_ ?_
                rotate_left
                · intro w'
                  go_simp
                  with_reducible rfl
                rotate_left
                · simp only [Act.put, List.setIfInBounds_toArray, List.set_cons_zero, List.set_cons_succ, i64_w, i32_w]
                  rfl
                refine done_ (done_of HT_.out (by kernel_rfl)) ?_
                try go_wp2
                go_ret
                exact ⟨er_, hb_ HB.out⟩
            · rw [if_neg c6] at H
              exact absurd H (by simp)
          · rw [if_neg c5] at H
            exact absurd H (by simp)
        · rw [if_neg c4] at H
          have c4b0 : decide (x5_1 < (l0.length : Int)) = false := decide_eq_false c4
          clear c4
          obtain rfl := Option.some.inj H
          go_wp2
          go_ret
          exact ⟨er_, hb_ HB.out⟩
  · rw [if_neg c3] at H
    have c3b0 : ((l0.length : Int) == (l1.length : Int)) = false := beq_eq_false_iff_ne.mpr c3
    have c3b1 : ((l0.length : Int) != (l1.length : Int)) = true := bne_iff_ne.mpr c3
    have c3b2 : (l0.length == l1.length) = false := by first | simpa using c3 | (simp at c3 ⊢; omega)
    obtain rfl := Option.some.inj H
    go_enter Try.func31, Try.ntmps31
    go_wp2
    go_ret
    exact ⟨er_, hb_ HB.out⟩
def laws_markClashS.l0 : Nat → List (S57) → Int → Int → Option (Int × (List (S57)))
  | 0, _, _, _ => none
  | k + 1, x0, x1, x5 => if x5 < (x0.length : Int) then (if 0 ≤ x5 then ((some (x0.set (x5 : Int).toNat (⟨x1, (rd_T57 x0 x5).f1⟩ : S57) : List (S57))).bind fun y337 => (laws_markClashS.l0 k (y337.set (x5 : Int).toNat (⟨(rd_T57 y337 x5).f0, wrap64 (x1 + 1)⟩ : S57)) (wrap64 ((wrap64 (x1 + 1)) + 1)) (wrap64 (x5 + 1)))) else (none)) else (some (x1, x0))
def laws_markClashS.f (k : Nat) (l0 : List (S57)) (a1 : Int) : Option (Int × (List (S57))) := laws_markClashS.l0 k l0 a1 0
theorem laws_markClashS.mono_l : ∀ k, (∀ y0 y1 y2, LeO (laws_markClashS.l0 k y0 y1 y2) (laws_markClashS.l0 (k + 1) y0 y1 y2))
  | 0 => fun _ _ _ r h => by simp [laws_markClashS.l0] at h
  | k + 1 => by
    have ih0 := laws_markClashS.mono_l k
    · intro y0 y1 y2
      unfold laws_markClashS.l0
      repeat' first
      | (with_reducible exact ih0 _ _ _)
      | (with_reducible exact LeO.refl _)
      | (with_reducible exact LeO.none _)
      | (with_reducible refine LeO.ite ?_ ?_)
      | (with_reducible refine LeO.bind ?_ (fun _ => ?_))
      | exact ih0 _ _ _
      | exact LeO.none _
      | refine LeO.ite ?_ ?_
      | refine LeO.bind ?_ (fun _ => ?_)
theorem laws_markClashS.mono : ∀ a0 a1 k, LeO (laws_markClashS.f k a0 a1) (laws_markClashS.f (k + 1) a0 a1) := by
  intro a0 a1 k
  have ih0 := laws_markClashS.mono_l k
  unfold laws_markClashS.f
  repeat' first
      | (with_reducible exact ih0 _ _ _)
      | (with_reducible exact LeO.refl _)
      | (with_reducible exact LeO.none _)
      | (with_reducible refine LeO.ite ?_ ?_)
      | (with_reducible refine LeO.bind ?_ (fun _ => ?_))
      | exact ih0 _ _ _
      | exact LeO.none _
      | refine LeO.ite ?_ ?_
      | refine LeO.bind ?_ (fun _ => ?_)
set_option maxHeartbeats 8000000 in
set_option maxRecDepth 100000 in
theorem laws_markClashS.calls (k : Nat) (P0_ : Nat → Prop) (u9000_ : Value) (l0 : List (S57)) (a1 : Int) (r1 : Int) (r2 : List (S57)) (w0 w : World) (hB : Below w0.heap.size w0 w) (ho0 : Kd.R k57 57 w w0.heap.size P0_ u9000_ l0) (h : laws_markClashS.f k l0 a1 = some (r1, r2)) :
    Calls Try.prog 32 #[u9000_, .int .i64 a1] w fun e w' => e = .returned (.int .i64 r1) ∧ Kd.R k57 57 w' w0.heap.size (fun k_ => (P0_ k_ ∨ w.heap.size ≤ k_)) u9000_ r2 ∧ Below w0.heap.size w0 w' ∧ Kept w w' (fun k_ => P0_ k_) := by
  have HO0 := Aside0.mk (show Kd.R k57 57 w w0.heap.size (fun k_ => (P0_ k_ ∨ w.heap.size ≤ k_)) u9000_ l0 from Kd.R_mono ho0 (fun k_ hk => (.inl hk)))
  have HK := Aside0.mk (Kept.refl w (fun k_ => P0_ k_))
  have HW0 := Aside0.mk hB.size
  have HB := Aside0.mk hB
  clear hB
  have H : (laws_markClashS.l0 k l0 a1 0) = some (r1, r2) := h
  clear h
  have H' := Aside0.mk H
  clear H
  go_enter Try.func32, Try.ntmps32
  go_wp2
  go_loopg [1, 5] k (fun kq v1 v5 w' => ∃ (x0_1 : List (S57)) (x1_1 : Int) (x5_1 : Int), v1 = .int .i64 x1_1 ∧ v5 = .int .i64 x5_1 ∧ Aside0 (laws_markClashS.l0 kq x0_1 x1_1 x5_1 = some (r1, r2)) ∧ Aside0 (kq ≤ k) ∧ Aside0 (Kd.R k57 57 w' w0.heap.size (fun k_ => (P0_ k_ ∨ w.heap.size ≤ k_)) u9000_ x0_1) ∧ Aside0 (Kept w w' (fun k_ => P0_ k_)) ∧ Aside0 (Below w0.heap.size w0 w'))
  case atStart => exact ⟨(l0), (a1), (0), (by first | rfl | (simp; done) | (simp [*]; done)), (by first | rfl | (simp; done) | (simp [*]; done)), H', ⟨Nat.le_refl _⟩, ⟨by (with_reducible repeat (first | apply Kd.R_alloc | apply Kd.R_drewN | apply Kd.R_drew)); exact HO0.out⟩, ⟨by repeat (first | (with_reducible first | exact HK.out | apply Kept.alloc | apply Kept.drewN | apply Kept.drew) | exact HK.out)⟩, ⟨hb_ HB.out⟩⟩
  case round =>
    clear H'
    try clear p2
    obtain ⟨x0_1, x1_1, x5_1, rfl, rfl, HA, HK1, HO_0, HK, HB⟩ := hrel
    cases gk with
    | zero => exact absurd HA.out (by simp [laws_markClashS.l0])
    | succ k1 =>
      have H := HA.out
      clear HA
      simp only [laws_markClashS.l0] at H
      by_cases c3 : x5_1 < (x0_1.length : Int)
      · rw [if_pos c3] at H
        have c3b0 : decide (x5_1 < (x0_1.length : Int)) = true := decide_eq_true c3
        clear c3
        by_cases c4 : 0 ≤ x5_1
        · rw [if_pos c4] at H
          have c4b0 : decide (0 ≤ x5_1) = true := decide_eq_true c4
          clear c4
          obtain ⟨y337, hy337⟩ : ∃ y_ : List (S57), y_ = (x0_1.set (x5_1 : Int).toNat (⟨x1_1, (rd_T57 x0_1 x5_1).f1⟩ : S57)) := ⟨_, rfl⟩
          replace H : (laws_markClashS.l0 k1 (y337.set (x5_1 : Int).toNat (⟨(rd_T57 y337 x5_1).f0, wrap64 (x1_1 + 1)⟩ : S57)) (wrap64 ((wrap64 (x1_1 + 1)) + 1)) (wrap64 (x5_1 + 1))) = some (r1, r2) := by first | (rw [hy337]; with_reducible exact H) | (have H2_ := (Option.bind_some _ _).symm.trans H; rw [hy337]; with_reducible exact H2_) | (have H2_ := (Option.bind_some _ _).symm.trans H; with_reducible exact H2_) | with_reducible exact H | (rw [hy337]; exact H) | exact H
          have Ny337 := Aside0.mk hy337
          clear hy337
          obtain ⟨y338, hy338⟩ : ∃ y_ : List (S57), y_ = (y337.set (x5_1 : Int).toNat (⟨(rd_T57 y337 x5_1).f0, wrap64 (x1_1 + 1)⟩ : S57)) := ⟨_, rfl⟩
          replace H : (laws_markClashS.l0 k1 y338 (wrap64 ((wrap64 (x1_1 + 1)) + 1)) (wrap64 (x5_1 + 1))) = some (r1, r2) := by first | (rw [hy338]; with_reducible exact H) | (have H2_ := (Option.bind_some _ _).symm.trans H; rw [hy338]; with_reducible exact H2_) | (have H2_ := (Option.bind_some _ _).symm.trans H; with_reducible exact H2_) | with_reducible exact H | (rw [hy338]; exact H) | exact H
          have Ny338 := Aside0.mk hy338
          clear hy338
          have H' := Aside0.mk H
          clear H
          obtain ⟨Ao7, co7, eo7⟩ := Kd.R_slice HO_0.out
          subst eo7
          have p5 : 0 ≤ (x5_1 : Int) := of_decide_eq_true (by first | (with_reducible assumption) | assumption)
          have q5 : (x5_1 : Int) < ((x0_1.length : Int) : Int) := of_decide_eq_true (by first | (with_reducible assumption) | assumption)
          obtain ⟨go5, co5, eo5, gb5, gl5, cl5, HG5⟩ := Kd.R_form HO_0.out (by omega)
          (first | cases eo5 | (injection eo5 with ea_ en_ ec_; (first | subst ea_ | (injection ea_ with ea_; subst ea_)); subst ec_; clear en_))
          have GB5 := Aside0.mk gb5
          have GG5 := Aside0.mk HG5
          clear gb5 gl5 HG5
          have HMgo5 := Aside0.mk (show (P0_ go5 ∨ w.heap.size ≤ go5) from (HO_0.out.1 _ rfl))
          obtain ⟨ce5, hcl5, hM5, hcc5, hfr5⟩ := Kd.R_elem HO_0.out z57 (x5_1 : Int) p5 q5
          obtain rfl := k57_openM hM5
          have hx5_0 : wr.cell? ⟨go5, (x5_1 : Int).toNat * 2, none⟩ = some (.int .i64 ((rd_T57 x0_1 x5_1).f0)) := hcc5 0 _ rfl
          have hx5_1 : wr.cell? ⟨go5, (x5_1 : Int).toNat * 2 + 1, none⟩ = some (.int .i64 ((rd_T57 x0_1 x5_1).f1)) := hcc5 1 _ rfl
          have hf5_0 : wr.frozen? ⟨go5, (x5_1 : Int).toNat * 2, none⟩ = false := hfr5 0
          have hf5_1 : wr.frozen? ⟨go5, (x5_1 : Int).toNat * 2 + 1, none⟩ = false := hfr5 1
          clear hcl5 hcc5 hfr5 hM5
          replace p5 := eq_true p5
          replace q5 := eq_true q5
          have HX8 := Aside0.mk (show Kd.R k57 57 wr w0.heap.size (fun k_ => (P0_ k_ ∨ w.heap.size ≤ k_)) (.slice (some ⟨go5, 0, none⟩) x0_1.length co7) x0_1 from (by (with_reducible repeat (first | apply Kd.R_alloc | apply Kd.R_drewN | apply Kd.R_drew)); exact HO_0.out))
          obtain ⟨ce8, hcl8, hM8, hcc8, hfr8⟩ := Kd.R_elem HX8.out z57 (x5_1 : Int) (of_decide_eq_true (by first | (with_reducible assumption) | assumption)) (by have h_ : (x5_1 : Int) < ((x0_1.length : Int) : Int) := of_decide_eq_true (by first | (with_reducible assumption) | assumption); first | exact h_ | (have e_ := (Kd.R_reads' HO_0.out).1; omega) | simpa using h_)
          obtain rfl := k57_openM hM8
          have HP8 := Kd.R_seg HX8.out (x5_1 : Int) (of_decide_eq_true (by first | (with_reducible assumption) | assumption)) (by have h_ : (x5_1 : Int) < ((x0_1.length : Int) : Int) := of_decide_eq_true (by first | (with_reducible assumption) | assumption); first | exact h_ | (have e_ := (Kd.R_reads' HO_0.out).1; omega) | simpa using h_) (seg := [.int .i64 x1_1]) (j := 0) hcl8 hcc8 (show 1 ≤ 2 from by decide) (x' := (⟨x1_1, (rd_T57 x0_1 x5_1).f1⟩ : S57)) (k57_mkM _ _ _ (⟨x1_1, (rd_T57 x0_1 x5_1).f1⟩ : S57) ) (fun _ hk => hk)
          have hx8_0 := hcc8 0 _ rfl
          (try simp only [show (k57).sz = 2 from rfl, Nat.mul_one, Nat.add_zero] at hx8_0)
          have hf8_0 := hfr8 0
          (try simp only [show (k57).sz = 2 from rfl, Nat.mul_one, Nat.add_zero] at hf8_0)
          clear hcl8 hcc8 hfr8 hM8
          go_wp2_with (first | ((with_reducible refine gate_store (t := 3) (p := 16) rfl ?_); refine store_event (t := 3) (p := 16) (v := ?vo_w9) (w1 := (wr.setCell ⟨go5, (x5_1 : Int).toNat * 2, none⟩ (.int .i64 x1_1))) ?hg ?ho ?hn ?hr ?_; (case ho => rfl); (case hg => rfl); (case hn => rfl); (case hr => first | (go_simp; done) | (go_simp; rfl)); intro w9 hw; have hg : wr.grownBy w9 (some go5) := (by rw [hw]; exact HP8.2); have hp_ : Kd.R k57 57 w9 w0.heap.size (fun k_ => (P0_ k_ ∨ w.heap.size ≤ k_)) (.slice (some ⟨go5, 0, none⟩) x0_1.length co7) y337 := (by rw [hw, Ny337.out]; exact HP8.1); clear HP8; have n0_ := Aside0.mk (hp_); have n1_ := Aside0.mk ((by rw [hw]; exact below_set (HB.out) GB5.out : Below w0.heap.size w0 w9)); have n2_ := Aside0.mk (Kept.of_grown (S := (fun k_ => P0_ k_)) hg (by repeat (first | (with_reducible first | exact HK.out | apply Kept.alloc | apply Kept.drewN | apply Kept.drew) | exact HK.out)) (fun k_ e_ => (HO_0.out.1 k_ e_))); clear HO_0; clear HB; clear HK; have HO_0 := n0_; have HB := n1_; have HK := n2_; clear n0_ n1_ n2_; clear hg hw hp_; have p6 : 0 ≤ (x5_1 : Int) := of_decide_eq_true (by first | (with_reducible assumption) | assumption); have q6 : (x5_1 : Int) < ((x0_1.length : Int) : Int) := of_decide_eq_true (by first | (with_reducible assumption) | assumption); obtain ⟨ce6, hcl6, hM6, hcc6, hfr6⟩ := Kd.R_elem HO_0.out z57 (x5_1 : Int) p6 q6; obtain rfl := k57_openM hM6; have hx6_0 : w9.cell? ⟨go5, (x5_1 : Int).toNat * 2, none⟩ = some (.int .i64 ((rd_T57 y337 x5_1).f0)) := hcc6 0 _ rfl; have hx6_1 : w9.cell? ⟨go5, (x5_1 : Int).toNat * 2 + 1, none⟩ = some (.int .i64 ((rd_T57 y337 x5_1).f1)) := hcc6 1 _ rfl; have hf6_0 : w9.frozen? ⟨go5, (x5_1 : Int).toNat * 2, none⟩ = false := hfr6 0; have hf6_1 : w9.frozen? ⟨go5, (x5_1 : Int).toNat * 2 + 1, none⟩ = false := hfr6 1; clear hcl6 hcc6 hfr6 hM6; replace p6 := eq_true p6; replace q6 := eq_true q6; have HX10 := Aside0.mk (show Kd.R k57 57 w9 w0.heap.size (fun k_ => (P0_ k_ ∨ w.heap.size ≤ k_)) (.slice (some ⟨go5, 0, none⟩) x0_1.length co7) y337 from (by (with_reducible repeat (first | apply Kd.R_alloc | apply Kd.R_drewN | apply Kd.R_drew)); exact HO_0.out)); obtain ⟨ce10, hcl10, hM10, hcc10, hfr10⟩ := Kd.R_elem HX10.out z57 (x5_1 : Int) (of_decide_eq_true (by first | (with_reducible assumption) | assumption)) (by have h_ : (x5_1 : Int) < ((x0_1.length : Int) : Int) := of_decide_eq_true (by first | (with_reducible assumption) | assumption); first | exact h_ | (have e_ := (Kd.R_reads' HO_0.out).1; omega) | simpa using h_); obtain rfl := k57_openM hM10; have HP10 := Kd.R_seg HX10.out (x5_1 : Int) (of_decide_eq_true (by first | (with_reducible assumption) | assumption)) (by have h_ : (x5_1 : Int) < ((x0_1.length : Int) : Int) := of_decide_eq_true (by first | (with_reducible assumption) | assumption); first | exact h_ | (have e_ := (Kd.R_reads' HO_0.out).1; omega) | simpa using h_) (seg := [.int .i64 (wrap64 (x1_1 + 1))]) (j := 1) hcl10 hcc10 (show 2 ≤ 2 from by decide) (x' := (⟨(rd_T57 y337 x5_1).f0, wrap64 (x1_1 + 1)⟩ : S57)) (k57_mkM _ _ _ (⟨(rd_T57 y337 x5_1).f0, wrap64 (x1_1 + 1)⟩ : S57) ) (fun _ hk => hk); have hx10_1 := hcc10 1 _ rfl; (try simp only [show (k57).sz = 2 from rfl, Nat.mul_one, Nat.add_zero] at hx10_1); have hf10_1 := hfr10 1; (try simp only [show (k57).sz = 2 from rfl, Nat.mul_one, Nat.add_zero] at hf10_1); clear hcl10 hcc10 hfr10 hM10) | ((with_reducible refine gate_store (t := 3) (p := 23) rfl ?_); refine store_event (t := 3) (p := 23) (v := ?vo_w11) (w1 := (w9.setCell ⟨go5, (x5_1 : Int).toNat * 2 + 1, none⟩ (.int .i64 (wrap64 (x1_1 + 1))))) ?hg ?ho ?hn ?hr ?_; (case ho => rfl); (case hg => rfl); (case hn => rfl); (case hr => first | (go_simp; done) | (go_simp; rfl)); intro w11 hw; have hg : w9.grownBy w11 (some go5) := (by rw [hw]; exact HP10.2); have hp_ : Kd.R k57 57 w11 w0.heap.size (fun k_ => (P0_ k_ ∨ w.heap.size ≤ k_)) (.slice (some ⟨go5, 0, none⟩) x0_1.length co7) y338 := (by rw [hw, Ny338.out]; exact HP10.1); clear HP10; have n0_ := Aside0.mk (hp_); have n1_ := Aside0.mk ((by rw [hw]; exact below_set (HB.out) GB5.out : Below w0.heap.size w0 w11)); have n2_ := Aside0.mk (Kept.of_grown (S := (fun k_ => P0_ k_)) hg (by repeat (first | (with_reducible first | exact HK.out | apply Kept.alloc | apply Kept.drewN | apply Kept.drew) | exact HK.out)) (fun k_ e_ => (HO_0.out.1 k_ e_))); clear HO_0; clear HB; clear HK; have HO_0 := n0_; have HB := n1_; have HK := n2_; clear n0_ n1_ n2_; clear hg hw hp_))
          go_roundg k1
          case measure => have := HK1.out; omega
          case rel => exact ⟨(y338), (wrap64 ((wrap64 (x1_1 + 1)) + 1)), (wrap64 (x5_1 + 1)), (by first | rfl | (simp; done) | (simp [*]; done)), (by first | rfl | (simp; done) | (simp [*]; done)), H', ⟨by have := HK1.out; omega⟩, ⟨by (with_reducible repeat (first | apply Kd.R_alloc | apply Kd.R_drewN | apply Kd.R_drew)); exact HO_0.out⟩, ⟨by repeat (first | (with_reducible first | exact HK.out | apply Kept.alloc | apply Kept.drewN | apply Kept.drew) | exact HK.out)⟩, ⟨hb_ HB.out⟩⟩
        · rw [if_neg c4] at H
          exact absurd H (by simp)
      · rw [if_neg c3] at H
        have c3b0 : decide (x5_1 < (x0_1.length : Int)) = false := decide_eq_false c3
        clear c3
        simp only [Option.some.injEq, Prod.mk.injEq] at H
        obtain ⟨rfl, rfl⟩ := H
        obtain ⟨Ao12, co12, eo12⟩ := Kd.R_slice HO_0.out
        subst eo12
        go_wp2
        go_ret
        exact ⟨er_, by (with_reducible repeat (first | apply Kd.R_alloc | apply Kd.R_drewN | apply Kd.R_drew)); exact HO_0.out, by repeat (first | (with_reducible first | exact HB.out | apply below_alloc | apply pw_below_drewN | apply below_drew1) | exact HB.out), by repeat (first | (with_reducible first | exact HK.out | apply Kept.alloc | apply Kept.drewN | apply Kept.drew) | exact HK.out)⟩
def laws_heldClashS.l0 : Nat → List (S57) → Int → Int → Option (Int)
  | 0, _, _, _ => none
  | k + 1, x0, x1, x5 => if x5 < (x0.length : Int) then (if 0 ≤ x5 then (if ((rd_T57 x0 x5).f0) = x1 then (if ((rd_T57 x0 x5).f1) = (wrap64 (x1 + 1)) then (laws_heldClashS.l0 k x0 (wrap64 ((wrap64 (x1 + 1)) + 1)) (wrap64 (x5 + 1))) else (some (-1))) else (some (-1))) else (none)) else (some x1)
def laws_heldClashS.f (k : Nat) (l0 : List (S57)) (a1 : Int) : Option (Int) := laws_heldClashS.l0 k l0 a1 0
theorem laws_heldClashS.mono_l : ∀ k, (∀ y0 y1 y2, LeO (laws_heldClashS.l0 k y0 y1 y2) (laws_heldClashS.l0 (k + 1) y0 y1 y2))
  | 0 => fun _ _ _ r h => by simp [laws_heldClashS.l0] at h
  | k + 1 => by
    have ih0 := laws_heldClashS.mono_l k
    · intro y0 y1 y2
      unfold laws_heldClashS.l0
      repeat' first
      | (with_reducible exact ih0 _ _ _)
      | (with_reducible exact LeO.refl _)
      | (with_reducible exact LeO.none _)
      | (with_reducible refine LeO.ite ?_ ?_)
      | (with_reducible refine LeO.bind ?_ (fun _ => ?_))
      | exact ih0 _ _ _
      | exact LeO.none _
      | refine LeO.ite ?_ ?_
      | refine LeO.bind ?_ (fun _ => ?_)
theorem laws_heldClashS.mono : ∀ a0 a1 k, LeO (laws_heldClashS.f k a0 a1) (laws_heldClashS.f (k + 1) a0 a1) := by
  intro a0 a1 k
  have ih0 := laws_heldClashS.mono_l k
  unfold laws_heldClashS.f
  repeat' first
      | (with_reducible exact ih0 _ _ _)
      | (with_reducible exact LeO.refl _)
      | (with_reducible exact LeO.none _)
      | (with_reducible refine LeO.ite ?_ ?_)
      | (with_reducible refine LeO.bind ?_ (fun _ => ?_))
      | exact ih0 _ _ _
      | exact LeO.none _
      | refine LeO.ite ?_ ?_
      | refine LeO.bind ?_ (fun _ => ?_)
set_option maxHeartbeats 8000000 in
set_option maxRecDepth 100000 in
theorem laws_heldClashS.calls (k : Nat) (A0 : Option Addr) (c0 : Nat) (l0 : List (S57)) (a1 : Int) (r : Int) (w : World) (hr0 : Kd.C k57 w A0 l0.length l0) (hc0 : l0.length ≤ c0) (h : laws_heldClashS.f k l0 a1 = some r) :
    Calls Try.prog 33 #[.slice A0 l0.length c0, .int .i64 a1] w fun e w' => e = .returned (.int .i64 r) ∧ Drawn0 w w' := by
  have HR0 := Aside0.mk hr0
  have HC0 := Aside0.mk hc0
  clear hr0 hc0
  have H : (laws_heldClashS.l0 k l0 a1 0) = some r := h
  clear h
  have H' := Aside0.mk H
  clear H
  go_enter Try.func33, Try.ntmps33
  go_wp2
  go_loopg [1, 5] k (fun kq v1 v5 w' => ∃ (x1_1 : Int) (x5_1 : Int), v1 = .int .i64 x1_1 ∧ v5 = .int .i64 x5_1 ∧ Aside0 (laws_heldClashS.l0 kq l0 x1_1 x5_1 = some r) ∧ Aside0 (kq ≤ k) ∧ Drawn0 w w')
  case atStart => exact ⟨(a1), (0), (by first | rfl | (simp; done) | (simp [*]; done)), (by first | rfl | (simp; done) | (simp [*]; done)), H', ⟨Nat.le_refl _⟩, by repeat (first | exact Drawn0.refl _ | apply Drawn0.step)⟩
  case round =>
    clear H'
    try clear p2
    obtain ⟨x1_1, x5_1, rfl, rfl, HA, HK1, ⟨m1, rfl⟩⟩ := hrel
    cases gk with
    | zero => exact absurd HA.out (by simp [laws_heldClashS.l0])
    | succ k1 =>
      have H := HA.out
      clear HA
      simp only [laws_heldClashS.l0] at H
      by_cases c3 : x5_1 < (l0.length : Int)
      · rw [if_pos c3] at H
        have c3b0 : decide (x5_1 < (l0.length : Int)) = true := decide_eq_true c3
        clear c3
        by_cases c4 : 0 ≤ x5_1
        · rw [if_pos c4] at H
          have c4b0 : decide (0 ≤ x5_1) = true := decide_eq_true c4
          clear c4
          by_cases c5 : ((rd_T57 l0 x5_1).f0) = x1_1
          · rw [if_pos c5] at H
            have c5b0 : (((rd_T57 l0 x5_1).f0) == x1_1) = true := beq_iff_eq.mpr c5
            have c5b1 : (((rd_T57 l0 x5_1).f0) != x1_1) = false := bne_eq_false_iff_eq.mpr c5
            clear c5
            by_cases c6 : ((rd_T57 l0 x5_1).f1) = (wrap64 (x1_1 + 1))
            · rw [if_pos c6] at H
              have c6b0 : (((rd_T57 l0 x5_1).f1) == (wrap64 (x1_1 + 1))) = true := beq_iff_eq.mpr c6
              have c6b1 : (((rd_T57 l0 x5_1).f1) != (wrap64 (x1_1 + 1))) = false := bne_eq_false_iff_eq.mpr c6
              clear c6
              have H' := Aside0.mk H
              clear H
              have p339 : 0 ≤ (x5_1 : Int) := of_decide_eq_true (by first | (with_reducible assumption) | assumption)
              have q339 : x5_1 < (l0.length : Int) := of_decide_eq_true (by first | (with_reducible assumption) | assumption)
              obtain ⟨ad339, e339, hx339_0, hx339_1⟩ := at_T57 HR0.out x5_1 p339 q339
              cases e339
              replace p339 := eq_true p339
              replace q339 := eq_true q339
              have p340 : 0 ≤ (x5_1 : Int) := of_decide_eq_true (by first | (with_reducible assumption) | assumption)
              have q340 : x5_1 < (l0.length : Int) := of_decide_eq_true (by first | (with_reducible assumption) | assumption)
              obtain ⟨ad340, e340, hx340_0, hx340_1⟩ := at_T57 HR0.out x5_1 p340 q340
              obtain rfl : ad339 = ad340 := (by injection e340)
              replace p340 := eq_true p340
              replace q340 := eq_true q340
              go_wp2
              go_roundg k1
              case measure => have := HK1.out; omega
              case rel => exact ⟨(wrap64 ((wrap64 (x1_1 + 1)) + 1)), (wrap64 (x5_1 + 1)), (by first | rfl | (simp; done) | (simp [*]; done)), (by first | rfl | (simp; done) | (simp [*]; done)), H', ⟨by have := HK1.out; omega⟩, by repeat (first | exact Drawn0.refl _ | apply Drawn0.step)⟩
            · rw [if_neg c6] at H
              have c6b0 : (((rd_T57 l0 x5_1).f1) == (wrap64 (x1_1 + 1))) = false := beq_eq_false_iff_ne.mpr c6
              have c6b1 : (((rd_T57 l0 x5_1).f1) != (wrap64 (x1_1 + 1))) = true := bne_iff_ne.mpr c6
              obtain rfl := Option.some.inj H
              have p339 : 0 ≤ (x5_1 : Int) := of_decide_eq_true (by first | (with_reducible assumption) | assumption)
              have q339 : x5_1 < (l0.length : Int) := of_decide_eq_true (by first | (with_reducible assumption) | assumption)
              obtain ⟨ad339, e339, hx339_0, hx339_1⟩ := at_T57 HR0.out x5_1 p339 q339
              cases e339
              replace p339 := eq_true p339
              replace q339 := eq_true q339
              have p340 : 0 ≤ (x5_1 : Int) := of_decide_eq_true (by first | (with_reducible assumption) | assumption)
              have q340 : x5_1 < (l0.length : Int) := of_decide_eq_true (by first | (with_reducible assumption) | assumption)
              obtain ⟨ad340, e340, hx340_0, hx340_1⟩ := at_T57 HR0.out x5_1 p340 q340
              obtain rfl : ad339 = ad340 := (by injection e340)
              replace p340 := eq_true p340
              replace q340 := eq_true q340
              go_wp2
              go_ret
              exact ⟨by first | rfl | (simp; done) | (simp [*]; done), by repeat (first | exact Drawn0.refl _ | apply Drawn0.step)⟩
          · rw [if_neg c5] at H
            have c5b0 : (((rd_T57 l0 x5_1).f0) == x1_1) = false := beq_eq_false_iff_ne.mpr c5
            have c5b1 : (((rd_T57 l0 x5_1).f0) != x1_1) = true := bne_iff_ne.mpr c5
            obtain rfl := Option.some.inj H
            have p339 : 0 ≤ (x5_1 : Int) := of_decide_eq_true (by first | (with_reducible assumption) | assumption)
            have q339 : x5_1 < (l0.length : Int) := of_decide_eq_true (by first | (with_reducible assumption) | assumption)
            obtain ⟨ad339, e339, hx339_0, hx339_1⟩ := at_T57 HR0.out x5_1 p339 q339
            cases e339
            replace p339 := eq_true p339
            replace q339 := eq_true q339
            go_wp2
            go_ret
            exact ⟨by first | rfl | (simp; done) | (simp [*]; done), by repeat (first | exact Drawn0.refl _ | apply Drawn0.step)⟩
        · rw [if_neg c4] at H
          exact absurd H (by simp)
      · rw [if_neg c3] at H
        have c3b0 : decide (x5_1 < (l0.length : Int)) = false := decide_eq_false c3
        clear c3
        obtain rfl := Option.some.inj H
        go_wp2
        go_ret
        exact ⟨by first | rfl | (simp; done) | (simp [*]; done), by repeat (first | exact Drawn0.refl _ | apply Drawn0.step)⟩
end Go.Proofs.Ytnafimhnjgnlcaa.P
namespace Go.Proofs.Ytnafimhnjgnlcaa.C
open Go.RowKit Go.Proofs.Ytnafimhnjgnlcaa.P Go.Proofs.Ytnafimhnjgnlcaa.G Go.Proofs.YtnafimhnjgnlcaaW.PrintWords
theorem markIvalS (l : List Iv) (hl : l.length ≤ 2000000) (a : Int) (ha : 0 ≤ a ∧ a ≤ 1000000000) (k : Nat) (hk : l.length < k) : laws_markIvalS.f k l a = some (a + 2 * l.length, (List.range l.length).map fun (i : Nat) => (⟨a + 2 * i, a + 2 * i + 1⟩ : Iv)) := by
  unfold laws_markIvalS.f
  have := mark_loop0 (l := l) (f := fun i => (⟨a + 2 * i, a + 2 * i + 1⟩ : Iv)) (w := fun i => a + 2 * i) (c := 0) (L := fun k acc w i => laws_markIvalS.l0 k acc w i) (fin := fun acc => (a + 2 * l.length, acc)) (fun k i acc hi hacc _ => ?_) (fun k acc hacc => ?_) k (by omega)
  · simp only [Int.natCast_zero, Int.mul_zero, Int.add_zero] at this; exact this
  · simp only [laws_markIvalS.l0, Option.bind_some]
    rw [if_pos (by omega), if_pos (by omega), wrap_succ hi (by omega), Int.toNat_natCast, rdIv (acc.set i _) i (by simp; omega), List.getElem_set_self, List.set_set, wrap_id (x := a + 2 * (i : Int) + 1) (by omega) (by omega), wrap_id (x := a + 2 * (i : Int) + 1 + 1) (by omega) (by omega)]
    congr 1; omega
  · simp only [laws_markIvalS.l0]
    rw [if_neg (by omega)]
theorem heldIvalS (n : Nat) (hn : n ≤ 2000000) (a : Int) (ha : 0 ≤ a ∧ a ≤ 1000000000) (k : Nat) (hk : n < k) : laws_heldIvalS.f k ((List.range n).map fun (i : Nat) => (⟨a + 2 * i, a + 2 * i + 1⟩ : Iv)) a = some (a + 2 * n) := by
  unfold laws_heldIvalS.f
  have hlen : ((List.range n).map fun (i : Nat) => (⟨a + 2 * (i : Int), a + 2 * i + 1⟩ : Iv)).length = n := by simp
  have := track_loop0 (n := n) (c := 0) (L := fun k s i => laws_heldIvalS.l0 k ((List.range n).map fun (i : Nat) => (⟨a + 2 * (i : Int), a + 2 * i + 1⟩ : Iv)) s i) (F := fun i => a + 2 * (i : Int)) (r := a + 2 * n) (fun k i hi _ => ?_) (fun k _ => ?_) k (by omega)
  · simp only [Int.natCast_zero, Int.mul_zero, Int.add_zero] at this; exact this
  · simp only [laws_heldIvalS.l0]
    rw [if_pos (by omega), if_pos (by omega), rdIv _ i (by omega), wrap_succ hi (by omega), wrap_id (x := a + 2 * (i : Int) + 1) (by omega) (by omega), wrap_id (x := a + 2 * (i : Int) + 1 + 1) (by omega) (by omega), if_pos (by simp), if_pos (by simp)]
    congr 1; omega
  · simp only [laws_heldIvalS.l0]
    rw [if_neg (by omega)]
theorem eqIvalS (l : List Iv) (hl : l.length ≤ 2000000) (k : Nat) (hk : l.length < k) : laws_eqIvalS.f k l l = some true := by
  unfold laws_eqIvalS.f
  rw [if_pos rfl]
  refine all_loopT (n := l.length) (L := fun k i => laws_eqIvalS.l0 k l l i) (fun k i hi => ?_) (fun k => ?_) k hk
  · simp only [laws_eqIvalS.l0, laws_eqIval.f]
    rw [if_pos (by omega), if_pos (by omega), if_pos (by omega), wrap_succ hi (by omega)]
    simp
  · simp only [laws_eqIvalS.l0]
    rw [if_neg (by omega)]
theorem markClashS (l : List Cl) (hl : l.length ≤ 2000000) (a : Int) (ha : 0 ≤ a ∧ a ≤ 1000000000) (k : Nat) (hk : l.length < k) : laws_markClashS.f k l a = some (a + 2 * l.length, (List.range l.length).map fun (i : Nat) => (⟨a + 2 * i, a + 2 * i + 1⟩ : Cl)) := by
  unfold laws_markClashS.f
  have := mark_loop0 (l := l) (f := fun i => (⟨a + 2 * i, a + 2 * i + 1⟩ : Cl)) (w := fun i => a + 2 * i) (c := 0) (L := fun k acc w i => laws_markClashS.l0 k acc w i) (fin := fun acc => (a + 2 * l.length, acc)) (fun k i acc hi hacc _ => ?_) (fun k acc hacc => ?_) k (by omega)
  · simp only [Int.natCast_zero, Int.mul_zero, Int.add_zero] at this; exact this
  · simp only [laws_markClashS.l0, Option.bind_some]
    rw [if_pos (by omega), if_pos (by omega), wrap_succ hi (by omega), Int.toNat_natCast, rdCl (acc.set i _) i (by simp; omega), List.getElem_set_self, List.set_set, wrap_id (x := a + 2 * (i : Int) + 1) (by omega) (by omega), wrap_id (x := a + 2 * (i : Int) + 1 + 1) (by omega) (by omega)]
    congr 1; omega
  · simp only [laws_markClashS.l0]
    rw [if_neg (by omega)]
theorem heldClashS (n : Nat) (hn : n ≤ 2000000) (a : Int) (ha : 0 ≤ a ∧ a ≤ 1000000000) (k : Nat) (hk : n < k) : laws_heldClashS.f k ((List.range n).map fun (i : Nat) => (⟨a + 2 * i, a + 2 * i + 1⟩ : Cl)) a = some (a + 2 * n) := by
  unfold laws_heldClashS.f
  have hlen : ((List.range n).map fun (i : Nat) => (⟨a + 2 * (i : Int), a + 2 * i + 1⟩ : Cl)).length = n := by simp
  have := track_loop0 (n := n) (c := 0) (L := fun k s i => laws_heldClashS.l0 k ((List.range n).map fun (i : Nat) => (⟨a + 2 * (i : Int), a + 2 * i + 1⟩ : Cl)) s i) (F := fun i => a + 2 * (i : Int)) (r := a + 2 * n) (fun k i hi _ => ?_) (fun k _ => ?_) k (by omega)
  · simp only [Int.natCast_zero, Int.mul_zero, Int.add_zero] at this; exact this
  · simp only [laws_heldClashS.l0]
    rw [if_pos (by omega), if_pos (by omega), rdCl _ i (by omega), wrap_succ hi (by omega), wrap_id (x := a + 2 * (i : Int) + 1) (by omega) (by omega), wrap_id (x := a + 2 * (i : Int) + 1 + 1) (by omega) (by omega), if_pos (by simp), if_pos (by simp)]
    congr 1; omega
  · simp only [laws_heldClashS.l0]
    rw [if_neg (by omega)]
theorem eqClashS (l : List Cl) (hl : l.length ≤ 2000000) (k : Nat) (hk : l.length < k) : laws_eqClashS.f k l l = some true := by
  unfold laws_eqClashS.f
  rw [if_pos rfl]
  refine all_loopT (n := l.length) (L := fun k i => laws_eqClashS.l0 k l l i) (fun k i hi => ?_) (fun k => ?_) k hk
  · simp only [laws_eqClashS.l0, laws_eqClash.f]
    rw [if_pos (by omega), if_pos (by omega), if_pos (by omega), wrap_succ hi (by omega)]
    simp
  · simp only [laws_eqClashS.l0]
    rw [if_neg (by omega)]
end Go.Proofs.Ytnafimhnjgnlcaa.C
namespace Go.Proofs.Ytnafimhnjgnlcaa.V
open Go.RowKit Go.Proofs.Ytnafimhnjgnlcaa.P Go.Proofs.Ytnafimhnjgnlcaa.C Go.Proofs.Ytnafimhnjgnlcaa.G
theorem FnExactBusQuiet : ∀ (l0 : List (S36)) (a1 : Int) (a2 : Int), (l0.length ≤ 9223372036854775807 ∧ ∀ y ∈ l0, ((Lit.int .i64 y.f0).wf = true ∧ (Lit.int .i64 y.f1).wf = true ∧ (Lit.int .i64 y.f2).wf = true ∧ (Lit.int .i64 y.f3).wf = true ∧ (Lit.int .i64 y.f4).wf = true ∧ y.f5.size ≤ 9223372036854775807)) → (Lit.int .i64 a1).wf = true → (Lit.int .i64 a2).wf = true → ∃ k, laws_FnExactBusQuiet.f k l0 a1 a2 = some true := by
  intro l a b ⟨hl, hb⟩ _ _
  refine ⟨2200100, ?_⟩
  unfold laws_FnExactBusQuiet.f
  obtain ⟨r, h, hr⟩ := szFrameS l hl (fun y hy => (hb y hy).2.2.2.2.2) 1048576 (by omega) 2200100 (by omega)
  rw [h, Option.bind_some]
  by_cases h2 : r < 0
  · rw [if_pos h2]
  rw [if_neg h2]
  have hm : (l.map toFr).length = l.length := by simp
  have hq : (quietOf (l.map toFr) a b).length ≤ 1048577 := by
    unfold quietOf; split
    · have := quiet_len (l.map toFr) a b; omega
    · simp
  have hj : ∀ k, 2200000 ≤ k → laws_FnExactBusQuiet.j0 k l a b (quietOf (l.map toFr) a b) (quietOf (l.map toFr) a b) false = some true := by
    intro k hk
    obtain ⟨k, rfl⟩ : ∃ j, k = j + 1 := ⟨k - 1, by omega⟩
    simp only [laws_FnExactBusQuiet.j0]
    rw [if_neg (by decide), markIvalS _ (by omega) 1 (by omega) k (by omega)]
    simp only [Option.bind_some]
    rw [heldIvalS _ (by omega) 1 (by omega) k (by omega)]
    simp only [Option.bind_some]
    rw [if_neg (by omega), if_pos trivial, toFrameS l (by omega) k (by omega)]
    simp only [Option.bind_some]
    rw [iBusQuiet _ (by omega) _ _ k (by omega)]
    simp only [Option.bind_some]
    rw [eqIvalS _ (by omega) k (by omega)]
    simp only [Option.bind_some]
    rw [if_pos (by trivial), if_neg (by omega), if_pos (by trivial)]
  rw [toFrameS l (by omega) _ (by omega)]
  simp only [Option.bind_some]
  rw [sQuiet _ (by omega) _ _ _ (by omega), iBusQuiet _ (by omega) _ _ _ (by omega)]
  simp only [Option.bind_some]
  rw [eqIvalS _ (by omega) _ (by omega), eqFrameS _ (by omega) _ (by omega)]
  simp only [Option.bind_some, if_true]
  rw [markFrameS _ (by omega) 1 (by omega) _ (by omega)]
  simp only [Option.bind_some, Bool.not_true]
  rw [if_neg (by omega)]
  exact hj _ (by omega)
end Go.Proofs.Ytnafimhnjgnlcaa.V
