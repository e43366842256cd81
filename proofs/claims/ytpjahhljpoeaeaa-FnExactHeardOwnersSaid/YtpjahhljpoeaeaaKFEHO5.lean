/- Texts of the seat's proofs, part 5: functions of the program told as plain functions, with their contracts, and what is shown of them. No condition. -/
import Derived.Test.YtpjahhljpoeaeaaUKFEHO
import Derived.Test.YtpjahhljpoeaeaaKFEHO1
import Derived.Test.YtpjahhljpoeaeaaKFEHO3
import Derived.Test.YtpjahhljpoeaeaaKFEHO4
import Derived.Test.YtpjahhljpoeaeaaKFEHO2
set_option linter.unusedVariables false
set_option linter.unusedSimpArgs false
namespace Go.Proofs.Ytpjahhljpoeaeaa.P
open Go.RowKit Go.Proofs.YtpjahhljpoeaeaaW.PrintWords Go.Proofs.YtpjahhljpoeaeaaW.PrintLast Go.Proofs.YtpjahhljpoeaeaaW.PrintMore
attribute [local go_sem] max2_int min2_int max_two min_two max_three min_three max_four min_four
set_option linter.unusedVariables false
set_option linter.unusedSimpArgs false
mutual
def impl_HeardOwners.j0 : Nat → List (S81) → Bool → Int → Int → List (S79) → Option (List Int)
  | 0, _, _, _, _, _ => none
  | k + 1, x0, x15, x493000, x493001, x493002 => if x15 = true then (some ([] : List Int)) else ((impl_slotsOf.f k x0).bind fun t498 => (impl_HeardOwners.l0 k (([] : List Int)) t498 (t498.length : Int) 0 x493000 x493001 x493002))
def impl_HeardOwners.l0 : Nat → List Int → List Int → Int → Int → Int → Int → List (S79) → Option (List Int)
  | 0, _, _, _, _, _, _, _ => none
  | k + 1, x5, x18, x19, x20, x493000, x493001, x493002 => if x20 < x19 then (if 0 ≤ x20 then (if x20 < (x18.length : Int) then (if (rd x18 x20) < (x493002.length : Int) then (if 0 ≤ (rd x18 x20) then (if x5.length < 17592186044416 then (impl_HeardOwners.l0 k (x5 ++ [(rd_T79 x493002 (rd x18 x20)).f0]) x18 x19 (wrap64 (x20 + 1)) x493000 x493001 x493002) else (none)) else (none)) else (impl_HeardOwners.l0 k x5 x18 x19 (wrap64 (x20 + 1)) x493000 x493001 x493002)) else (none)) else (none)) else ((slices_Sort_int.f k x5).bind fun t506 => ((slices_Compact_int.f t506).bind fun t507 => (some t507)))
end
def impl_HeardOwners.f (k : Nat) (l0 : List (S81)) (a1_0 : Int) (a1_1 : Int) (l1_2 : List (S79)) : Option (List Int) := (impl_HeardOk.f k l0).bind fun t493 => (if t493 = true then ((impl_PlanOk.f k a1_0 a1_1 l1_2).bind fun t494 => (impl_HeardOwners.j0 k l0 (!t494) a1_0 a1_1 l1_2)) else (impl_HeardOwners.j0 k l0 true a1_0 a1_1 l1_2))
set_option maxHeartbeats 8000000 in
set_option maxRecDepth 100000 in
theorem impl_HeardOwners.calls (k : Nat) (A0 : Option Addr) (c0 : Nat) (l0 : List (S81)) (a1_0 : Int) (a1_1 : Int) (A1_2 : Option Addr) (c1_2 : Nat) (l1_2 : List (S79)) (r : List Int) (w : World) (hr0 : Kd.C k81 w A0 l0.length l0) (hc0 : l0.length ≤ c0) (hr1_2 : Kd.C k79 w A1_2 l1_2.length l1_2) (hc1_2 : l1_2.length ≤ c1_2) (h : impl_HeardOwners.f k l0 a1_0 a1_1 l1_2 = some r) :
    Calls Try.prog 22 #[.slice A0 l0.length c0, .agg #[.int .i64 a1_0, .int .i64 a1_1, .slice A1_2 l1_2.length c1_2]] w fun e w' => ∃ v0_ : Value, e = .returned (v0_) ∧ Kd.R (Kd.int .i64) 3 w' w.heap.size (fun _ => True) v0_ r ∧ Below w.heap.size w w' := by
  have hu39 := Try.underlying39
  have HR0 := Aside0.mk hr0
  have HC0 := Aside0.mk hc0
  clear hr0 hc0
  have HR1_2 := Aside0.mk hr1_2
  have HC1_2 := Aside0.mk hc1_2
  clear hr1_2 hc1_2
  have HB := Aside0.mk (Below.refl w.heap.size w)
  have H : ((impl_HeardOk.f k l0).bind fun t493 => (if t493 = true then ((impl_PlanOk.f k a1_0 a1_1 l1_2).bind fun t494 => (impl_HeardOwners.j0 k l0 (!t494) a1_0 a1_1 l1_2)) else (impl_HeardOwners.j0 k l0 true a1_0 a1_1 l1_2))) = some r := h
  clear h
  have HC3 := Aside0.mk H
  clear H
  go_enter Try.func22, Try.ntmps22
  go_upto_region 1 with (first | ((with_reducible refine gate_dst (N := 3) rfl ?_); refine box_event ?hg (N := 3) ?hd (cs := #[.int .i64 a1_0, .int .i64 a1_1, .slice A1_2 l1_2.length c1_2]) (t := 39) ?hr ?_; (case hd => rfl); (case hg => rfl); (case hr => first | (go_simp; done) | (go_simp; rfl)); intro gb492 hg w4 hbox hb; have n0_ := Aside0.mk (below_step (hb_ HB.out) hb); have n1_ := Aside0.mk (hbox); have n2_ := Aside0.mk ((by rw [hg]; exact (below_size (hb_ HB.out)) : w.heap.size ≤ gb492)); have n3_ := Aside0.mk ((by rw [hg]; exact (below_size (hb_ HB.out)) : w.heap.size ≤ gb492)); clear HB; have HB := n0_; have BK492 := n1_; have GW492 := n2_; have GE492 := n3_; clear n0_ n1_ n2_ n3_; clear hb hbox hg))
  (try simp only [Act.put, List.setIfInBounds_toArray, List.set_cons_zero, List.set_cons_succ])
  go_cut [15] (fun v15 wc => ∃ (kq : Nat) (x15_2 : Bool), v15 = .bool x15_2 ∧ Aside0 (impl_HeardOwners.j0 kq l0 x15_2 a1_0 a1_1 l1_2 = some r) ∧ Aside0 (kq ≤ k) ∧ Aside0 (wc.heap[gb492]? = some (.cells #[.int .i64 a1_0, .int .i64 a1_1, (.slice A1_2 l1_2.length c1_2)] 39 (0, 0))) ∧ Aside0 (Below w.heap.size w wc))
  case first =>
    have H := HC3.out
    clear HC3
    replace H := Option.bind_eq_some_iff.mp H
    obtain ⟨t493, A50, H⟩ := H
    replace H : (if t493 = true then ((impl_PlanOk.f k a1_0 a1_1 l1_2).bind fun t494 => (impl_HeardOwners.j0 k l0 (!t494) a1_0 a1_1 l1_2)) else (impl_HeardOwners.j0 k l0 true a1_0 a1_1 l1_2)) = some r := H
    have A5 := Aside0.mk A50
    clear A50
    by_cases c6 : t493 = true
    · subst c6
      have H1 : ((impl_PlanOk.f k a1_0 a1_1 l1_2).bind fun t494 => (impl_HeardOwners.j0 k l0 (!t494) a1_0 a1_1 l1_2)) = some r := by rw [if_pos rfl] at H; exact H
      clear H
      have H := H1
      clear H1
      replace H := Option.bind_eq_some_iff.mp H
      obtain ⟨t494, A70, H⟩ := H
      replace H : (impl_HeardOwners.j0 k l0 (!t494) a1_0 a1_1 l1_2) = some r := H
      have A7 := Aside0.mk A70
      clear A70
      have H' := Aside0.mk H
      clear H
      go_wp2_with (first | ((with_reducible refine gate_callee (f := 47) rfl ?_); refine goesL_ (some 9) rfl rfl Try.func47 (by kernel_rfl) rfl #[.slice A0 l0.length c0] rfl arr_ ?_; (with_reducible refine (impl_HeardOk.calls k _ _ l0 true _ ?side1 ?side2 A5.out).mono ?_); (case side1 => exact kc_ (Kd.C_below HR0.out HB.out)); (case side2 => exact HC0.out); rintro e w8 ⟨rfl, hb⟩; refine ⟨_, rfl, ?_⟩; have n0_ := Aside0.mk (bb_ BK492.out hb); have n1_ := Aside0.mk (below_step (hb1_ HB.out GE492.out) hb); clear BK492; clear HB; have BK492 := n0_; have HB := n1_; clear n0_ n1_; (try clear hb); (try clear hb2); (try clear hk); (try clear hi); have hcz9_0 := bc_ BK492.out 0 (.int .i64 a1_0) rfl; have hcz9_1 := bc_ BK492.out 1 (.int .i64 a1_1) rfl; have hcz9_2 := bc_ BK492.out 2 (.slice A1_2 l1_2.length c1_2) rfl; have hfz9_0 := blk_frozen BK492.out 0; have hfz9_1 := blk_frozen BK492.out 1; have hfz9_2 := blk_frozen BK492.out 2) | (go_at_call 48; (with_reducible refine (impl_PlanOk.calls k a1_0 a1_1 _ _ l1_2 t494 _ ?side1 ?side2 A7.out).mono ?_); (case side1 => exact kc_ (Kd.C_below HR1_2.out HB.out)); (case side2 => exact HC1_2.out); rintro e w10 ⟨rfl, hb⟩; have n0_ := Aside0.mk (bb_ BK492.out hb); have n1_ := Aside0.mk (below_step (hb1_ HB.out GE492.out) hb); clear BK492; clear HB; have BK492 := n0_; have HB := n1_; clear n0_ n1_; (try clear hb); (try clear hb2); (try clear hk); (try clear hi)))
      go_meet
      case rel => exact ⟨_, (!t494), (by first | rfl | (simp; done) | (simp [*]; done)), H', ⟨by first | omega | exact Nat.le_refl _⟩, ⟨bk_ BK492.out⟩, ⟨hb1_ HB.out GE492.out⟩⟩
    · replace c6 := Bool.eq_false_iff.mpr c6
      subst c6
      have H1 : (impl_HeardOwners.j0 k l0 true a1_0 a1_1 l1_2) = some r := by rw [if_neg (show ¬ (false = true) by decide)] at H; exact H
      clear H
      have H := H1
      clear H1
      have H' := Aside0.mk H
      clear H
      go_wp2_with (first | ((with_reducible refine gate_callee (f := 47) rfl ?_); refine goesL_ (some 9) rfl rfl Try.func47 (by kernel_rfl) rfl #[.slice A0 l0.length c0] rfl arr_ ?_; (with_reducible refine (impl_HeardOk.calls k _ _ l0 false _ ?side1 ?side2 A5.out).mono ?_); (case side1 => exact kc_ (Kd.C_below HR0.out HB.out)); (case side2 => exact HC0.out); rintro e w11 ⟨rfl, hb⟩; refine ⟨_, rfl, ?_⟩; have n0_ := Aside0.mk (bb_ BK492.out hb); have n1_ := Aside0.mk (below_step (hb1_ HB.out GE492.out) hb); clear BK492; clear HB; have BK492 := n0_; have HB := n1_; clear n0_ n1_; (try clear hb); (try clear hb2); (try clear hk); (try clear hi)))
      go_meet
      case rel => exact ⟨_, (true), (by first | rfl | (simp; done) | (simp [*]; done)), H', ⟨by first | omega | exact Nat.le_refl _⟩, ⟨bk_ BK492.out⟩, ⟨hb1_ HB.out GE492.out⟩⟩
  case rest =>
    clear HC3
    try clear c1
    try clear c2
    try clear p2
    try clear c4
    try clear c6
    try clear hcz9_0
    try clear hcz9_1
    try clear hcz9_2
    try clear hfz9_0
    try clear hfz9_1
    try clear hfz9_2
    obtain ⟨kq, x15_2, rfl, HA, HJ2, BK492, HB⟩ := hcut
    cases kq with
    | zero => exact absurd HA.out (by simp [impl_HeardOwners.j0])
    | succ kj2 =>
      have H := HA.out
      clear HA
      simp only [impl_HeardOwners.j0] at H
      by_cases c12 : x15_2 = true
      · subst c12
        have H1 : (some ([] : List Int)) = some r := by rw [if_pos rfl] at H; exact H
        clear H
        have H := H1
        clear H1
        obtain rfl := Option.some.inj H
        go_wp2
        go_ret
        exact ⟨_, er_, by first | exact Kd.R_nil _ _ _ _ _ | exact Kd.N_nil _ _ _ _ _ | exact Kd.V_nil _ _ _ _ _ | exact Kd.Q_nil _ _ _ _ _ | exact Kd.S_nil _ _ _ _ _, hb1_ HB.out GE492.out⟩
      · replace c12 := Bool.eq_false_iff.mpr c12
        subst c12
        have H1 : ((impl_slotsOf.f kj2 l0).bind fun t498 => (impl_HeardOwners.l0 kj2 (([] : List Int)) t498 (t498.length : Int) 0 a1_0 a1_1 l1_2)) = some r := by rw [if_neg (show ¬ (false = true) by decide)] at H; exact H
        clear H
        have H := H1
        clear H1
        obtain ⟨y495, hy495⟩ : ∃ y_ : List Int, y_ = (([] : List Int)) := ⟨_, rfl⟩
        replace H : ((impl_slotsOf.f kj2 l0).bind fun t498 => (impl_HeardOwners.l0 kj2 y495 t498 (t498.length : Int) 0 a1_0 a1_1 l1_2)) = some r := by first | (rw [hy495]; with_reducible exact H) | (have H2_ := (Option.bind_some _ _).symm.trans H; rw [hy495]; with_reducible exact H2_) | (have H2_ := (Option.bind_some _ _).symm.trans H; with_reducible exact H2_) | with_reducible exact H | (rw [hy495]; exact H) | exact H
        have Ny495 := Aside0.mk hy495
        clear hy495
        replace H := Option.bind_eq_some_iff.mp H
        obtain ⟨t498, A130, H⟩ := H
        replace H : (impl_HeardOwners.l0 kj2 y495 t498 (t498.length : Int) 0 a1_0 a1_1 l1_2) = some r := H
        have A13 := Aside0.mk A130
        clear A130
        have H' := Aside0.mk H
        clear H
        go_wp2_with (first | ((with_reducible refine gate_dst (N := 16) rfl ?_); refine Kd.R_lit (Kd.int .i64) _ 3 ?hg (N := 16) ?hd (xs := ([] : List Int)) (inner := []) (ok := fun _ => True) (okp := fun _ => True) ?hr ?hp (fun _ hk => hk) trivial (Below.refl _ _) (Nat.le_refl _) (by simp) ?_; (case hd => rfl); (case hg => rfl); (case hr => first | (go_simp; done) | (go_simp; rfl)); (case hp => exact (Reps.none _ _)); intro v496 w14 ho15 hb hg_ hnew_; clear hg_ hnew_; (first | rw [← Ny495.out] at ho15 | (simp only [Int.reduceToNat] at ho15; rw [← Ny495.out] at ho15)); have n0_ := Aside0.mk (Kd.R_lower ho15 (below_size (hb1_ HB.out GE492.out))); have n1_ := Aside0.mk (bb_ BK492.out hb); have n2_ := Aside0.mk (below_step (hb1_ HB.out GE492.out) hb); clear BK492; clear HB; have HO497 := n0_; have BK492 := n1_; have HB := n2_; clear n0_ n1_ n2_; clear hb ho15) | ((with_reducible refine gate_callee (f := 61) rfl ?_); refine goesL_ (some 18) rfl rfl Try.func61 (by kernel_rfl) rfl #[.slice A0 l0.length c0] rfl arr_ ?_; (with_reducible refine (impl_slotsOf.calls kj2 _ _ l0 t498 _ ?side1 ?side2 A13.out).mono ?_); (case side1 => exact kc_ (Kd.C_below HR0.out HB.out)); (case side2 => exact HC0.out); rintro e w16 ⟨v499, rfl, ho0, hb⟩; refine ⟨_, rfl, ?_⟩; have n0_ := Aside0.mk (Kd.R_elder' (by (with_reducible repeat (first | apply Kd.R_alloc | apply Kd.R_drewN | apply Kd.R_drew)); exact HO497.out) (Kd.R_base ho0) hb); have n1_ := Aside0.mk (Kd.R_lower (Kd.R_new' ho0 (Kd.R_lt (by (with_reducible repeat (first | apply Kd.R_alloc | apply Kd.R_drewN | apply Kd.R_drew)); exact HO497.out))) (below_size (hb1_ HB.out GE492.out))); have n2_ := Aside0.mk (bb_ BK492.out hb); have n3_ := Aside0.mk (below_step (hb1_ HB.out GE492.out) hb); clear HO497; clear BK492; clear HB; have HO497 := n0_; have HO500 := n1_; have BK492 := n2_; have HB := n3_; clear n0_ n1_ n2_ n3_; (try clear hb); (try clear hb2); (try clear hk); (try clear hi); (try clear ho0); obtain ⟨Ao17, co17, eo17⟩ := Kd.R_slice HO500.out; subst eo17))
        go_loopg [5, 20] kj2 (fun kq v5 v20 w' => ∃ (x5_2 : List Int) (x20_2 : Int), v20 = .int .i64 x20_2 ∧ Aside0 (impl_HeardOwners.l0 kq x5_2 t498 (t498.length : Int) x20_2 a1_0 a1_1 l1_2 = some r) ∧ Aside0 (kq ≤ kj2) ∧ Aside0 (Kd.R (Kd.int .i64) 3 w' w.heap.size (fun k_ => some k_ ≠ ((.slice Ao17 t498.length co17) : Value).ownBlock) v5 x5_2) ∧ Aside0 (Kd.R (Kd.int .i64) 3 w' w.heap.size (fun k_ => some k_ ≠ (v5 : Value).ownBlock) (.slice Ao17 t498.length co17) t498) ∧ Aside0 (w'.heap[gb492]? = some (.cells #[.int .i64 a1_0, .int .i64 a1_1, (.slice A1_2 l1_2.length c1_2)] 39 (0, 0))) ∧ Aside0 (Below w.heap.size w w'))
        case atStart => exact ⟨(y495), (0), (by first | rfl | (simp; done) | (simp [*]; done)), H', ⟨Nat.le_refl _⟩, ⟨by (with_reducible repeat (first | apply Kd.R_alloc | apply Kd.R_drewN | apply Kd.R_drew)); exact Kd.R_mono HO497.out (fun _ hk => hk.2)⟩, ⟨by (with_reducible repeat (first | apply Kd.R_alloc | apply Kd.R_drewN | apply Kd.R_drew)); exact Kd.R_mono HO500.out (fun _ hk => hk.2)⟩, ⟨bk_ BK492.out⟩, ⟨hb1_ HB.out GE492.out⟩⟩
        case round =>
          clear H'
          try clear c1
          try clear c2
          try clear p2
          try clear c4
          try clear c6
          try clear c12
          try clear hcz9_0
          try clear hcz9_1
          try clear hcz9_2
          try clear hfz9_0
          try clear hfz9_1
          try clear hfz9_2
          try clear p2
          obtain ⟨x5_2, x20_2, rfl, HA, HK2, HO_5, HO_18, BK492, HB⟩ := hrel
          cases gk with
          | zero => exact absurd HA.out (by simp [impl_HeardOwners.l0])
          | succ k2 =>
            have H := HA.out
            clear HA
            simp only [impl_HeardOwners.l0] at H
            by_cases c18 : x20_2 < (t498.length : Int)
            · rw [if_pos c18] at H
              have c18b0 : decide (x20_2 < (t498.length : Int)) = true := decide_eq_true c18
              clear c18
              by_cases c19 : 0 ≤ x20_2
              · rw [if_pos c19] at H
                have c19b0 : decide (0 ≤ x20_2) = true := decide_eq_true c19
                clear c19
                by_cases c20 : x20_2 < (t498.length : Int)
                · rw [if_pos c20] at H
                  have c20b0 : decide (x20_2 < (t498.length : Int)) = true := decide_eq_true c20
                  clear c20
                  by_cases c21 : (rd t498 x20_2) < (l1_2.length : Int)
                  · rw [if_pos c21] at H
                    have c21b0 : decide ((rd t498 x20_2) < (l1_2.length : Int)) = true := decide_eq_true c21
                    clear c21
                    by_cases c22 : 0 ≤ (rd t498 x20_2)
                    · rw [if_pos c22] at H
                      have c22b0 : decide (0 ≤ (rd t498 x20_2)) = true := decide_eq_true c22
                      clear c22
                      by_cases c23 : x5_2.length < 17592186044416
                      · rw [if_pos c23] at H
                        have LMc23 := Aside0.mk c23
                        clear c23
                        obtain ⟨y503, hy503⟩ : ∃ y_ : List Int, y_ = (x5_2 ++ [(rd_T79 l1_2 (rd t498 x20_2)).f0]) := ⟨_, rfl⟩
                        replace H : (impl_HeardOwners.l0 k2 y503 t498 (t498.length : Int) (wrap64 (x20_2 + 1)) a1_0 a1_1 l1_2) = some r := by first | (rw [hy503]; with_reducible exact H) | (have H2_ := (Option.bind_some _ _).symm.trans H; rw [hy503]; with_reducible exact H2_) | (have H2_ := (Option.bind_some _ _).symm.trans H; with_reducible exact H2_) | with_reducible exact H | (rw [hy503]; exact H) | exact H
                        have Ny503 := Aside0.mk hy503
                        clear hy503
                        have H' := Aside0.mk H
                        clear H
                        have p501 : 0 ≤ (x20_2 : Int) := of_decide_eq_true (by first | (with_reducible assumption) | assumption)
                        have q501 : x20_2 < (t498.length : Int) := of_decide_eq_true (by first | (with_reducible assumption) | assumption)
                        obtain ⟨ad501, e501, hx501_0⟩ := Kd.at_int (Kd.R_reads' HO_18.out).2.2 x20_2 p501 q501
                        cases e501
                        replace p501 := eq_true p501
                        replace q501 := eq_true q501
                        have hcz24_0 := bc_ BK492.out 0 (.int .i64 a1_0) rfl
                        have hcz24_1 := bc_ BK492.out 1 (.int .i64 a1_1) rfl
                        have hcz24_2 := bc_ BK492.out 2 (.slice A1_2 l1_2.length c1_2) rfl
                        have hfz24_0 := blk_frozen BK492.out 0
                        have hfz24_1 := blk_frozen BK492.out 1
                        have hfz24_2 := blk_frozen BK492.out 2
                        have p502 : 0 ≤ ((rd t498 x20_2) : Int) := of_decide_eq_true (by first | (with_reducible assumption) | assumption)
                        have q502 : (rd t498 x20_2) < (l1_2.length : Int) := of_decide_eq_true (by first | (with_reducible assumption) | assumption)
                        obtain ⟨ad502, e502, hx502_0, hx502_1⟩ := at_T79 HR1_2.out (rd t498 x20_2) p502 q502
                        cases e502
                        replace hx502_0 := (HB.out.cell (World.block_lt_of_cell? w _ hx502_0)).trans hx502_0
                        replace hx502_1 := (HB.out.cell (World.block_lt_of_cell? w _ hx502_1)).trans hx502_1
                        replace p502 := eq_true p502
                        replace q502 := eq_true q502
                        go_wp2_with (first | ((with_reducible refine gate_builtin (b := .append) (xs := #[.tmp 29, .tmp 36]) rfl ?_); at_builtin; refine Kd.R_append (Kd.int .i64) (w0 := w) w.heap.size rfl (.tmp 29) (.tmp 36) 50 3 (.int .i64 0) 8 rfl Try.underlying50 info3 rfl (by decide) (by omega) u5 x5_2 ((rd_T79 l1_2 (rd t498 x20_2)).f0) [.int .i64 ((rd_T79 l1_2 (rd t498 x20_2)).f0)] (fun k_ => some k_ ≠ (.slice (some ad501) t498.length co17 : Value).ownBlock) (fun _ => False) rfl rfl ?aP (fun _ hk => hk.elim) ?aF ?aO ?aB ?aS ?aL ?_; (case aP => exact rfl); (case aB => exact (hb1_ HB.out GE492.out)); (case aF => exact (fun k_ hk => Kd.fresh' (Kd.R_lt (by (with_reducible repeat (first | apply Kd.R_alloc | apply Kd.R_drewN | apply Kd.R_drew)); exact HO_18.out)) k_ hk)); (case aO => exact (by (with_reducible repeat (first | apply Kd.R_alloc | apply Kd.R_drewN | apply Kd.R_drew)); exact HO_5.out)); (case aS => exact (below_size (hb1_ HB.out GE492.out))); (case aL => have := LMc23.out; omega); intro v504 w25 ho hb hg hat; rw [← Ny503.out] at ho; have n0_ := Aside0.mk (Kd.R_after (ok := (fun _ => True)) (by (with_reducible repeat (first | apply Kd.R_alloc | apply Kd.R_drewN | apply Kd.R_drew)); exact Kd.R_mono HO_18.out (fun _ hk => ⟨trivial, hk⟩)) hg hat); have n1_ := Aside0.mk (blk_grown (g := gb492) (o := .cells #[.int .i64 a1_0, .int .i64 a1_1, .slice (some ad502) l1_2.length c1_2] 39 (0, 0)) (bk_ BK492.out) hg (Kd.R_ne HO_5.out BK492.out (by decide))); have n2_ := Aside0.mk (hb); have n3_ := Aside0.mk (ho); clear HO_18; clear BK492; clear HB; clear HO_5; have HO_18 := n0_; have BK492 := n1_; have HB := n2_; have HO505 := n3_; clear n0_ n1_ n2_ n3_; clear ho hb hg hat))
                        go_roundg k2
                        case measure => have := HJ2.out; have := HK2.out; omega
                        case rel => exact ⟨(y503), (wrap64 (x20_2 + 1)), (by first | rfl | (simp; done) | (simp [*]; done)), H', ⟨by have := HJ2.out; have := HK2.out; omega⟩, ⟨by (with_reducible repeat (first | apply Kd.R_alloc | apply Kd.R_drewN | apply Kd.R_drew)); exact HO505.out⟩, ⟨by (with_reducible repeat (first | apply Kd.R_alloc | apply Kd.R_drewN | apply Kd.R_drew)); exact Kd.R_mono HO_18.out (fun _ hk => hk.2)⟩, ⟨bk_ BK492.out⟩, ⟨hb1_ HB.out GE492.out⟩⟩
                      · rw [if_neg c23] at H
                        exact absurd H (by simp)
                    · rw [if_neg c22] at H
                      exact absurd H (by simp)
                  · rw [if_neg c21] at H
                    have c21b0 : decide ((rd t498 x20_2) < (l1_2.length : Int)) = false := decide_eq_false c21
                    clear c21
                    have H' := Aside0.mk H
                    clear H
                    have p501 : 0 ≤ (x20_2 : Int) := of_decide_eq_true (by first | (with_reducible assumption) | assumption)
                    have q501 : x20_2 < (t498.length : Int) := of_decide_eq_true (by first | (with_reducible assumption) | assumption)
                    obtain ⟨ad501, e501, hx501_0⟩ := Kd.at_int (Kd.R_reads' HO_18.out).2.2 x20_2 p501 q501
                    cases e501
                    replace p501 := eq_true p501
                    replace q501 := eq_true q501
                    have hcz26_0 := bc_ BK492.out 0 (.int .i64 a1_0) rfl
                    have hcz26_1 := bc_ BK492.out 1 (.int .i64 a1_1) rfl
                    have hcz26_2 := bc_ BK492.out 2 (.slice A1_2 l1_2.length c1_2) rfl
                    have hfz26_0 := blk_frozen BK492.out 0
                    have hfz26_1 := blk_frozen BK492.out 1
                    have hfz26_2 := blk_frozen BK492.out 2
                    go_wp2
                    go_roundg k2
                    case measure => have := HJ2.out; have := HK2.out; omega
                    case rel => exact ⟨(x5_2), (wrap64 (x20_2 + 1)), (by first | rfl | (simp; done) | (simp [*]; done)), H', ⟨by have := HJ2.out; have := HK2.out; omega⟩, ⟨by (with_reducible repeat (first | apply Kd.R_alloc | apply Kd.R_drewN | apply Kd.R_drew)); exact HO_5.out⟩, ⟨by (with_reducible repeat (first | apply Kd.R_alloc | apply Kd.R_drewN | apply Kd.R_drew)); exact HO_18.out⟩, ⟨bk_ BK492.out⟩, ⟨hb1_ HB.out GE492.out⟩⟩
                · rw [if_neg c20] at H
                  exact absurd H (by simp)
              · rw [if_neg c19] at H
                exact absurd H (by simp)
            · rw [if_neg c18] at H
              have c18b0 : decide (x20_2 < (t498.length : Int)) = false := decide_eq_false c18
              clear c18
              replace H := Option.bind_eq_some_iff.mp H
              obtain ⟨t506, A270, H⟩ := H
              replace H : ((slices_Compact_int.f t506).bind fun t507 => (some t507)) = some r := H
              have A27 := Aside0.mk A270
              clear A270
              replace H := Option.bind_eq_some_iff.mp H
              obtain ⟨t507, A280, H⟩ := H
              replace H : (some t507) = some r := H
              have A28 := Aside0.mk A280
              clear A280
              obtain rfl := Option.some.inj H
              obtain ⟨Ao29, co29, eo29⟩ := Kd.R_slice HO_5.out
              subst eo29
              go_wp2_with (first | ((with_reducible refine gate_callee (f := 62) rfl ?_); refine goesL_ (some 40) rfl rfl Try.func62 (by kernel_rfl) rfl #[.slice Ao29 x5_2.length co29] rfl arr_ ?_; (with_reducible refine (slices_Sort_int.calls k2 (fun k_ => some k_ = (.slice Ao29 x5_2.length co29 : Value).ownBlock) (.slice Ao29 x5_2.length co29) x5_2 t506 w _ ?side1 ?side2 A27.out).mono ?_); (case side1 => repeat (first | (with_reducible first | exact HB.out | apply below_alloc | apply pw_below_drewN | apply below_drew1 | refine below_set ?_ GE492.out) | exact HB.out)); (case side2 => exact Kd.R_tight rfl HO_5.out); rintro e w30 ⟨rfl, hy0, hb, hkp⟩; refine ⟨_, rfl, ?_⟩; have n0_ := Aside0.mk (Kd.R_reok rfl hy0 (fun k_ e_ => HO_5.out.1 k_ e_)); have n1_ := Aside0.mk (Kd.R_mono (ok' := fun k_ => some k_ ≠ (.slice Ao29 x5_2.length co29 : Value).ownBlock) (Kd.R_keptB (HO_18.out) hkp (fun k_ hk_ hs_ => (hk_) hs_)) (fun k_ hk_ => hk_.1)); have n2_ := Aside0.mk (blk_kept (bk_ BK492.out) hkp (fun hs_ => (fun e_ => (Kd.R_ne HO_5.out BK492.out (by decide)) e_) hs_)); have n3_ := Aside0.mk (hb); clear HO_5; clear HO_18; clear BK492; clear HB; have HO_5 := n0_; have HO_18 := n1_; have BK492 := n2_; have HB := n3_; clear n0_ n1_ n2_ n3_; (try clear hb); (try clear hkp); (try clear hy0)) | ((with_reducible refine gate_callee (f := 63) rfl ?_); refine goesL_ (some 42) rfl rfl Try.func63 (by kernel_rfl) rfl #[.slice Ao29 x5_2.length co29] rfl arr_ ?_; (with_reducible refine (slices_Compact_int.calls (fun k_ => some k_ = (.slice Ao29 x5_2.length co29 : Value).ownBlock) (.slice Ao29 x5_2.length co29) t506 t507 w _ ?side1 ?side2 A28.out).mono ?_); (case side1 => repeat (first | (with_reducible first | exact HB.out | apply below_alloc | apply pw_below_drewN | apply below_drew1 | refine below_set ?_ GE492.out) | exact HB.out)); (case side2 => exact Kd.R_tight rfl HO_5.out); rintro e w31 ⟨v508, rfl, ho0, hb, hkp⟩; refine ⟨_, rfl, ?_⟩; have n0_ := Aside0.mk (Kd.R_mono (ok' := fun k_ => some k_ ≠ (v508 : Value).ownBlock) (Kd.R_keptB (HO_18.out) hkp (fun k_ hk_ hs_ => (hk_) hs_)) (fun k_ hk_ => fun e_ => Or.elim (ho0.1 k_ e_.symm) (fun hs_ => hk_.2.1 hs_) (fun hn_ => Nat.not_le.2 hk_.2.2 hn_))); have n1_ := Aside0.mk (blk_kept (bk_ BK492.out) hkp (fun hs_ => (fun e_ => (Kd.R_ne HO_5.out BK492.out (by decide)) e_) hs_)); have n2_ := Aside0.mk (Kd.R_mono (ok' := fun k_ => some k_ ≠ (.slice Ao17 t498.length co17 : Value).ownBlock) ho0 (fun k_ hk_ => Or.elim hk_ (fun hs_ => fun e_ => (((HO_18.out).1 k_ e_.symm)) hs_) (fun hn_ => (Kd.fresh' (Kd.R_lt (by (with_reducible repeat (first | apply Kd.R_alloc | apply Kd.R_drewN | apply Kd.R_drew)); exact HO_18.out)) k_ hn_)))); have n3_ := Aside0.mk (hb); clear HO_18; clear BK492; clear HB; clear HO_5; have HO_18 := n0_; have BK492 := n1_; have HO509 := n2_; have HB := n3_; clear n0_ n1_ n2_ n3_; (try clear hb); (try clear hkp); (try clear ho0)))
              go_ret
              exact ⟨_, er_, by (with_reducible repeat (first | apply Kd.R_alloc | apply Kd.R_drewN | apply Kd.R_drew)); exact Kd.R_mono HO509.out (fun _ hk => trivial), hb1_ HB.out GE492.out⟩
end Go.Proofs.Ytpjahhljpoeaeaa.P

namespace Go.Proofs.Ytpjahhljpoeaeaa.P
open Go.RowKit Go.Proofs.YtpjahhljpoeaeaaW.PrintWords Go.Proofs.YtpjahhljpoeaeaaW.PrintLast Go.Proofs.YtpjahhljpoeaeaaW.PrintMore
attribute [local go_sem] max2_int min2_int max_two min_two max_three min_three max_four min_four
set_option linter.unusedVariables false
set_option linter.unusedSimpArgs false
def laws_eqIntS.l0 : Nat → List Int → List Int → Int → Option (Bool)
  | 0, _, _, _ => none
  | k + 1, x0, x1, x5 => if x5 < (x0.length : Int) then (if 0 ≤ x5 then (if x5 < (x1.length : Int) then (if (rd x0 x5) = (rd x1 x5) then (laws_eqIntS.l0 k x0 x1 (wrap64 (x5 + 1))) else (some false)) else (none)) else (none)) else (some true)
def laws_eqIntS.f (k : Nat) (l0 : List Int) (l1 : List Int) : Option (Bool) := if (l0.length : Int) = (l1.length : Int) then (laws_eqIntS.l0 k l0 l1 0) else (some false)
set_option maxHeartbeats 8000000 in
set_option maxRecDepth 100000 in
theorem laws_eqIntS.calls (k : Nat) (A0 : Option Addr) (c0 : Nat) (l0 : List Int) (A1 : Option Addr) (c1 : Nat) (l1 : List Int) (r : Bool) (w : World) (hr0 : Kd.C (Kd.int .i64) w A0 l0.length l0) (hc0 : l0.length ≤ c0) (hr1 : Kd.C (Kd.int .i64) w A1 l1.length l1) (hc1 : l1.length ≤ c1) (h : laws_eqIntS.f k l0 l1 = some r) :
    Calls Try.prog 23 #[.slice A0 l0.length c0, .slice A1 l1.length c1] w fun e w' => e = .returned (.bool r) ∧ Drawn0 w w' := by
  have HR0 := Aside0.mk hr0
  have HC0 := Aside0.mk hc0
  clear hr0 hc0
  have HR1 := Aside0.mk hr1
  have HC1 := Aside0.mk hc1
  clear hr1 hc1
  have H : (if (l0.length : Int) = (l1.length : Int) then (laws_eqIntS.l0 k l0 l1 0) else (some false)) = some r := h
  clear h
  by_cases c3 : (l0.length : Int) = (l1.length : Int)
  · rw [if_pos c3] at H
    have c3b0 : ((l0.length : Int) == (l1.length : Int)) = true := beq_iff_eq.mpr c3
    have c3b1 : ((l0.length : Int) != (l1.length : Int)) = false := bne_eq_false_iff_eq.mpr c3
    have c3b2 : (l0.length == l1.length) = true := by first | simpa using c3 | (simp at c3 ⊢; omega)
    clear c3
    have H' := Aside0.mk H
    clear H
    go_enter Try.func23, Try.ntmps23
    go_wp2
    repeat (go_quiet (fail); try go_wp2)
    go_loopg [5] k (fun kq v5 w' => ∃ (x5_1 : Int), v5 = .int .i64 x5_1 ∧ Aside0 (laws_eqIntS.l0 kq l0 l1 x5_1 = some r) ∧ Aside0 (kq ≤ k) ∧ Drawn0 w w')
    case atStart => exact ⟨(0), (by first | rfl | (simp; done) | (simp [*]; done)), H', ⟨Nat.le_refl _⟩, by repeat (first | exact Drawn0.refl _ | apply Drawn0.step)⟩
    case round =>
      clear H'
      try clear c1
      try clear c2
      try clear p2
      try clear c3
      try clear c3b0
      try clear c3b1
      try clear c3b2
      obtain ⟨x5_1, rfl, HA, HK1, ⟨m1, rfl⟩⟩ := hrel
      cases gk with
      | zero => exact absurd HA.out (by simp [laws_eqIntS.l0])
      | succ k1 =>
        have H := HA.out
        clear HA
        simp only [laws_eqIntS.l0] at H
        by_cases c4 : x5_1 < (l0.length : Int)
        · rw [if_pos c4] at H
          have c4b0 : decide (x5_1 < (l0.length : Int)) = true := decide_eq_true c4
          clear c4
          by_cases c5 : 0 ≤ x5_1
          · rw [if_pos c5] at H
            have c5b0 : decide (0 ≤ x5_1) = true := decide_eq_true c5
            clear c5
            by_cases c6 : x5_1 < (l1.length : Int)
            · rw [if_pos c6] at H
              have c6b0 : decide (x5_1 < (l1.length : Int)) = true := decide_eq_true c6
              clear c6
              by_cases c7 : (rd l0 x5_1) = (rd l1 x5_1)
              · rw [if_pos c7] at H
                have c7b0 : ((rd l0 x5_1) == (rd l1 x5_1)) = true := beq_iff_eq.mpr c7
                have c7b1 : ((rd l0 x5_1) != (rd l1 x5_1)) = false := bne_eq_false_iff_eq.mpr c7
                clear c7
                have H' := Aside0.mk H
                clear H
                have p519 : 0 ≤ (x5_1 : Int) := of_decide_eq_true (by first | (with_reducible assumption) | assumption)
                have q519 : x5_1 < (l0.length : Int) := of_decide_eq_true (by first | (with_reducible assumption) | assumption)
                obtain ⟨ad519, e519, hx519_0⟩ := Kd.at_int HR0.out x5_1 p519 q519
                cases e519
                replace p519 := eq_true p519
                replace q519 := eq_true q519
                have p520 : 0 ≤ (x5_1 : Int) := of_decide_eq_true (by first | (with_reducible assumption) | assumption)
                have q520 : x5_1 < (l1.length : Int) := of_decide_eq_true (by first | (with_reducible assumption) | assumption)
                obtain ⟨ad520, e520, hx520_0⟩ := Kd.at_int HR1.out x5_1 p520 q520
                cases e520
                replace p520 := eq_true p520
                replace q520 := eq_true q520
                go_wp2
                repeat (go_quiet (fail); try go_wp2)
                go_roundg k1
                case measure => have := HK1.out; omega
                case rel => exact ⟨(wrap64 (x5_1 + 1)), (by first | rfl | (simp; done) | (simp [*]; done)), H', ⟨by have := HK1.out; omega⟩, by repeat (first | exact Drawn0.refl _ | apply Drawn0.step)⟩
              · rw [if_neg c7] at H
                have c7b0 : ((rd l0 x5_1) == (rd l1 x5_1)) = false := beq_eq_false_iff_ne.mpr c7
                have c7b1 : ((rd l0 x5_1) != (rd l1 x5_1)) = true := bne_iff_ne.mpr c7
                obtain rfl := Option.some.inj H
                have p519 : 0 ≤ (x5_1 : Int) := of_decide_eq_true (by first | (with_reducible assumption) | assumption)
                have q519 : x5_1 < (l0.length : Int) := of_decide_eq_true (by first | (with_reducible assumption) | assumption)
                obtain ⟨ad519, e519, hx519_0⟩ := Kd.at_int HR0.out x5_1 p519 q519
                cases e519
                replace p519 := eq_true p519
                replace q519 := eq_true q519
                have p520 : 0 ≤ (x5_1 : Int) := of_decide_eq_true (by first | (with_reducible assumption) | assumption)
                have q520 : x5_1 < (l1.length : Int) := of_decide_eq_true (by first | (with_reducible assumption) | assumption)
                obtain ⟨ad520, e520, hx520_0⟩ := Kd.at_int HR1.out x5_1 p520 q520
                cases e520
                replace p520 := eq_true p520
                replace q520 := eq_true q520
                go_wp2
                repeat (go_quiet (fail); try go_wp2)
                go_ret
                exact ⟨by first | rfl | (simp; done) | (simp [*]; done), by repeat (first | exact Drawn0.refl _ | apply Drawn0.step)⟩
            · rw [if_neg c6] at H
              exact absurd H (by simp)
          · rw [if_neg c5] at H
            exact absurd H (by simp)
        · rw [if_neg c4] at H
          have c4b0 : decide (x5_1 < (l0.length : Int)) = false := decide_eq_false c4
          clear c4
          obtain rfl := Option.some.inj H
          go_wp2
          repeat (go_quiet (fail); try go_wp2)
          go_ret
          exact ⟨by first | rfl | (simp; done) | (simp [*]; done), by repeat (first | exact Drawn0.refl _ | apply Drawn0.step)⟩
  · rw [if_neg c3] at H
    have c3b0 : ((l0.length : Int) == (l1.length : Int)) = false := beq_eq_false_iff_ne.mpr c3
    have c3b1 : ((l0.length : Int) != (l1.length : Int)) = true := bne_iff_ne.mpr c3
    have c3b2 : (l0.length == l1.length) = false := by first | simpa using c3 | (simp at c3 ⊢; omega)
    obtain rfl := Option.some.inj H
    go_enter Try.func23, Try.ntmps23
    go_wp2
    repeat (go_quiet (fail); try go_wp2)
    go_ret
    exact ⟨by first | rfl | (simp; done) | (simp [*]; done), by repeat (first | exact Drawn0.refl _ | apply Drawn0.step)⟩
def laws_markIntS.l0 : Nat → List Int → Int → Int → Option (Int × List Int)
  | 0, _, _, _ => none
  | k + 1, x0, x1, x5 => if x5 < (x0.length : Int) then (if 0 ≤ x5 then (laws_markIntS.l0 k (x0.set (x5 : Int).toNat x1) (wrap64 (x1 + 1)) (wrap64 (x5 + 1))) else (none)) else (some (x1, x0))
def laws_markIntS.f (k : Nat) (l0 : List Int) (a1 : Int) : Option (Int × List Int) := laws_markIntS.l0 k l0 a1 0
set_option maxHeartbeats 8000000 in
set_option maxRecDepth 100000 in
theorem laws_markIntS.calls (k : Nat) (P0_ : Nat → Prop) (u9000_ : Value) (l0 : List Int) (a1 : Int) (r1 : Int) (r2 : List Int) (w0 w : World) (hB : Below w0.heap.size w0 w) (ho0 : Kd.R (Kd.int .i64) 3 w w0.heap.size P0_ u9000_ l0) (h : laws_markIntS.f k l0 a1 = some (r1, r2)) :
    Calls Try.prog 24 #[u9000_, .int .i64 a1] w fun e w' => e = .returned (.int .i64 r1) ∧ Kd.R (Kd.int .i64) 3 w' w0.heap.size (fun k_ => (P0_ k_ ∨ w.heap.size ≤ k_)) u9000_ r2 ∧ Below w0.heap.size w0 w' ∧ Kept w w' (fun k_ => P0_ k_) := by
  have HO0 := Aside0.mk (show Kd.R (Kd.int .i64) 3 w w0.heap.size (fun k_ => (P0_ k_ ∨ w.heap.size ≤ k_)) u9000_ l0 from Kd.R_mono ho0 (fun k_ hk => (.inl hk)))
  have HK := Aside0.mk (Kept.refl w (fun k_ => P0_ k_))
  have HW0 := Aside0.mk hB.size
  have HB := Aside0.mk hB
  clear hB
  have H : (laws_markIntS.l0 k l0 a1 0) = some (r1, r2) := h
  clear h
  have H' := Aside0.mk H
  clear H
  go_enter Try.func24, Try.ntmps24
  go_wp2
  go_loopg [1, 5] k (fun kq v1 v5 w' => ∃ (x0_1 : List Int) (x1_1 : Int) (x5_1 : Int), v1 = .int .i64 x1_1 ∧ v5 = .int .i64 x5_1 ∧ Aside0 (laws_markIntS.l0 kq x0_1 x1_1 x5_1 = some (r1, r2)) ∧ Aside0 (kq ≤ k) ∧ Aside0 (Kd.R (Kd.int .i64) 3 w' w0.heap.size (fun k_ => (P0_ k_ ∨ w.heap.size ≤ k_)) u9000_ x0_1) ∧ Aside0 (Kept w w' (fun k_ => P0_ k_)) ∧ Aside0 (Below w0.heap.size w0 w'))
  case atStart => exact ⟨(l0), (a1), (0), (by first | rfl | (simp; done) | (simp [*]; done)), (by first | rfl | (simp; done) | (simp [*]; done)), H', ⟨Nat.le_refl _⟩, ⟨by (with_reducible repeat (first | apply Kd.R_alloc | apply Kd.R_drewN | apply Kd.R_drew)); exact HO0.out⟩, ⟨by repeat (first | (with_reducible first | exact HK.out | apply Kept.alloc | apply Kept.drewN | apply Kept.drew) | exact HK.out)⟩, ⟨hb_ HB.out⟩⟩
  case round =>
    clear H'
    try clear c2
    try clear p2
    obtain ⟨x0_1, x1_1, x5_1, rfl, rfl, HA, HK1, HO_0, HK, HB⟩ := hrel
    cases gk with
    | zero => exact absurd HA.out (by simp [laws_markIntS.l0])
    | succ k1 =>
      have H := HA.out
      clear HA
      simp only [laws_markIntS.l0] at H
      by_cases c3 : x5_1 < (x0_1.length : Int)
      · rw [if_pos c3] at H
        have c3b0 : decide (x5_1 < (x0_1.length : Int)) = true := decide_eq_true c3
        clear c3
        by_cases c4 : 0 ≤ x5_1
        · rw [if_pos c4] at H
          have c4b0 : decide (0 ≤ x5_1) = true := decide_eq_true c4
          clear c4
          obtain ⟨y521, hy521⟩ : ∃ y_ : List Int, y_ = (x0_1.set (x5_1 : Int).toNat x1_1) := ⟨_, rfl⟩
          replace H : (laws_markIntS.l0 k1 y521 (wrap64 (x1_1 + 1)) (wrap64 (x5_1 + 1))) = some (r1, r2) := by first | (rw [hy521]; with_reducible exact H) | (have H2_ := (Option.bind_some _ _).symm.trans H; rw [hy521]; with_reducible exact H2_) | (have H2_ := (Option.bind_some _ _).symm.trans H; with_reducible exact H2_) | with_reducible exact H | (rw [hy521]; exact H) | exact H
          have Ny521 := Aside0.mk hy521
          clear hy521
          have H' := Aside0.mk H
          clear H
          obtain ⟨Ao6, co6, eo6⟩ := Kd.R_slice HO_0.out
          subst eo6
          have p5 : 0 ≤ (x5_1 : Int) := of_decide_eq_true (by first | (with_reducible assumption) | assumption)
          have q5 : (x5_1 : Int) < ((x0_1.length : Int) : Int) := of_decide_eq_true (by first | (with_reducible assumption) | assumption)
          obtain ⟨go5, co5, eo5, gb5, gl5, cl5, HG5⟩ := Kd.R_form HO_0.out (by omega)
          (first | cases eo5 | (injection eo5 with ea_ en_ ec_; (first | subst ea_ | (injection ea_ with ea_; subst ea_)); subst ec_; clear en_))
          have GB5 := Aside0.mk gb5
          have GG5 := Aside0.mk HG5
          clear gb5 gl5 HG5
          have HMgo5 := Aside0.mk (show (P0_ go5 ∨ w.heap.size ≤ go5) from (HO_0.out.1 _ rfl))
          obtain ⟨hx5_0, hf5_0⟩ := Kd.R_celln 0 HO_0.out (x5_1 : Int) p5 q5
          replace p5 := eq_true p5
          replace q5 := eq_true q5
          have HP7 := Kd.R_putg HO_0.out (x5_1 : Int) x1_1
          go_wp2_with (first | ((with_reducible refine gate_store (t := 3) (p := 15) rfl ?_); refine store_event (t := 3) (p := 15) (v := ?vo_w8) (w1 := (wr.setCell ⟨go5, (x5_1 : Int).toNat, none⟩ (.int .i64 x1_1))) ?hg ?ho ?hn ?hr ?_; (case ho => rfl); (case hg => rfl); (case hn => rfl); (case hr => first | (go_simp; done) | (go_simp; rfl)); intro w8 hw; have hg : wr.grownBy w8 (some go5) := (by rw [hw]; exact HP7.2); have hp_ : Kd.R (Kd.int .i64) 3 w8 w0.heap.size (fun k_ => (P0_ k_ ∨ w.heap.size ≤ k_)) (.slice (some ⟨go5, 0, none⟩) x0_1.length co6) y521 := (by rw [hw, Ny521.out]; exact HP7.1); clear HP7; have n0_ := Aside0.mk (hp_); have n1_ := Aside0.mk ((by rw [hw]; exact below_set (HB.out) GB5.out : Below w0.heap.size w0 w8)); have n2_ := Aside0.mk (Kept.of_grown (S := (fun k_ => P0_ k_)) hg (by repeat (first | (with_reducible first | exact HK.out | apply Kept.alloc | apply Kept.drewN | apply Kept.drew) | exact HK.out)) (fun k_ e_ => (HO_0.out.1 k_ e_))); clear HO_0; clear HB; clear HK; have HO_0 := n0_; have HB := n1_; have HK := n2_; clear n0_ n1_ n2_; clear hg hw hp_))
          go_roundg k1
          case measure => have := HK1.out; omega
          case rel => exact ⟨(y521), (wrap64 (x1_1 + 1)), (wrap64 (x5_1 + 1)), (by first | rfl | (simp; done) | (simp [*]; done)), (by first | rfl | (simp; done) | (simp [*]; done)), H', ⟨by have := HK1.out; omega⟩, ⟨by (with_reducible repeat (first | apply Kd.R_alloc | apply Kd.R_drewN | apply Kd.R_drew)); exact HO_0.out⟩, ⟨by repeat (first | (with_reducible first | exact HK.out | apply Kept.alloc | apply Kept.drewN | apply Kept.drew) | exact HK.out)⟩, ⟨hb_ HB.out⟩⟩
        · rw [if_neg c4] at H
          exact absurd H (by simp)
      · rw [if_neg c3] at H
        have c3b0 : decide (x5_1 < (x0_1.length : Int)) = false := decide_eq_false c3
        clear c3
        simp only [Option.some.injEq, Prod.mk.injEq] at H
        obtain ⟨rfl, rfl⟩ := H
        obtain ⟨Ao9, co9, eo9⟩ := Kd.R_slice HO_0.out
        subst eo9
        go_wp2
        go_ret
        exact ⟨er_, by (with_reducible repeat (first | apply Kd.R_alloc | apply Kd.R_drewN | apply Kd.R_drew)); exact HO_0.out, by repeat (first | (with_reducible first | exact HB.out | apply below_alloc | apply pw_below_drewN | apply below_drew1) | exact HB.out), by repeat (first | (with_reducible first | exact HK.out | apply Kept.alloc | apply Kept.drewN | apply Kept.drew) | exact HK.out)⟩
def laws_heldIntS.l0 : Nat → List Int → Int → Int → Option (Int)
  | 0, _, _, _ => none
  | k + 1, x0, x1, x5 => if x5 < (x0.length : Int) then (if 0 ≤ x5 then (if (rd x0 x5) = x1 then (laws_heldIntS.l0 k x0 (wrap64 (x1 + 1)) (wrap64 (x5 + 1))) else (some (-1))) else (none)) else (some x1)
def laws_heldIntS.f (k : Nat) (l0 : List Int) (a1 : Int) : Option (Int) := laws_heldIntS.l0 k l0 a1 0
set_option maxHeartbeats 8000000 in
set_option maxRecDepth 100000 in
theorem laws_heldIntS.calls (k : Nat) (A0 : Option Addr) (c0 : Nat) (l0 : List Int) (a1 : Int) (r : Int) (w : World) (hr0 : Kd.C (Kd.int .i64) w A0 l0.length l0) (hc0 : l0.length ≤ c0) (h : laws_heldIntS.f k l0 a1 = some r) :
    Calls Try.prog 25 #[.slice A0 l0.length c0, .int .i64 a1] w fun e w' => e = .returned (.int .i64 r) ∧ Drawn0 w w' := by
  have HR0 := Aside0.mk hr0
  have HC0 := Aside0.mk hc0
  clear hr0 hc0
  have H : (laws_heldIntS.l0 k l0 a1 0) = some r := h
  clear h
  have H' := Aside0.mk H
  clear H
  go_enter Try.func25, Try.ntmps25
  go_wp2
  go_loopg [1, 5] k (fun kq v1 v5 w' => ∃ (x1_1 : Int) (x5_1 : Int), v1 = .int .i64 x1_1 ∧ v5 = .int .i64 x5_1 ∧ Aside0 (laws_heldIntS.l0 kq l0 x1_1 x5_1 = some r) ∧ Aside0 (kq ≤ k) ∧ Drawn0 w w')
  case atStart => exact ⟨(a1), (0), (by first | rfl | (simp; done) | (simp [*]; done)), (by first | rfl | (simp; done) | (simp [*]; done)), H', ⟨Nat.le_refl _⟩, by repeat (first | exact Drawn0.refl _ | apply Drawn0.step)⟩
  case round =>
    clear H'
    try clear c2
    try clear p2
    obtain ⟨x1_1, x5_1, rfl, rfl, HA, HK1, ⟨m1, rfl⟩⟩ := hrel
    cases gk with
    | zero => exact absurd HA.out (by simp [laws_heldIntS.l0])
    | succ k1 =>
      have H := HA.out
      clear HA
      simp only [laws_heldIntS.l0] at H
      by_cases c3 : x5_1 < (l0.length : Int)
      · rw [if_pos c3] at H
        have c3b0 : decide (x5_1 < (l0.length : Int)) = true := decide_eq_true c3
        clear c3
        by_cases c4 : 0 ≤ x5_1
        · rw [if_pos c4] at H
          have c4b0 : decide (0 ≤ x5_1) = true := decide_eq_true c4
          clear c4
          by_cases c5 : (rd l0 x5_1) = x1_1
          · rw [if_pos c5] at H
            have c5b0 : ((rd l0 x5_1) == x1_1) = true := beq_iff_eq.mpr c5
            have c5b1 : ((rd l0 x5_1) != x1_1) = false := bne_eq_false_iff_eq.mpr c5
            clear c5
            have H' := Aside0.mk H
            clear H
            have p522 : 0 ≤ (x5_1 : Int) := of_decide_eq_true (by first | (with_reducible assumption) | assumption)
            have q522 : x5_1 < (l0.length : Int) := of_decide_eq_true (by first | (with_reducible assumption) | assumption)
            obtain ⟨ad522, e522, hx522_0⟩ := Kd.at_int HR0.out x5_1 p522 q522
            cases e522
            replace p522 := eq_true p522
            replace q522 := eq_true q522
            go_wp2
            go_roundg k1
            case measure => have := HK1.out; omega
            case rel => exact ⟨(wrap64 (x1_1 + 1)), (wrap64 (x5_1 + 1)), (by first | rfl | (simp; done) | (simp [*]; done)), (by first | rfl | (simp; done) | (simp [*]; done)), H', ⟨by have := HK1.out; omega⟩, by repeat (first | exact Drawn0.refl _ | apply Drawn0.step)⟩
          · rw [if_neg c5] at H
            have c5b0 : ((rd l0 x5_1) == x1_1) = false := beq_eq_false_iff_ne.mpr c5
            have c5b1 : ((rd l0 x5_1) != x1_1) = true := bne_iff_ne.mpr c5
            obtain rfl := Option.some.inj H
            have p522 : 0 ≤ (x5_1 : Int) := of_decide_eq_true (by first | (with_reducible assumption) | assumption)
            have q522 : x5_1 < (l0.length : Int) := of_decide_eq_true (by first | (with_reducible assumption) | assumption)
            obtain ⟨ad522, e522, hx522_0⟩ := Kd.at_int HR0.out x5_1 p522 q522
            cases e522
            replace p522 := eq_true p522
            replace q522 := eq_true q522
            go_wp2
            go_ret
            exact ⟨by first | rfl | (simp; done) | (simp [*]; done), by repeat (first | exact Drawn0.refl _ | apply Drawn0.step)⟩
        · rw [if_neg c4] at H
          exact absurd H (by simp)
      · rw [if_neg c3] at H
        have c3b0 : decide (x5_1 < (l0.length : Int)) = false := decide_eq_false c3
        clear c3
        obtain rfl := Option.some.inj H
        go_wp2
        go_ret
        exact ⟨by first | rfl | (simp; done) | (simp [*]; done), by repeat (first | exact Drawn0.refl _ | apply Drawn0.step)⟩
def laws_FnExactHeardOwners.j0 : Nat → List (S83) → List Int → List Int → Bool → Int → Int → List (S113) → Option (Bool)
  | 0, _, _, _, _, _, _, _ => none
  | k + 1, x0, x6, x9, x63, x515000, x515001, x515002 => if x63 = true then (some false) else ((laws_markIntS.f k x9 1).bind fun bt556 => ((laws_heldIntS.f k bt556.2 1).bind fun t558 => (if t558 < 0 then (some false) else (if t558 = bt556.1 then ((laws_toHeardS.f k x0).bind fun t559 => ((laws_toPlan.f k x515000 x515001 x515002).bind fun bt562 => ((impl_HeardOwners.f k t559 bt562.1 bt562.2.1 bt562.2.2).bind fun t567 => ((laws_eqIntS.f k t567 x6).bind fun t570 => (if t570 = true then ((laws_heldIntS.f k bt556.2 1).bind fun t571 => (if t571 < 0 then (some false) else (if t571 = bt556.1 then (some true) else (some false)))) else (some false)))))) else (some false)))))
def laws_FnExactHeardOwners.f (k : Nat) (l0 : List (S83)) (a1_0 : Int) (a1_1 : Int) (l1_2 : List (S113)) : Option (Bool) := (laws_szHeardS.f l0 1048576).bind fun t515 => (if t515 < 0 then (some true) else ((laws_szPlan.f a1_0 a1_1 l1_2 t515).bind fun t516 => (if t516 < 0 then (some true) else ((laws_toHeardS.f k l0).bind fun t517 => ((laws_toPlan.f k a1_0 a1_1 l1_2).bind fun bt520 => ((spec_HeardOwners.f k t517 bt520.1 bt520.2.1 bt520.2.2).bind fun t525 => ((laws_toHeardS.f k l0).bind fun t528 => ((laws_toPlan.f k a1_0 a1_1 l1_2).bind fun bt531 => ((impl_HeardOwners.f k t528 bt531.1 bt531.2.1 bt531.2.2).bind fun t537 => ((laws_eqIntS.f k t537 t525).bind fun t540 => (if t540 = true then ((laws_toHeardS.f k l0).bind fun t541 => ((laws_eqHeardS.f k t528 t541).bind fun t544 => (if t544 = true then ((laws_toPlan.f k a1_0 a1_1 l1_2).bind fun bt545 => ((laws_eqPlan.f k bt531.1 bt531.2.1 bt531.2.2 bt545.1 bt545.2.1 bt545.2.2).bind fun t550 => (if t550 = true then ((laws_markHeardS.f k t528 1).bind fun bt551 => ((laws_markPlan.f k bt531.1 bt531.2.1 bt531.2.2 bt551.1).bind fun bt553 => (if bt553.1 < 0 then (laws_FnExactHeardOwners.j0 k l0 t525 t537 true a1_0 a1_1 l1_2) else ((laws_eqIntS.f k t537 t525).bind fun t555 => (laws_FnExactHeardOwners.j0 k l0 t525 t537 (!t555) a1_0 a1_1 l1_2))))) else (some false)))) else (some false)))) else (some false))))))))))))
set_option maxHeartbeats 8000000 in
set_option maxRecDepth 100000 in
theorem laws_FnExactHeardOwners.calls (k : Nat) (A0 : Option Addr) (c0 : Nat) (l0 : List (S83)) (a1_0 : Int) (a1_1 : Int) (A1_2 : Option Addr) (c1_2 : Nat) (l1_2 : List (S113)) (r : Bool) (w : World) (hr0 : Kd.C k83 w A0 l0.length l0) (hc0 : l0.length ≤ c0) (hr1_2 : Kd.C k113 w A1_2 l1_2.length l1_2) (hc1_2 : l1_2.length ≤ c1_2) (hr_ : r = true) (h : laws_FnExactHeardOwners.f k l0 a1_0 a1_1 l1_2 = some r) :
    Calls Try.prog 4 #[.slice A0 l0.length c0, .agg #[.int .i64 a1_0, .int .i64 a1_1, .slice A1_2 l1_2.length c1_2]] w fun e w' => e = .returned (.bool r) ∧ Below w.heap.size w w' := by
  have hu25 := Try.underlying25
  have hu39 := Try.underlying39
  have HR0 := Aside0.mk hr0
  have HC0 := Aside0.mk hc0
  clear hr0 hc0
  have HR1_2 := Aside0.mk hr1_2
  have HC1_2 := Aside0.mk hc1_2
  clear hr1_2 hc1_2
  have HB := Aside0.mk (Below.refl w.heap.size w)
  have H : ((laws_szHeardS.f l0 1048576).bind fun t515 => (if t515 < 0 then (some true) else ((laws_szPlan.f a1_0 a1_1 l1_2 t515).bind fun t516 => (if t516 < 0 then (some true) else ((laws_toHeardS.f k l0).bind fun t517 => ((laws_toPlan.f k a1_0 a1_1 l1_2).bind fun bt520 => ((spec_HeardOwners.f k t517 bt520.1 bt520.2.1 bt520.2.2).bind fun t525 => ((laws_toHeardS.f k l0).bind fun t528 => ((laws_toPlan.f k a1_0 a1_1 l1_2).bind fun bt531 => ((impl_HeardOwners.f k t528 bt531.1 bt531.2.1 bt531.2.2).bind fun t537 => ((laws_eqIntS.f k t537 t525).bind fun t540 => (if t540 = true then ((laws_toHeardS.f k l0).bind fun t541 => ((laws_eqHeardS.f k t528 t541).bind fun t544 => (if t544 = true then ((laws_toPlan.f k a1_0 a1_1 l1_2).bind fun bt545 => ((laws_eqPlan.f k bt531.1 bt531.2.1 bt531.2.2 bt545.1 bt545.2.1 bt545.2.2).bind fun t550 => (if t550 = true then ((laws_markHeardS.f k t528 1).bind fun bt551 => ((laws_markPlan.f k bt531.1 bt531.2.1 bt531.2.2 bt551.1).bind fun bt553 => (if bt553.1 < 0 then (laws_FnExactHeardOwners.j0 k l0 t525 t537 true a1_0 a1_1 l1_2) else ((laws_eqIntS.f k t537 t525).bind fun t555 => (laws_FnExactHeardOwners.j0 k l0 t525 t537 (!t555) a1_0 a1_1 l1_2))))) else (some false)))) else (some false)))) else (some false))))))))))))) = some r := h
  clear h
  replace H := Option.bind_eq_some_iff.mp H
  obtain ⟨t515, A30, H⟩ := H
  replace H : (if t515 < 0 then (some true) else ((laws_szPlan.f a1_0 a1_1 l1_2 t515).bind fun t516 => (if t516 < 0 then (some true) else ((laws_toHeardS.f k l0).bind fun t517 => ((laws_toPlan.f k a1_0 a1_1 l1_2).bind fun bt520 => ((spec_HeardOwners.f k t517 bt520.1 bt520.2.1 bt520.2.2).bind fun t525 => ((laws_toHeardS.f k l0).bind fun t528 => ((laws_toPlan.f k a1_0 a1_1 l1_2).bind fun bt531 => ((impl_HeardOwners.f k t528 bt531.1 bt531.2.1 bt531.2.2).bind fun t537 => ((laws_eqIntS.f k t537 t525).bind fun t540 => (if t540 = true then ((laws_toHeardS.f k l0).bind fun t541 => ((laws_eqHeardS.f k t528 t541).bind fun t544 => (if t544 = true then ((laws_toPlan.f k a1_0 a1_1 l1_2).bind fun bt545 => ((laws_eqPlan.f k bt531.1 bt531.2.1 bt531.2.2 bt545.1 bt545.2.1 bt545.2.2).bind fun t550 => (if t550 = true then ((laws_markHeardS.f k t528 1).bind fun bt551 => ((laws_markPlan.f k bt531.1 bt531.2.1 bt531.2.2 bt551.1).bind fun bt553 => (if bt553.1 < 0 then (laws_FnExactHeardOwners.j0 k l0 t525 t537 true a1_0 a1_1 l1_2) else ((laws_eqIntS.f k t537 t525).bind fun t555 => (laws_FnExactHeardOwners.j0 k l0 t525 t537 (!t555) a1_0 a1_1 l1_2))))) else (some false)))) else (some false)))) else (some false)))))))))))) = some r := H
  have A3 := Aside0.mk A30
  clear A30
  by_cases c4 : t515 < 0
  · rw [if_pos c4] at H
    have c4b0 : decide (t515 < 0) = true := decide_eq_true c4
    clear c4
    obtain rfl := Option.some.inj H
    go_enter Try.func4, Try.ntmps4
    go_wp2_with (first | ((with_reducible refine gate_dst (N := 3) rfl ?_); refine box_event ?hg (N := 3) ?hd (cs := #[.int .i64 a1_0, .int .i64 a1_1, .slice A1_2 l1_2.length c1_2]) (t := 25) ?hr ?_; (case hd => rfl); (case hg => rfl); (case hr => first | (go_simp; done) | (go_simp; rfl)); intro gb514 hg w5 hbox hb; have n0_ := Aside0.mk (below_step (hb_ HB.out) hb); have n1_ := Aside0.mk (hbox); have n2_ := Aside0.mk ((by rw [hg]; exact (below_size (hb_ HB.out)) : w.heap.size ≤ gb514)); have n3_ := Aside0.mk ((by rw [hg]; exact (below_size (hb_ HB.out)) : w.heap.size ≤ gb514)); clear HB; have HB := n0_; have BK514 := n1_; have GW514 := n2_; have GE514 := n3_; clear n0_ n1_ n2_ n3_; clear hb hbox hg) | ((with_reducible refine gate_callee (f := 8) rfl ?_); refine goesL_ (some 16) rfl rfl Try.func8 (by kernel_rfl) rfl #[.slice A0 l0.length c0, .int .i64 1048576] rfl arr_ ?_; (with_reducible refine (laws_szHeardS.calls _ _ l0 1048576 t515 _ ?side1 ?side2 A3.out).mono ?_); (case side1 => exact kc_ (Kd.C_below HR0.out HB.out)); (case side2 => exact HC0.out); rintro e w' ⟨rfl, ⟨nd, rfl⟩⟩; refine ⟨_, rfl, ?_⟩))
    go_ret
    exact ⟨er_, hb1_ HB.out GE514.out⟩
  · rw [if_neg c4] at H
    have c4b0 : decide (t515 < 0) = false := decide_eq_false c4
    clear c4
    replace H := Option.bind_eq_some_iff.mp H
    obtain ⟨t516, A60, H⟩ := H
    replace H : (if t516 < 0 then (some true) else ((laws_toHeardS.f k l0).bind fun t517 => ((laws_toPlan.f k a1_0 a1_1 l1_2).bind fun bt520 => ((spec_HeardOwners.f k t517 bt520.1 bt520.2.1 bt520.2.2).bind fun t525 => ((laws_toHeardS.f k l0).bind fun t528 => ((laws_toPlan.f k a1_0 a1_1 l1_2).bind fun bt531 => ((impl_HeardOwners.f k t528 bt531.1 bt531.2.1 bt531.2.2).bind fun t537 => ((laws_eqIntS.f k t537 t525).bind fun t540 => (if t540 = true then ((laws_toHeardS.f k l0).bind fun t541 => ((laws_eqHeardS.f k t528 t541).bind fun t544 => (if t544 = true then ((laws_toPlan.f k a1_0 a1_1 l1_2).bind fun bt545 => ((laws_eqPlan.f k bt531.1 bt531.2.1 bt531.2.2 bt545.1 bt545.2.1 bt545.2.2).bind fun t550 => (if t550 = true then ((laws_markHeardS.f k t528 1).bind fun bt551 => ((laws_markPlan.f k bt531.1 bt531.2.1 bt531.2.2 bt551.1).bind fun bt553 => (if bt553.1 < 0 then (laws_FnExactHeardOwners.j0 k l0 t525 t537 true a1_0 a1_1 l1_2) else ((laws_eqIntS.f k t537 t525).bind fun t555 => (laws_FnExactHeardOwners.j0 k l0 t525 t537 (!t555) a1_0 a1_1 l1_2))))) else (some false)))) else (some false)))) else (some false)))))))))) = some r := H
    have A6 := Aside0.mk A60
    clear A60
    by_cases c7 : t516 < 0
    · rw [if_pos c7] at H
      have c7b0 : decide (t516 < 0) = true := decide_eq_true c7
      clear c7
      obtain rfl := Option.some.inj H
      go_enter Try.func4, Try.ntmps4
      go_wp2_with (first | ((with_reducible refine gate_dst (N := 3) rfl ?_); refine box_event ?hg (N := 3) ?hd (cs := #[.int .i64 a1_0, .int .i64 a1_1, .slice A1_2 l1_2.length c1_2]) (t := 25) ?hr ?_; (case hd => rfl); (case hg => rfl); (case hr => first | (go_simp; done) | (go_simp; rfl)); intro gb514 hg w8 hbox hb; have n0_ := Aside0.mk (below_step (hb_ HB.out) hb); have n1_ := Aside0.mk (hbox); have n2_ := Aside0.mk ((by rw [hg]; exact (below_size (hb_ HB.out)) : w.heap.size ≤ gb514)); have n3_ := Aside0.mk ((by rw [hg]; exact (below_size (hb_ HB.out)) : w.heap.size ≤ gb514)); clear HB; have HB := n0_; have BK514 := n1_; have GW514 := n2_; have GE514 := n3_; clear n0_ n1_ n2_ n3_; clear hb hbox hg) | ((with_reducible refine gate_callee (f := 8) rfl ?_); refine goesL_ (some 16) rfl rfl Try.func8 (by kernel_rfl) rfl #[.slice A0 l0.length c0, .int .i64 1048576] rfl arr_ ?_; (with_reducible refine (laws_szHeardS.calls _ _ l0 1048576 t515 _ ?side1 ?side2 A3.out).mono ?_); (case side1 => exact kc_ (Kd.C_below HR0.out HB.out)); (case side2 => exact HC0.out); rintro e w' ⟨rfl, ⟨nd, rfl⟩⟩; refine ⟨_, rfl, ?_⟩; have hcz9_0 := bc_ BK514.out 0 (.int .i64 a1_0) rfl; have hcz9_1 := bc_ BK514.out 1 (.int .i64 a1_1) rfl; have hcz9_2 := bc_ BK514.out 2 (.slice A1_2 l1_2.length c1_2) rfl; have hfz9_0 := blk_frozen BK514.out 0; have hfz9_1 := blk_frozen BK514.out 1; have hfz9_2 := blk_frozen BK514.out 2) | ((with_reducible refine gate_callee (f := 9) rfl ?_); refine goesL_ (some 21) rfl rfl Try.func9 (by kernel_rfl) rfl #[.agg #[.int .i64 a1_0, .int .i64 a1_1, .slice A1_2 l1_2.length c1_2], .int .i64 t515] rfl arr_ ?_; (with_reducible refine (laws_szPlan.calls a1_0 a1_1 _ _ l1_2 t515 t516 _ ?side1 ?side2 A6.out).mono ?_); (case side1 => repeat (first | exact (Kd.C_below HR1_2.out (hb1_ HB.out GE514.out)) | (with_reducible refine Kd.C_alloc ?_ _) | (with_reducible refine Kd.C_drewN ?_ _) | (with_reducible refine Kd.C_drew ?_))); (case side2 => exact HC1_2.out); rintro e w10 ⟨rfl, hb⟩; refine ⟨_, rfl, ?_⟩; have n0_ := Aside0.mk (bb_ BK514.out hb); have n1_ := Aside0.mk (below_step (hb1_ HB.out GE514.out) hb); clear BK514; clear HB; have BK514 := n0_; have HB := n1_; clear n0_ n1_; (try clear hb); (try clear hb2); (try clear hk); (try clear hi)))
      go_ret
      exact ⟨er_, hb1_ HB.out GE514.out⟩
    · rw [if_neg c7] at H
      have c7b0 : decide (t516 < 0) = false := decide_eq_false c7
      clear c7
      replace H := Option.bind_eq_some_iff.mp H
      obtain ⟨t517, A110, H⟩ := H
      replace H : ((laws_toPlan.f k a1_0 a1_1 l1_2).bind fun bt520 => ((spec_HeardOwners.f k t517 bt520.1 bt520.2.1 bt520.2.2).bind fun t525 => ((laws_toHeardS.f k l0).bind fun t528 => ((laws_toPlan.f k a1_0 a1_1 l1_2).bind fun bt531 => ((impl_HeardOwners.f k t528 bt531.1 bt531.2.1 bt531.2.2).bind fun t537 => ((laws_eqIntS.f k t537 t525).bind fun t540 => (if t540 = true then ((laws_toHeardS.f k l0).bind fun t541 => ((laws_eqHeardS.f k t528 t541).bind fun t544 => (if t544 = true then ((laws_toPlan.f k a1_0 a1_1 l1_2).bind fun bt545 => ((laws_eqPlan.f k bt531.1 bt531.2.1 bt531.2.2 bt545.1 bt545.2.1 bt545.2.2).bind fun t550 => (if t550 = true then ((laws_markHeardS.f k t528 1).bind fun bt551 => ((laws_markPlan.f k bt531.1 bt531.2.1 bt531.2.2 bt551.1).bind fun bt553 => (if bt553.1 < 0 then (laws_FnExactHeardOwners.j0 k l0 t525 t537 true a1_0 a1_1 l1_2) else ((laws_eqIntS.f k t537 t525).bind fun t555 => (laws_FnExactHeardOwners.j0 k l0 t525 t537 (!t555) a1_0 a1_1 l1_2))))) else (some false)))) else (some false)))) else (some false)))))))) = some r := H
      have A11 := Aside0.mk A110
      clear A110
      replace H := Option.bind_eq_some_iff.mp H
      obtain ⟨⟨t520, t521, t522⟩, A120, H⟩ := H
      replace H : ((spec_HeardOwners.f k t517 t520 t521 t522).bind fun t525 => ((laws_toHeardS.f k l0).bind fun t528 => ((laws_toPlan.f k a1_0 a1_1 l1_2).bind fun bt531 => ((impl_HeardOwners.f k t528 bt531.1 bt531.2.1 bt531.2.2).bind fun t537 => ((laws_eqIntS.f k t537 t525).bind fun t540 => (if t540 = true then ((laws_toHeardS.f k l0).bind fun t541 => ((laws_eqHeardS.f k t528 t541).bind fun t544 => (if t544 = true then ((laws_toPlan.f k a1_0 a1_1 l1_2).bind fun bt545 => ((laws_eqPlan.f k bt531.1 bt531.2.1 bt531.2.2 bt545.1 bt545.2.1 bt545.2.2).bind fun t550 => (if t550 = true then ((laws_markHeardS.f k t528 1).bind fun bt551 => ((laws_markPlan.f k bt531.1 bt531.2.1 bt531.2.2 bt551.1).bind fun bt553 => (if bt553.1 < 0 then (laws_FnExactHeardOwners.j0 k l0 t525 t537 true a1_0 a1_1 l1_2) else ((laws_eqIntS.f k t537 t525).bind fun t555 => (laws_FnExactHeardOwners.j0 k l0 t525 t537 (!t555) a1_0 a1_1 l1_2))))) else (some false)))) else (some false)))) else (some false))))))) = some r := H
      have A12 := Aside0.mk A120
      clear A120
      replace H := Option.bind_eq_some_iff.mp H
      obtain ⟨t525, A130, H⟩ := H
      replace H : ((laws_toHeardS.f k l0).bind fun t528 => ((laws_toPlan.f k a1_0 a1_1 l1_2).bind fun bt531 => ((impl_HeardOwners.f k t528 bt531.1 bt531.2.1 bt531.2.2).bind fun t537 => ((laws_eqIntS.f k t537 t525).bind fun t540 => (if t540 = true then ((laws_toHeardS.f k l0).bind fun t541 => ((laws_eqHeardS.f k t528 t541).bind fun t544 => (if t544 = true then ((laws_toPlan.f k a1_0 a1_1 l1_2).bind fun bt545 => ((laws_eqPlan.f k bt531.1 bt531.2.1 bt531.2.2 bt545.1 bt545.2.1 bt545.2.2).bind fun t550 => (if t550 = true then ((laws_markHeardS.f k t528 1).bind fun bt551 => ((laws_markPlan.f k bt531.1 bt531.2.1 bt531.2.2 bt551.1).bind fun bt553 => (if bt553.1 < 0 then (laws_FnExactHeardOwners.j0 k l0 t525 t537 true a1_0 a1_1 l1_2) else ((laws_eqIntS.f k t537 t525).bind fun t555 => (laws_FnExactHeardOwners.j0 k l0 t525 t537 (!t555) a1_0 a1_1 l1_2))))) else (some false)))) else (some false)))) else (some false)))))) = some r := H
      have A13 := Aside0.mk A130
      clear A130
      replace H := Option.bind_eq_some_iff.mp H
      obtain ⟨t528, A140, H⟩ := H
      replace H : ((laws_toPlan.f k a1_0 a1_1 l1_2).bind fun bt531 => ((impl_HeardOwners.f k t528 bt531.1 bt531.2.1 bt531.2.2).bind fun t537 => ((laws_eqIntS.f k t537 t525).bind fun t540 => (if t540 = true then ((laws_toHeardS.f k l0).bind fun t541 => ((laws_eqHeardS.f k t528 t541).bind fun t544 => (if t544 = true then ((laws_toPlan.f k a1_0 a1_1 l1_2).bind fun bt545 => ((laws_eqPlan.f k bt531.1 bt531.2.1 bt531.2.2 bt545.1 bt545.2.1 bt545.2.2).bind fun t550 => (if t550 = true then ((laws_markHeardS.f k t528 1).bind fun bt551 => ((laws_markPlan.f k bt531.1 bt531.2.1 bt531.2.2 bt551.1).bind fun bt553 => (if bt553.1 < 0 then (laws_FnExactHeardOwners.j0 k l0 t525 t537 true a1_0 a1_1 l1_2) else ((laws_eqIntS.f k t537 t525).bind fun t555 => (laws_FnExactHeardOwners.j0 k l0 t525 t537 (!t555) a1_0 a1_1 l1_2))))) else (some false)))) else (some false)))) else (some false))))) = some r := H
      have A14 := Aside0.mk A140
      clear A140
      replace H := Option.bind_eq_some_iff.mp H
      obtain ⟨⟨t531, t532, t533⟩, A150, H⟩ := H
      replace H : ((impl_HeardOwners.f k t528 t531 t532 t533).bind fun t537 => ((laws_eqIntS.f k t537 t525).bind fun t540 => (if t540 = true then ((laws_toHeardS.f k l0).bind fun t541 => ((laws_eqHeardS.f k t528 t541).bind fun t544 => (if t544 = true then ((laws_toPlan.f k a1_0 a1_1 l1_2).bind fun bt545 => ((laws_eqPlan.f k t531 t532 t533 bt545.1 bt545.2.1 bt545.2.2).bind fun t550 => (if t550 = true then ((laws_markHeardS.f k t528 1).bind fun bt551 => ((laws_markPlan.f k t531 t532 t533 bt551.1).bind fun bt553 => (if bt553.1 < 0 then (laws_FnExactHeardOwners.j0 k l0 t525 t537 true a1_0 a1_1 l1_2) else ((laws_eqIntS.f k t537 t525).bind fun t555 => (laws_FnExactHeardOwners.j0 k l0 t525 t537 (!t555) a1_0 a1_1 l1_2))))) else (some false)))) else (some false)))) else (some false)))) = some r := H
      have A15 := Aside0.mk A150
      clear A150
      replace H := Option.bind_eq_some_iff.mp H
      obtain ⟨t537, A160, H⟩ := H
      replace H : ((laws_eqIntS.f k t537 t525).bind fun t540 => (if t540 = true then ((laws_toHeardS.f k l0).bind fun t541 => ((laws_eqHeardS.f k t528 t541).bind fun t544 => (if t544 = true then ((laws_toPlan.f k a1_0 a1_1 l1_2).bind fun bt545 => ((laws_eqPlan.f k t531 t532 t533 bt545.1 bt545.2.1 bt545.2.2).bind fun t550 => (if t550 = true then ((laws_markHeardS.f k t528 1).bind fun bt551 => ((laws_markPlan.f k t531 t532 t533 bt551.1).bind fun bt553 => (if bt553.1 < 0 then (laws_FnExactHeardOwners.j0 k l0 t525 t537 true a1_0 a1_1 l1_2) else ((laws_eqIntS.f k t537 t525).bind fun t555 => (laws_FnExactHeardOwners.j0 k l0 t525 t537 (!t555) a1_0 a1_1 l1_2))))) else (some false)))) else (some false)))) else (some false))) = some r := H
      have A16 := Aside0.mk A160
      clear A160
      replace H := Option.bind_eq_some_iff.mp H
      obtain ⟨t540, A170, H⟩ := H
      replace H : (if t540 = true then ((laws_toHeardS.f k l0).bind fun t541 => ((laws_eqHeardS.f k t528 t541).bind fun t544 => (if t544 = true then ((laws_toPlan.f k a1_0 a1_1 l1_2).bind fun bt545 => ((laws_eqPlan.f k t531 t532 t533 bt545.1 bt545.2.1 bt545.2.2).bind fun t550 => (if t550 = true then ((laws_markHeardS.f k t528 1).bind fun bt551 => ((laws_markPlan.f k t531 t532 t533 bt551.1).bind fun bt553 => (if bt553.1 < 0 then (laws_FnExactHeardOwners.j0 k l0 t525 t537 true a1_0 a1_1 l1_2) else ((laws_eqIntS.f k t537 t525).bind fun t555 => (laws_FnExactHeardOwners.j0 k l0 t525 t537 (!t555) a1_0 a1_1 l1_2))))) else (some false)))) else (some false)))) else (some false)) = some r := H
      have A17 := Aside0.mk A170
      clear A170
      by_cases c18 : t540 = true
      · subst c18
        have H1 : ((laws_toHeardS.f k l0).bind fun t541 => ((laws_eqHeardS.f k t528 t541).bind fun t544 => (if t544 = true then ((laws_toPlan.f k a1_0 a1_1 l1_2).bind fun bt545 => ((laws_eqPlan.f k t531 t532 t533 bt545.1 bt545.2.1 bt545.2.2).bind fun t550 => (if t550 = true then ((laws_markHeardS.f k t528 1).bind fun bt551 => ((laws_markPlan.f k t531 t532 t533 bt551.1).bind fun bt553 => (if bt553.1 < 0 then (laws_FnExactHeardOwners.j0 k l0 t525 t537 true a1_0 a1_1 l1_2) else ((laws_eqIntS.f k t537 t525).bind fun t555 => (laws_FnExactHeardOwners.j0 k l0 t525 t537 (!t555) a1_0 a1_1 l1_2))))) else (some false)))) else (some false)))) = some r := by rw [if_pos rfl] at H; exact H
        clear H
        have H := H1
        clear H1
        replace H := Option.bind_eq_some_iff.mp H
        obtain ⟨t541, A190, H⟩ := H
        replace H : ((laws_eqHeardS.f k t528 t541).bind fun t544 => (if t544 = true then ((laws_toPlan.f k a1_0 a1_1 l1_2).bind fun bt545 => ((laws_eqPlan.f k t531 t532 t533 bt545.1 bt545.2.1 bt545.2.2).bind fun t550 => (if t550 = true then ((laws_markHeardS.f k t528 1).bind fun bt551 => ((laws_markPlan.f k t531 t532 t533 bt551.1).bind fun bt553 => (if bt553.1 < 0 then (laws_FnExactHeardOwners.j0 k l0 t525 t537 true a1_0 a1_1 l1_2) else ((laws_eqIntS.f k t537 t525).bind fun t555 => (laws_FnExactHeardOwners.j0 k l0 t525 t537 (!t555) a1_0 a1_1 l1_2))))) else (some false)))) else (some false))) = some r := H
        have A19 := Aside0.mk A190
        clear A190
        replace H := Option.bind_eq_some_iff.mp H
        obtain ⟨t544, A200, H⟩ := H
        replace H : (if t544 = true then ((laws_toPlan.f k a1_0 a1_1 l1_2).bind fun bt545 => ((laws_eqPlan.f k t531 t532 t533 bt545.1 bt545.2.1 bt545.2.2).bind fun t550 => (if t550 = true then ((laws_markHeardS.f k t528 1).bind fun bt551 => ((laws_markPlan.f k t531 t532 t533 bt551.1).bind fun bt553 => (if bt553.1 < 0 then (laws_FnExactHeardOwners.j0 k l0 t525 t537 true a1_0 a1_1 l1_2) else ((laws_eqIntS.f k t537 t525).bind fun t555 => (laws_FnExactHeardOwners.j0 k l0 t525 t537 (!t555) a1_0 a1_1 l1_2))))) else (some false)))) else (some false)) = some r := H
        have A20 := Aside0.mk A200
        clear A200
        by_cases c21 : t544 = true
        · subst c21
          have H1 : ((laws_toPlan.f k a1_0 a1_1 l1_2).bind fun bt545 => ((laws_eqPlan.f k t531 t532 t533 bt545.1 bt545.2.1 bt545.2.2).bind fun t550 => (if t550 = true then ((laws_markHeardS.f k t528 1).bind fun bt551 => ((laws_markPlan.f k t531 t532 t533 bt551.1).bind fun bt553 => (if bt553.1 < 0 then (laws_FnExactHeardOwners.j0 k l0 t525 t537 true a1_0 a1_1 l1_2) else ((laws_eqIntS.f k t537 t525).bind fun t555 => (laws_FnExactHeardOwners.j0 k l0 t525 t537 (!t555) a1_0 a1_1 l1_2))))) else (some false)))) = some r := by rw [if_pos rfl] at H; exact H
          clear H
          have H := H1
          clear H1
          replace H := Option.bind_eq_some_iff.mp H
          obtain ⟨⟨t545, t546, t547⟩, A220, H⟩ := H
          replace H : ((laws_eqPlan.f k t531 t532 t533 t545 t546 t547).bind fun t550 => (if t550 = true then ((laws_markHeardS.f k t528 1).bind fun bt551 => ((laws_markPlan.f k t531 t532 t533 bt551.1).bind fun bt553 => (if bt553.1 < 0 then (laws_FnExactHeardOwners.j0 k l0 t525 t537 true a1_0 a1_1 l1_2) else ((laws_eqIntS.f k t537 t525).bind fun t555 => (laws_FnExactHeardOwners.j0 k l0 t525 t537 (!t555) a1_0 a1_1 l1_2))))) else (some false))) = some r := H
          have A22 := Aside0.mk A220
          clear A220
          replace H := Option.bind_eq_some_iff.mp H
          obtain ⟨t550, A230, H⟩ := H
          replace H : (if t550 = true then ((laws_markHeardS.f k t528 1).bind fun bt551 => ((laws_markPlan.f k t531 t532 t533 bt551.1).bind fun bt553 => (if bt553.1 < 0 then (laws_FnExactHeardOwners.j0 k l0 t525 t537 true a1_0 a1_1 l1_2) else ((laws_eqIntS.f k t537 t525).bind fun t555 => (laws_FnExactHeardOwners.j0 k l0 t525 t537 (!t555) a1_0 a1_1 l1_2))))) else (some false)) = some r := H
          have A23 := Aside0.mk A230
          clear A230
          by_cases c24 : t550 = true
          · subst c24
            have H1 : ((laws_markHeardS.f k t528 1).bind fun bt551 => ((laws_markPlan.f k t531 t532 t533 bt551.1).bind fun bt553 => (if bt553.1 < 0 then (laws_FnExactHeardOwners.j0 k l0 t525 t537 true a1_0 a1_1 l1_2) else ((laws_eqIntS.f k t537 t525).bind fun t555 => (laws_FnExactHeardOwners.j0 k l0 t525 t537 (!t555) a1_0 a1_1 l1_2))))) = some r := by rw [if_pos rfl] at H; exact H
            clear H
            have H := H1
            clear H1
            replace H := Option.bind_eq_some_iff.mp H
            obtain ⟨⟨t551, t552⟩, A250, H⟩ := H
            replace H : ((laws_markPlan.f k t531 t532 t533 t551).bind fun bt553 => (if bt553.1 < 0 then (laws_FnExactHeardOwners.j0 k l0 t525 t537 true a1_0 a1_1 l1_2) else ((laws_eqIntS.f k t537 t525).bind fun t555 => (laws_FnExactHeardOwners.j0 k l0 t525 t537 (!t555) a1_0 a1_1 l1_2)))) = some r := H
            have A25 := Aside0.mk A250
            clear A250
            replace H := Option.bind_eq_some_iff.mp H
            obtain ⟨⟨t553, t554⟩, A260, H⟩ := H
            replace H : (if t553 < 0 then (laws_FnExactHeardOwners.j0 k l0 t525 t537 true a1_0 a1_1 l1_2) else ((laws_eqIntS.f k t537 t525).bind fun t555 => (laws_FnExactHeardOwners.j0 k l0 t525 t537 (!t555) a1_0 a1_1 l1_2))) = some r := H
            have A26 := Aside0.mk A260
            clear A260
            have HC27 := Aside0.mk H
            clear H
            go_enter Try.func4, Try.ntmps4
            try go_wp2_with (first | ((with_reducible refine gate_dst (N := 3) rfl ?_); refine box_event ?hg (N := 3) ?hd (cs := #[.int .i64 a1_0, .int .i64 a1_1, .slice A1_2 l1_2.length c1_2]) (t := 25) ?hr ?_; (case hd => rfl); (case hg => rfl); (case hr => first | (go_simp; done) | (go_simp; rfl)); intro gb514 hg w28 hbox hb; have n0_ := Aside0.mk (below_step (hb_ HB.out) hb); have n1_ := Aside0.mk (hbox); have n2_ := Aside0.mk ((by rw [hg]; exact (below_size (hb_ HB.out)) : w.heap.size ≤ gb514)); have n3_ := Aside0.mk ((by rw [hg]; exact (below_size (hb_ HB.out)) : w.heap.size ≤ gb514)); clear HB; have HB := n0_; have BK514 := n1_; have GW514 := n2_; have GE514 := n3_; clear n0_ n1_ n2_ n3_; clear hb hbox hg) | ((with_reducible refine gate_callee (f := 8) rfl ?_); refine goesL_ (some 16) rfl rfl Try.func8 (by kernel_rfl) rfl #[.slice A0 l0.length c0, .int .i64 1048576] rfl arr_ ?_; (with_reducible refine (laws_szHeardS.calls _ _ l0 1048576 t515 _ ?side1 ?side2 A3.out).mono ?_); (case side1 => exact kc_ (Kd.C_below HR0.out HB.out)); (case side2 => exact HC0.out); rintro e w' ⟨rfl, ⟨nd, rfl⟩⟩; refine ⟨_, rfl, ?_⟩; (try (rw [drewN_self w28]; generalize hq_ : World.drewN w28 _ = w28; have n0_ : Aside0 (w28.heap[gb514]? = some (.cells #[.int .i64 a1_0, .int .i64 a1_1, .slice A1_2 l1_2.length c1_2] 25 (0, 0))) := ⟨by rw [← hq_]; exact (bk_ BK514.out)⟩; have n1_ : Aside0 (Below w.heap.size w w28) := ⟨by rw [← hq_]; exact (hb1_ HB.out GE514.out)⟩; clear BK514 HB hq_; have BK514 := n0_; have HB := n1_; clear n0_ n1_)); have hcz29_0 := bc_ BK514.out 0 (.int .i64 a1_0) rfl; have hcz29_1 := bc_ BK514.out 1 (.int .i64 a1_1) rfl; have hcz29_2 := bc_ BK514.out 2 (.slice A1_2 l1_2.length c1_2) rfl; have hfz29_0 := blk_frozen BK514.out 0; have hfz29_1 := blk_frozen BK514.out 1; have hfz29_2 := blk_frozen BK514.out 2) | ((with_reducible refine gate_callee (f := 9) rfl ?_); refine goesL_ (some 21) rfl rfl Try.func9 (by kernel_rfl) rfl #[.agg #[.int .i64 a1_0, .int .i64 a1_1, .slice A1_2 l1_2.length c1_2], .int .i64 t515] rfl arr_ ?_; (with_reducible refine (laws_szPlan.calls a1_0 a1_1 _ _ l1_2 t515 t516 _ ?side1 ?side2 A6.out).mono ?_); (case side1 => exact kc_ (Kd.C_below HR1_2.out HB.out)); (case side2 => exact HC1_2.out); rintro e w30 ⟨rfl, hb⟩; refine ⟨_, rfl, ?_⟩; have n0_ := Aside0.mk (bb_ BK514.out hb); have n1_ := Aside0.mk (below_step (hb1_ HB.out GE514.out) hb); clear BK514; clear HB; have BK514 := n0_; have HB := n1_; clear n0_ n1_; (try clear hb); (try clear hb2); (try clear hk); (try clear hi)))
            have n0_ := Aside0.mk (blk_drew BK514.out)
            have n1_ := Aside0.mk (below_drew1 HB.out)
            clear BK514
            clear HB
            have BK514 := n0_
            have HB := n1_
            clear n0_ n1_
            refine start_ (n := 6) (S := fun w' => w'.cell? ⟨gb514, 0, none⟩ = some (.int .i64 a1_0) ∧ w'.cell? ⟨gb514, 1, none⟩ = some (.int .i64 a1_1) ∧ w'.cell? ⟨gb514, 2, none⟩ = some (.slice A1_2 l1_2.length c1_2)) (ds := []) #[false, false, false, false, false, false] (by kernel_rfl) rfl rfl ⟨(blk_cell BK514.out 0).trans rfl, (blk_cell BK514.out 1).trans rfl, (blk_cell BK514.out 2).trans rfl⟩ (fun hHeld => ?_)
            generalize w30.drew = w31 at BK514 HB hHeld ⊢
            refine pure_ (i := 0) (N := some 24) (v := ?_) (a' := ?_) #[true, false, false, false, false, false] rfl rfl (by kernel_rfl) (fun _ _ _ h => h) (Or.inl ⟨by rfl, ?_⟩) ?_ ?_
            rotate_left
            · intro w'
              go_simp
              with_reducible rfl
            rotate_left
            · simp only [Act.put, List.setIfInBounds_toArray, List.set_cons_zero, List.set_cons_succ, i64_w, i32_w]
              rfl
            refine take_ (i := 2) (N := some 26) (v := ?_) (a' := ?_) #[true, false, true, false, false, false] rfl rfl (by kernel_rfl) (fun _ _ _ h => h) (Or.inl ⟨by rfl, ?_⟩) hHeld ?_ ?_
            rotate_left
            · rintro w' ⟨s0, s1, s2⟩
              go_simp
              with_reducible rfl
            rotate_left
            · simp only [Act.put, List.setIfInBounds_toArray, List.set_cons_zero, List.set_cons_succ, i64_w, i32_w]
              rfl
            refine one_ (i := 1) (N := some 25) #[true, true, true, false, false, false] rfl rfl (by kernel_rfl) (by decide) (fun K hK => ?_)
            refine goes_ Try.func12 (by kernel_rfl) rfl #[.slice A0 l0.length c0] (by rfl) rfl rfl arr_ ?_
            with_reducible refine (laws_toHeardS.calls k _ _ l0 t517 _ ?side1 ?side2 A11.out).mono ?_
            (case side1 => exact kc_ (Kd.C_below HR0.out HB.out))
            (case side2 => exact HC0.out)
            rintro e w32 ⟨v518, rfl, ho0, hb⟩
            refine ⟨_, rfl, ?_⟩
            have n0_ := Aside0.mk (Kd.R_lower ho0 (below_size (hb1_ HB.out GE514.out)))
            have n1_ := Aside0.mk (bb_ BK514.out hb)
            have n2_ := Aside0.mk (below_step (hb1_ HB.out GE514.out) hb)
            clear BK514
            clear HB
            have HO519 := n0_
            have BK514 := n1_
            have HB := n2_
            clear n0_ n1_ n2_
            (try clear hb)
            (try clear hb2)
            (try clear hk)
            (try clear hi)
            (try clear ho0)
            refine hK.out _ _ ⟨(blk_cell BK514.out 0).trans rfl, (blk_cell BK514.out 1).trans rfl, (blk_cell BK514.out 2).trans rfl⟩ (fun hHeld => ?_)
            clear hK K
            refine norm_ (a' := ?_) ?_ ?_
            rotate_left
            · show Act.put _ (some 25) _ = _
              simp only [Act.put, List.setIfInBounds_toArray, List.set_cons_zero, List.set_cons_succ, i64_w, i32_w]
              rfl
            refine one_ (i := 3) (N := some 27) #[true, true, true, true, false, false] rfl rfl (by kernel_rfl) (by decide) (fun K hK => ?_)
            refine goes_ Try.func13 (by kernel_rfl) rfl #[.agg #[.int .i64 a1_0, .int .i64 a1_1, .slice A1_2 l1_2.length c1_2]] (by rfl) rfl rfl arr_ ?_
            with_reducible refine (laws_toPlan.calls k a1_0 a1_1 _ _ l1_2 t520 t521 t522 _ ?side1 ?side2 A12.out).mono ?_
            (case side1 => exact kc_ (Kd.C_below HR1_2.out HB.out))
            (case side2 => exact HC1_2.out)
            rintro e w33 ⟨v523, rfl, ho0, hb⟩
            refine ⟨_, rfl, ?_⟩
            have n0_ := Aside0.mk (Kd.R_below (by (with_reducible repeat (first | apply Kd.R_alloc | apply Kd.R_drewN | apply Kd.R_drew)); exact HO519.out) hb)
            have n1_ := Aside0.mk (Kd.R_lower ho0 (below_size (hb1_ HB.out GE514.out)))
            have n2_ := Aside0.mk (bb_ BK514.out hb)
            have n3_ := Aside0.mk (below_step (hb1_ HB.out GE514.out) hb)
            clear HO519
            clear BK514
            clear HB
            have HO519 := n0_
            have HO524 := n1_
            have BK514 := n2_
            have HB := n3_
            clear n0_ n1_ n2_ n3_
            (try clear hb)
            (try clear hb2)
            (try clear hk)
            (try clear hi)
            (try clear ho0)
            obtain ⟨Ao34, co34, eo34⟩ := Kd.R_slice HO519.out
            (first | subst eo34 | (injection eo34 with f1_ f2_ f3_; have f4_ := f1_.symm; have f5_ := f3_.symm; clear f1_ f2_ f3_; subst f4_; subst f5_))
            obtain ⟨Ao35, co35, eo35⟩ := Kd.R_slice HO524.out
            (first | subst eo35 | (injection eo35 with f1_ f2_ f3_; have f4_ := f1_.symm; have f5_ := f3_.symm; clear f1_ f2_ f3_; subst f4_; subst f5_))
            refine hK.out _ _ ⟨(blk_cell BK514.out 0).trans rfl, (blk_cell BK514.out 1).trans rfl, (blk_cell BK514.out 2).trans rfl⟩ (fun hHeld => ?_)
            clear hK K
            refine norm_ (a' := ?_) ?_ ?_
            rotate_left
            · show Act.put _ (some 27) _ = _
              simp only [Act.put, List.setIfInBounds_toArray, List.set_cons_zero, List.set_cons_succ, i64_w, i32_w]
              rfl
            refine one_ (i := 4) (N := some 28) #[true, true, true, true, true, false] rfl rfl (by kernel_rfl) (by decide) (fun K hK => ?_)
            refine goes_ Try.func21 (by kernel_rfl) rfl #[.slice Ao34 t517.length co34, .agg #[.int .i64 t520, .int .i64 t521, .slice Ao35 t522.length co35]] (by rfl) rfl rfl arr_ ?_
            with_reducible refine (spec_HeardOwners.calls k _ _ t517 t520 t521 _ _ t522 t525 _ ?side1 ?side2 ?side3 ?side4 A13.out).mono ?_
            (case side1 => repeat (first | exact (Kd.R_reads' HO519.out).2.2 | (with_reducible refine Kd.C_alloc ?_ _) | (with_reducible refine Kd.C_drewN ?_ _) | (with_reducible refine Kd.C_drew ?_)))
            (case side2 => exact (Kd.R_reads' HO519.out).2.1)
            (case side3 => repeat (first | exact (Kd.R_reads' HO524.out).2.2 | (with_reducible refine Kd.C_alloc ?_ _) | (with_reducible refine Kd.C_drewN ?_ _) | (with_reducible refine Kd.C_drew ?_)))
            (case side4 => exact (Kd.R_reads' HO524.out).2.1)
            rintro e w36 ⟨v526, rfl, ho0, hb⟩
            refine ⟨_, rfl, ?_⟩
            have n0_ := Aside0.mk (Kd.R_below (by (with_reducible repeat (first | apply Kd.R_alloc | apply Kd.R_drewN | apply Kd.R_drew)); exact HO519.out) hb)
            have n1_ := Aside0.mk (Kd.R_below (by (with_reducible repeat (first | apply Kd.R_alloc | apply Kd.R_drewN | apply Kd.R_drew)); exact HO524.out) hb)
            have n2_ := Aside0.mk (Kd.R_lower ho0 (below_size (hb1_ HB.out GE514.out)))
            have n3_ := Aside0.mk (bb_ BK514.out hb)
            have n4_ := Aside0.mk (below_step (hb1_ HB.out GE514.out) hb)
            clear HO519
            clear HO524
            clear BK514
            clear HB
            have HO519 := n0_
            have HO524 := n1_
            have HO527 := n2_
            have BK514 := n3_
            have HB := n4_
            clear n0_ n1_ n2_ n3_ n4_
            (try clear hb)
            (try clear hb2)
            (try clear hk)
            (try clear hi)
            (try clear ho0)
            refine hK.out _ _ ⟨(blk_cell BK514.out 0).trans rfl, (blk_cell BK514.out 1).trans rfl, (blk_cell BK514.out 2).trans rfl⟩ (fun hHeld => ?_)
            clear hK K
            refine norm_ (a' := ?_) ?_ ?_
            rotate_left
            · show Act.put _ (some 28) _ = _
              simp only [Act.put, List.setIfInBounds_toArray, List.set_cons_zero, List.set_cons_succ, i64_w, i32_w]
              rfl
            refine pure_ (i := 5) (N := some 6) (v := ?_) (a' := ?_) #[true, true, true, true, true, true] rfl rfl (by kernel_rfl) (fun _ _ _ h => h) (Or.inl ⟨by rfl, ?_⟩) ?_ ?_
            rotate_left
            · intro w'
              go_simp
              with_reducible rfl
            rotate_left
            · simp only [Act.put, List.setIfInBounds_toArray, List.set_cons_zero, List.set_cons_succ, i64_w, i32_w]
              rfl
            refine done_ (by kernel_rfl) ?_
            try go_wp2_with (first | ((with_reducible refine gate_callee (f := 12) rfl ?_); refine goesL_ (some 30) rfl rfl Try.func12 (by kernel_rfl) rfl #[.slice A0 l0.length c0] rfl arr_ ?_; (with_reducible refine (laws_toHeardS.calls k _ _ l0 t528 _ ?side1 ?side2 A14.out).mono ?_); (case side1 => exact kc_ (Kd.C_below HR0.out HB.out)); (case side2 => exact HC0.out); rintro e w37 ⟨v529, rfl, ho0, hb⟩; refine ⟨_, rfl, ?_⟩; have n0_ := Aside0.mk (Kd.R_elder' (by (with_reducible repeat (first | apply Kd.R_alloc | apply Kd.R_drewN | apply Kd.R_drew)); exact HO519.out) (Kd.R_base ho0) hb); have n1_ := Aside0.mk (Kd.R_below (by (with_reducible repeat (first | apply Kd.R_alloc | apply Kd.R_drewN | apply Kd.R_drew)); exact HO524.out) hb); have n2_ := Aside0.mk (Kd.R_below (by (with_reducible repeat (first | apply Kd.R_alloc | apply Kd.R_drewN | apply Kd.R_drew)); exact HO527.out) hb); have n3_ := Aside0.mk (Kd.R_lower (Kd.R_new' ho0 (Kd.R_lt (by (with_reducible repeat (first | apply Kd.R_alloc | apply Kd.R_drewN | apply Kd.R_drew)); exact HO519.out))) (below_size (hb1_ HB.out GE514.out))); have n4_ := Aside0.mk (bb_ BK514.out hb); have n5_ := Aside0.mk (below_step (hb1_ HB.out GE514.out) hb); clear HO519; clear HO524; clear HO527; clear BK514; clear HB; have HO519 := n0_; have HO524 := n1_; have HO527 := n2_; have HO530 := n3_; have BK514 := n4_; have HB := n5_; clear n0_ n1_ n2_ n3_ n4_ n5_; (try clear hb); (try clear hb2); (try clear hk); (try clear hi); (try clear ho0); have hcz38_0 := bc_ BK514.out 0 (.int .i64 a1_0) rfl; have hcz38_1 := bc_ BK514.out 1 (.int .i64 a1_1) rfl; have hcz38_2 := bc_ BK514.out 2 (.slice A1_2 l1_2.length c1_2) rfl; have hfz38_0 := blk_frozen BK514.out 0; have hfz38_1 := blk_frozen BK514.out 1; have hfz38_2 := blk_frozen BK514.out 2) | ((with_reducible refine gate_callee (f := 13) rfl ?_); refine goesL_ (some 32) rfl rfl Try.func13 (by kernel_rfl) rfl #[.agg #[.int .i64 a1_0, .int .i64 a1_1, .slice A1_2 l1_2.length c1_2]] rfl arr_ ?_; (with_reducible refine (laws_toPlan.calls k a1_0 a1_1 _ _ l1_2 t531 t532 t533 _ ?side1 ?side2 A15.out).mono ?_); (case side1 => exact kc_ (Kd.C_below HR1_2.out HB.out)); (case side2 => exact HC1_2.out); rintro e w39 ⟨v534, rfl, ho0, hb⟩; refine ⟨_, rfl, ?_⟩; have n0_ := Aside0.mk (Kd.R_below (by (with_reducible repeat (first | apply Kd.R_alloc | apply Kd.R_drewN | apply Kd.R_drew)); exact HO519.out) hb); have n1_ := Aside0.mk (Kd.R_elder' (by (with_reducible repeat (first | apply Kd.R_alloc | apply Kd.R_drewN | apply Kd.R_drew)); exact HO524.out) (Kd.R_base ho0) hb); have n2_ := Aside0.mk (Kd.R_below (by (with_reducible repeat (first | apply Kd.R_alloc | apply Kd.R_drewN | apply Kd.R_drew)); exact HO527.out) hb); have n3_ := Aside0.mk (Kd.R_below (by (with_reducible repeat (first | apply Kd.R_alloc | apply Kd.R_drewN | apply Kd.R_drew)); exact HO530.out) hb); have n4_ := Aside0.mk (Kd.R_lower (Kd.R_new' ho0 (Kd.R_lt (by (with_reducible repeat (first | apply Kd.R_alloc | apply Kd.R_drewN | apply Kd.R_drew)); exact HO524.out))) (below_size (hb1_ HB.out GE514.out))); have n5_ := Aside0.mk (bb_ BK514.out hb); have n6_ := Aside0.mk (below_step (hb1_ HB.out GE514.out) hb); clear HO519; clear HO524; clear HO527; clear HO530; clear BK514; clear HB; have HO519 := n0_; have HO524 := n1_; have HO527 := n2_; have HO530 := n3_; have HO535 := n4_; have BK514 := n5_; have HB := n6_; clear n0_ n1_ n2_ n3_ n4_ n5_ n6_; (try clear hb); (try clear hb2); (try clear hk); (try clear hi); (try clear ho0)) | ((with_reducible refine gate_dst (N := 8) rfl ?_); refine box_event ?hg (N := 8) ?hd (cs := #[.int .i64 0, .int .i64 0, .slice none 0 0]) (t := 39) ?hr ?_; (case hd => rfl); (case hg => rfl); (case hr => first | (go_simp; done) | (go_simp; rfl)); intro gb536 hg w40 hbox hb; have n0_ := Aside0.mk (Kd.R_below (by (with_reducible repeat (first | apply Kd.R_alloc | apply Kd.R_drewN | apply Kd.R_drew)); exact HO519.out) hb); have n1_ := Aside0.mk (Kd.R_below (by (with_reducible repeat (first | apply Kd.R_alloc | apply Kd.R_drewN | apply Kd.R_drew)); exact HO524.out) hb); have n2_ := Aside0.mk (Kd.R_below (by (with_reducible repeat (first | apply Kd.R_alloc | apply Kd.R_drewN | apply Kd.R_drew)); exact HO527.out) hb); have n3_ := Aside0.mk (Kd.R_below (by (with_reducible repeat (first | apply Kd.R_alloc | apply Kd.R_drewN | apply Kd.R_drew)); exact HO530.out) hb); have n4_ := Aside0.mk (Kd.R_below (by (with_reducible repeat (first | apply Kd.R_alloc | apply Kd.R_drewN | apply Kd.R_drew)); exact HO535.out) hb); have n5_ := Aside0.mk (bb_ BK514.out hb); have n6_ := Aside0.mk (below_step (hb1_ HB.out GE514.out) hb); have n7_ := Aside0.mk (hbox); have n8_ := Aside0.mk ((by rw [hg]; exact (below_size (hb1_ HB.out GE514.out)) : w.heap.size ≤ gb536)); have n9_ := Aside0.mk ((by rw [hg]; exact (below_size (hb1_ HB.out GE514.out)) : w.heap.size ≤ gb536)); have n10_ := Aside0.mk ((bl_ hg BK514.out : gb514 ≠ gb536)); have n11_ := Aside0.mk ((bg_ hg BK514.out : gb536 ≠ gb514)); clear HO519; clear HO524; clear HO527; clear HO530; clear HO535; clear BK514; clear HB; have HO519 := n0_; have HO524 := n1_; have HO527 := n2_; have HO530 := n3_; have HO535 := n4_; have BK514 := n5_; have HB := n6_; have BK536 := n7_; have GW536 := n8_; have GE536 := n9_; have NB514_536 := n10_; have NB536_514 := n11_; clear n0_ n1_ n2_ n3_ n4_ n5_ n6_ n7_ n8_ n9_ n10_ n11_; clear hb hbox hg; have hnb41 := NB536_514.out; have hnc41 := NB514_536.out; have hcz42_0 := bc_ BK536.out 0 (.int .i64 0) rfl; have hcz42_1 := bc_ BK536.out 1 (.int .i64 0) rfl; have hcz42_2 := bc_ BK536.out 2 (.slice none 0 0) rfl; have hfz42_0 := blk_frozen BK536.out 0; have hfz42_1 := blk_frozen BK536.out 1; have hfz42_2 := blk_frozen BK536.out 2; obtain ⟨Ao43, co43, eo43⟩ := Kd.R_slice HO535.out; subst eo43; obtain ⟨Ao44, co44, eo44⟩ := Kd.R_slice HO530.out; subst eo44) | ((with_reducible refine gate_callee (f := 22) rfl ?_); refine goesL_ (some 35) rfl rfl Try.func22 (by kernel_rfl) rfl #[.slice Ao44 t528.length co44, .agg #[.int .i64 t531, .int .i64 t532, .slice Ao43 t533.length co43]] rfl arr_ ?_; (with_reducible refine (impl_HeardOwners.calls k _ _ t528 t531 t532 _ _ t533 t537 _ ?side1 ?side2 ?side3 ?side4 A16.out).mono ?_); (case side1 => refine (Kd.R_reads' (e := 81) (base := w.heap.size) (ok := fun k_ => (True ∧ some k_ ≠ (.slice Ao34 t517.length co34 : Value).ownBlock)) (n := t528.length) (c := co44) ?_).2.2; exact (by (with_reducible repeat (first | apply Kd.R_alloc | apply Kd.R_drewN | apply Kd.R_drew)); exact (Kd.R_mono (Kd.R_far (p := ⟨gb536, 2, none⟩) (Kd.R_far (p := ⟨gb536, 1, none⟩) (Kd.R_far (p := ⟨gb536, 0, none⟩) (Kd.R_types HO530.out BK536.out (by decide)) (fun _ hk => hk.2) (.int .i64 t531)) (fun _ hk => hk.2) (.int .i64 t532)) (fun _ hk => hk.2) (.slice Ao43 t533.length co43)) (fun _ h_ => h_.1)))); (case side2 => exact (Kd.R_reads' HO530.out).2.1); (case side3 => refine (Kd.R_reads' (e := 79) (base := w.heap.size) (ok := fun k_ => (True ∧ some k_ ≠ (.slice Ao35 t522.length co35 : Value).ownBlock)) (n := t533.length) (c := co43) ?_).2.2; exact (by (with_reducible repeat (first | apply Kd.R_alloc | apply Kd.R_drewN | apply Kd.R_drew)); exact (Kd.R_mono (Kd.R_far (p := ⟨gb536, 2, none⟩) (Kd.R_far (p := ⟨gb536, 1, none⟩) (Kd.R_far (p := ⟨gb536, 0, none⟩) (Kd.R_types HO535.out BK536.out (by decide)) (fun _ hk => hk.2) (.int .i64 t531)) (fun _ hk => hk.2) (.int .i64 t532)) (fun _ hk => hk.2) (.slice Ao43 t533.length co43)) (fun _ h_ => h_.1)))); (case side4 => exact (Kd.R_reads' HO535.out).2.1); rintro e w45 ⟨v538, rfl, ho0, hb⟩; refine ⟨_, rfl, ?_⟩; have n0_ := Aside0.mk (Kd.R_below (by (with_reducible repeat (first | apply Kd.R_alloc | apply Kd.R_drewN | apply Kd.R_drew)); exact (Kd.R_mono (Kd.R_far (p := ⟨gb536, 2, none⟩) (Kd.R_far (p := ⟨gb536, 1, none⟩) (Kd.R_far (p := ⟨gb536, 0, none⟩) (Kd.R_types HO519.out BK536.out (by decide)) (fun _ hk => hk.2) (.int .i64 t531)) (fun _ hk => hk.2) (.int .i64 t532)) (fun _ hk => hk.2) (.slice Ao43 t533.length co43)) (fun _ h_ => h_.1))) hb); have n1_ := Aside0.mk (Kd.R_below (by (with_reducible repeat (first | apply Kd.R_alloc | apply Kd.R_drewN | apply Kd.R_drew)); exact (Kd.R_mono (Kd.R_far (p := ⟨gb536, 2, none⟩) (Kd.R_far (p := ⟨gb536, 1, none⟩) (Kd.R_far (p := ⟨gb536, 0, none⟩) (Kd.R_types HO524.out BK536.out (by decide)) (fun _ hk => hk.2) (.int .i64 t531)) (fun _ hk => hk.2) (.int .i64 t532)) (fun _ hk => hk.2) (.slice Ao43 t533.length co43)) (fun _ h_ => h_.1))) hb); have n2_ := Aside0.mk (Kd.R_elder' (by (with_reducible repeat (first | apply Kd.R_alloc | apply Kd.R_drewN | apply Kd.R_drew)); exact (Kd.R_mono (Kd.R_far (p := ⟨gb536, 2, none⟩) (Kd.R_far (p := ⟨gb536, 1, none⟩) (Kd.R_far (p := ⟨gb536, 0, none⟩) (Kd.R_types HO527.out BK536.out (by decide)) (fun _ hk => hk.2) (.int .i64 t531)) (fun _ hk => hk.2) (.int .i64 t532)) (fun _ hk => hk.2) (.slice Ao43 t533.length co43)) (fun _ h_ => h_.1))) (Kd.R_base ho0) hb); have n3_ := Aside0.mk (Kd.R_below (by (with_reducible repeat (first | apply Kd.R_alloc | apply Kd.R_drewN | apply Kd.R_drew)); exact (Kd.R_mono (Kd.R_far (p := ⟨gb536, 2, none⟩) (Kd.R_far (p := ⟨gb536, 1, none⟩) (Kd.R_far (p := ⟨gb536, 0, none⟩) (Kd.R_types HO530.out BK536.out (by decide)) (fun _ hk => hk.2) (.int .i64 t531)) (fun _ hk => hk.2) (.int .i64 t532)) (fun _ hk => hk.2) (.slice Ao43 t533.length co43)) (fun _ h_ => h_.1))) hb); have n4_ := Aside0.mk (Kd.R_below (by (with_reducible repeat (first | apply Kd.R_alloc | apply Kd.R_drewN | apply Kd.R_drew)); exact (Kd.R_mono (Kd.R_far (p := ⟨gb536, 2, none⟩) (Kd.R_far (p := ⟨gb536, 1, none⟩) (Kd.R_far (p := ⟨gb536, 0, none⟩) (Kd.R_types HO535.out BK536.out (by decide)) (fun _ hk => hk.2) (.int .i64 t531)) (fun _ hk => hk.2) (.int .i64 t532)) (fun _ hk => hk.2) (.slice Ao43 t533.length co43)) (fun _ h_ => h_.1))) hb); have n5_ := Aside0.mk (Kd.R_lower (Kd.R_new' ho0 (Kd.R_lt (by (with_reducible repeat (first | apply Kd.R_alloc | apply Kd.R_drewN | apply Kd.R_drew)); exact (Kd.R_mono (Kd.R_far (p := ⟨gb536, 2, none⟩) (Kd.R_far (p := ⟨gb536, 1, none⟩) (Kd.R_far (p := ⟨gb536, 0, none⟩) (Kd.R_types HO527.out BK536.out (by decide)) (fun _ hk => hk.2) (.int .i64 t531)) (fun _ hk => hk.2) (.int .i64 t532)) (fun _ hk => hk.2) (.slice Ao43 t533.length co43)) (fun _ h_ => h_.1))))) (below_size (hb2_ HB.out GE514.out GE536.out))); have n6_ := Aside0.mk (blk_below (g := gb514) (o := .cells #[.int .i64 a1_0, .int .i64 a1_1, .slice A1_2 l1_2.length c1_2] 25 (0, 0)) (by (with_reducible repeat (first | refine blk_drewN ?_ _ | refine blk_drew ?_ | refine blk_alloc ?_ _)); refine blk_far ?_ NB514_536.out _; (with_reducible repeat (first | refine blk_drewN ?_ _ | refine blk_drew ?_ | refine blk_alloc ?_ _)); refine blk_far ?_ NB514_536.out _; (with_reducible repeat (first | refine blk_drewN ?_ _ | refine blk_drew ?_ | refine blk_alloc ?_ _)); refine blk_far ?_ NB514_536.out _; (with_reducible repeat (first | refine blk_drewN ?_ _ | refine blk_drew ?_ | refine blk_alloc ?_ _)); exact BK514.out) hb); have n7_ := Aside0.mk (blk_below (g := gb536) (o := .cells #[.int .i64 t531, .int .i64 t532, .slice Ao43 t533.length co43] 39 (0, 0)) (by (with_reducible repeat (first | refine blk_drewN ?_ _ | refine blk_drew ?_ | refine blk_alloc ?_ _)); refine blk_put (cs := #[.int .i64 t531, .int .i64 t532, .slice none 0 0]) ?_ 2 _ rfl; (with_reducible repeat (first | refine blk_drewN ?_ _ | refine blk_drew ?_ | refine blk_alloc ?_ _)); refine blk_put (cs := #[.int .i64 t531, .int .i64 0, .slice none 0 0]) ?_ 1 _ rfl; (with_reducible repeat (first | refine blk_drewN ?_ _ | refine blk_drew ?_ | refine blk_alloc ?_ _)); refine blk_put (cs := #[.int .i64 0, .int .i64 0, .slice none 0 0]) ?_ 0 _ rfl; (with_reducible repeat (first | refine blk_drewN ?_ _ | refine blk_drew ?_ | refine blk_alloc ?_ _)); exact BK536.out) hb); have n8_ := Aside0.mk (below_step (hb2_ HB.out GE514.out GE536.out) hb); clear HO519; clear HO524; clear HO527; clear HO530; clear HO535; clear BK514; clear BK536; clear HB; have HO519 := n0_; have HO524 := n1_; have HO527 := n2_; have HO530 := n3_; have HO535 := n4_; have HO539 := n5_; have BK514 := n6_; have BK536 := n7_; have HB := n8_; clear n0_ n1_ n2_ n3_ n4_ n5_ n6_ n7_ n8_; (try clear hb); (try clear hb2); (try clear hk); (try clear hi); (try clear ho0); obtain ⟨Ao46, co46, eo46⟩ := Kd.R_slice HO539.out; subst eo46; obtain ⟨Ao47, co47, eo47⟩ := Kd.R_slice HO527.out; subst eo47) | ((with_reducible refine gate_callee (f := 23) rfl ?_); refine goesL_ (some 38) rfl rfl Try.func23 (by kernel_rfl) rfl #[.slice Ao46 t537.length co46, .slice Ao47 t525.length co47] rfl arr_ ?_; (with_reducible refine (laws_eqIntS.calls k _ _ t537 _ _ t525 true _ ?side1 ?side2 ?side3 ?side4 A17.out).mono ?_); (case side1 => repeat (first | exact (Kd.R_reads' HO539.out).2.2 | (with_reducible refine Kd.C_alloc ?_ _) | (with_reducible refine Kd.C_drewN ?_ _) | (with_reducible refine Kd.C_drew ?_))); (case side2 => exact (Kd.R_reads' HO539.out).2.1); (case side3 => repeat (first | exact (Kd.R_reads' HO527.out).2.2 | (with_reducible refine Kd.C_alloc ?_ _) | (with_reducible refine Kd.C_drewN ?_ _) | (with_reducible refine Kd.C_drew ?_))); (case side4 => exact (Kd.R_reads' HO527.out).2.1); rintro e w' ⟨rfl, ⟨nd, rfl⟩⟩; refine ⟨_, rfl, ?_⟩) | ((with_reducible refine gate_callee (f := 12) rfl ?_); refine goesL_ (some 42) rfl rfl Try.func12 (by kernel_rfl) rfl #[.slice A0 l0.length c0] rfl arr_ ?_; (with_reducible refine (laws_toHeardS.calls k _ _ l0 t541 _ ?side1 ?side2 A19.out).mono ?_); (case side1 => repeat (first | exact (Kd.C_below HR0.out (hb2_ HB.out GE514.out GE536.out)) | (with_reducible refine Kd.C_alloc ?_ _) | (with_reducible refine Kd.C_drewN ?_ _) | (with_reducible refine Kd.C_drew ?_))); (case side2 => exact HC0.out); rintro e w48 ⟨v542, rfl, ho0, hb⟩; refine ⟨_, rfl, ?_⟩; have n0_ := Aside0.mk (Kd.R_elder' (by (with_reducible repeat (first | apply Kd.R_alloc | apply Kd.R_drewN | apply Kd.R_drew)); exact HO519.out) (Kd.R_base ho0) hb); have n1_ := Aside0.mk (Kd.R_below (by (with_reducible repeat (first | apply Kd.R_alloc | apply Kd.R_drewN | apply Kd.R_drew)); exact HO524.out) hb); have n2_ := Aside0.mk (Kd.R_below (by (with_reducible repeat (first | apply Kd.R_alloc | apply Kd.R_drewN | apply Kd.R_drew)); exact HO527.out) hb); have n3_ := Aside0.mk (Kd.R_elder' (by (with_reducible repeat (first | apply Kd.R_alloc | apply Kd.R_drewN | apply Kd.R_drew)); exact HO530.out) (Kd.R_base ho0) hb); have n4_ := Aside0.mk (Kd.R_below (by (with_reducible repeat (first | apply Kd.R_alloc | apply Kd.R_drewN | apply Kd.R_drew)); exact HO535.out) hb); have n5_ := Aside0.mk (Kd.R_below (by (with_reducible repeat (first | apply Kd.R_alloc | apply Kd.R_drewN | apply Kd.R_drew)); exact HO539.out) hb); have n6_ := Aside0.mk (Kd.R_lower (Kd.R_new' (Kd.R_new' ho0 (Kd.R_lt (by (with_reducible repeat (first | apply Kd.R_alloc | apply Kd.R_drewN | apply Kd.R_drew)); exact HO519.out))) (Kd.R_lt (by (with_reducible repeat (first | apply Kd.R_alloc | apply Kd.R_drewN | apply Kd.R_drew)); exact HO530.out))) (below_size (hb2_ HB.out GE514.out GE536.out))); have n7_ := Aside0.mk (bb_ BK514.out hb); have n8_ := Aside0.mk (bb_ BK536.out hb); have n9_ := Aside0.mk (below_step (hb2_ HB.out GE514.out GE536.out) hb); clear HO519; clear HO524; clear HO527; clear HO530; clear HO535; clear HO539; clear BK514; clear BK536; clear HB; have HO519 := n0_; have HO524 := n1_; have HO527 := n2_; have HO530 := n3_; have HO535 := n4_; have HO539 := n5_; have HO543 := n6_; have BK514 := n7_; have BK536 := n8_; have HB := n9_; clear n0_ n1_ n2_ n3_ n4_ n5_ n6_ n7_ n8_ n9_; (try clear hb); (try clear hb2); (try clear hk); (try clear hi); (try clear ho0); obtain ⟨Ao49, co49, eo49⟩ := Kd.R_slice HO543.out; subst eo49) | ((with_reducible refine gate_callee (f := 16) rfl ?_); refine goesL_ (some 43) rfl rfl Try.func16 (by kernel_rfl) rfl #[.slice Ao44 t528.length co44, .slice Ao49 t541.length co49] rfl arr_ ?_; (with_reducible refine (laws_eqHeardS.calls k _ _ t528 _ _ t541 true _ ?side1 ?side2 ?side3 ?side4 A20.out).mono ?_); (case side1 => repeat (first | exact (Kd.R_reads' HO530.out).2.2 | (with_reducible refine Kd.C_alloc ?_ _) | (with_reducible refine Kd.C_drewN ?_ _) | (with_reducible refine Kd.C_drew ?_))); (case side2 => exact (Kd.R_reads' HO530.out).2.1); (case side3 => repeat (first | exact (Kd.R_reads' HO543.out).2.2 | (with_reducible refine Kd.C_alloc ?_ _) | (with_reducible refine Kd.C_drewN ?_ _) | (with_reducible refine Kd.C_drew ?_))); (case side4 => exact (Kd.R_reads' HO543.out).2.1); rintro e w50 ⟨rfl, hb⟩; refine ⟨_, rfl, ?_⟩; have n0_ := Aside0.mk (Kd.R_below (by (with_reducible repeat (first | apply Kd.R_alloc | apply Kd.R_drewN | apply Kd.R_drew)); exact HO519.out) hb); have n1_ := Aside0.mk (Kd.R_below (by (with_reducible repeat (first | apply Kd.R_alloc | apply Kd.R_drewN | apply Kd.R_drew)); exact HO524.out) hb); have n2_ := Aside0.mk (Kd.R_below (by (with_reducible repeat (first | apply Kd.R_alloc | apply Kd.R_drewN | apply Kd.R_drew)); exact HO527.out) hb); have n3_ := Aside0.mk (Kd.R_below (by (with_reducible repeat (first | apply Kd.R_alloc | apply Kd.R_drewN | apply Kd.R_drew)); exact HO530.out) hb); have n4_ := Aside0.mk (Kd.R_below (by (with_reducible repeat (first | apply Kd.R_alloc | apply Kd.R_drewN | apply Kd.R_drew)); exact HO535.out) hb); have n5_ := Aside0.mk (Kd.R_below (by (with_reducible repeat (first | apply Kd.R_alloc | apply Kd.R_drewN | apply Kd.R_drew)); exact HO539.out) hb); have n6_ := Aside0.mk (Kd.R_below (by (with_reducible repeat (first | apply Kd.R_alloc | apply Kd.R_drewN | apply Kd.R_drew)); exact HO543.out) hb); have n7_ := Aside0.mk (bb_ BK514.out hb); have n8_ := Aside0.mk (bb_ BK536.out hb); have n9_ := Aside0.mk (below_step (hb2_ HB.out GE514.out GE536.out) hb); clear HO519; clear HO524; clear HO527; clear HO530; clear HO535; clear HO539; clear HO543; clear BK514; clear BK536; clear HB; have HO519 := n0_; have HO524 := n1_; have HO527 := n2_; have HO530 := n3_; have HO535 := n4_; have HO539 := n5_; have HO543 := n6_; have BK514 := n7_; have BK536 := n8_; have HB := n9_; clear n0_ n1_ n2_ n3_ n4_ n5_ n6_ n7_ n8_ n9_; (try clear hb); (try clear hb2); (try clear hk); (try clear hi)))
            have n0_ := Aside0.mk (Kd.R_drew HO519.out)
            have n1_ := Aside0.mk (Kd.R_drew HO524.out)
            have n2_ := Aside0.mk (Kd.R_drew HO527.out)
            have n3_ := Aside0.mk (Kd.R_drew HO530.out)
            have n4_ := Aside0.mk (Kd.R_drew HO535.out)
            have n5_ := Aside0.mk (Kd.R_drew HO539.out)
            have n6_ := Aside0.mk (Kd.R_drew HO543.out)
            have n7_ := Aside0.mk (blk_drew BK514.out)
            have n8_ := Aside0.mk (blk_drew BK536.out)
            have n9_ := Aside0.mk (below_drew1 HB.out)
            clear HO519
            clear HO524
            clear HO527
            clear HO530
            clear HO535
            clear HO539
            clear HO543
            clear BK514
            clear BK536
            clear HB
            have HO519 := n0_
            have HO524 := n1_
            have HO527 := n2_
            have HO530 := n3_
            have HO535 := n4_
            have HO539 := n5_
            have HO543 := n6_
            have BK514 := n7_
            have BK536 := n8_
            have HB := n9_
            clear n0_ n1_ n2_ n3_ n4_ n5_ n6_ n7_ n8_ n9_
            refine start_ (n := 5) (S := fun w' => w'.cell? ⟨gb536, 0, none⟩ = some (.int .i64 t531) ∧ w'.cell? ⟨gb536, 1, none⟩ = some (.int .i64 t532) ∧ w'.cell? ⟨gb536, 2, none⟩ = some (.slice Ao43 t533.length co43) ∧ w'.cell? ⟨gb514, 0, none⟩ = some (.int .i64 a1_0) ∧ w'.cell? ⟨gb514, 1, none⟩ = some (.int .i64 a1_1) ∧ w'.cell? ⟨gb514, 2, none⟩ = some (.slice A1_2 l1_2.length c1_2)) (ds := []) #[false, false, false, false, false] (by kernel_rfl) rfl rfl ⟨(blk_cell BK536.out 0).trans rfl, (blk_cell BK536.out 1).trans rfl, (blk_cell BK536.out 2).trans rfl, (blk_cell BK514.out 0).trans rfl, (blk_cell BK514.out 1).trans rfl, (blk_cell BK514.out 2).trans rfl⟩ (fun hHeld => ?_)
            generalize w50.drew = w51 at HO519 HO524 HO527 HO530 HO535 HO539 HO543 BK514 BK536 HB hHeld ⊢
            refine take_ (i := 0) (N := some 45) (v := ?_) (a' := ?_) #[true, false, false, false, false] rfl rfl (by kernel_rfl) (fun _ _ _ h => h) (Or.inl ⟨by rfl, ?_⟩) hHeld ?_ ?_
            rotate_left
            · rintro w' ⟨s0, s1, s2, s3, s4, s5⟩
              go_simp
              with_reducible rfl
            rotate_left
            · simp only [Act.put, List.setIfInBounds_toArray, List.set_cons_zero, List.set_cons_succ, i64_w, i32_w]
              rfl
            refine take_ (i := 1) (N := some 46) (v := ?_) (a' := ?_) #[true, true, false, false, false] rfl rfl (by kernel_rfl) (fun _ _ _ h => h) (Or.inl ⟨by rfl, ?_⟩) hHeld ?_ ?_
            rotate_left
            · rintro w' ⟨s0, s1, s2, s3, s4, s5⟩
              go_simp
              with_reducible rfl
            rotate_left
            · simp only [Act.put, List.setIfInBounds_toArray, List.set_cons_zero, List.set_cons_succ, i64_w, i32_w]
              rfl
            refine one_ (i := 2) (N := some 47) #[true, true, true, false, false] rfl rfl (by kernel_rfl) (by decide) (fun K hK => ?_)
            refine goes_ Try.func13 (by kernel_rfl) rfl #[.agg #[.int .i64 a1_0, .int .i64 a1_1, .slice A1_2 l1_2.length c1_2]] (by rfl) rfl rfl arr_ ?_
            with_reducible refine (laws_toPlan.calls k a1_0 a1_1 _ _ l1_2 t545 t546 t547 _ ?side1 ?side2 A22.out).mono ?_
            (case side1 => exact kc_ (Kd.C_below HR1_2.out HB.out))
            (case side2 => exact HC1_2.out)
            rintro e w52 ⟨v548, rfl, ho0, hb⟩
            refine ⟨_, rfl, ?_⟩
            have n0_ := Aside0.mk (Kd.R_below (by (with_reducible repeat (first | apply Kd.R_alloc | apply Kd.R_drewN | apply Kd.R_drew)); exact HO519.out) hb)
            have n1_ := Aside0.mk (Kd.R_elder' (by (with_reducible repeat (first | apply Kd.R_alloc | apply Kd.R_drewN | apply Kd.R_drew)); exact HO524.out) (Kd.R_base ho0) hb)
            have n2_ := Aside0.mk (Kd.R_below (by (with_reducible repeat (first | apply Kd.R_alloc | apply Kd.R_drewN | apply Kd.R_drew)); exact HO527.out) hb)
            have n3_ := Aside0.mk (Kd.R_below (by (with_reducible repeat (first | apply Kd.R_alloc | apply Kd.R_drewN | apply Kd.R_drew)); exact HO530.out) hb)
            have n4_ := Aside0.mk (Kd.R_elder' (by (with_reducible repeat (first | apply Kd.R_alloc | apply Kd.R_drewN | apply Kd.R_drew)); exact HO535.out) (Kd.R_base ho0) hb)
            have n5_ := Aside0.mk (Kd.R_below (by (with_reducible repeat (first | apply Kd.R_alloc | apply Kd.R_drewN | apply Kd.R_drew)); exact HO539.out) hb)
            have n6_ := Aside0.mk (Kd.R_below (by (with_reducible repeat (first | apply Kd.R_alloc | apply Kd.R_drewN | apply Kd.R_drew)); exact HO543.out) hb)
            have n7_ := Aside0.mk (Kd.R_lower (Kd.R_new' (Kd.R_new' ho0 (Kd.R_lt (by (with_reducible repeat (first | apply Kd.R_alloc | apply Kd.R_drewN | apply Kd.R_drew)); exact HO524.out))) (Kd.R_lt (by (with_reducible repeat (first | apply Kd.R_alloc | apply Kd.R_drewN | apply Kd.R_drew)); exact HO535.out))) (below_size (hb2_ HB.out GE514.out GE536.out)))
            have n8_ := Aside0.mk (bb_ BK514.out hb)
            have n9_ := Aside0.mk (bb_ BK536.out hb)
            have n10_ := Aside0.mk (below_step (hb2_ HB.out GE514.out GE536.out) hb)
            clear HO519
            clear HO524
            clear HO527
            clear HO530
            clear HO535
            clear HO539
            clear HO543
            clear BK514
            clear BK536
            clear HB
            have HO519 := n0_
            have HO524 := n1_
            have HO527 := n2_
            have HO530 := n3_
            have HO535 := n4_
            have HO539 := n5_
            have HO543 := n6_
            have HO549 := n7_
            have BK514 := n8_
            have BK536 := n9_
            have HB := n10_
            clear n0_ n1_ n2_ n3_ n4_ n5_ n6_ n7_ n8_ n9_ n10_
            (try clear hb)
            (try clear hb2)
            (try clear hk)
            (try clear hi)
            (try clear ho0)
            obtain ⟨Ao53, co53, eo53⟩ := Kd.R_slice HO549.out
            (first | subst eo53 | (injection eo53 with f1_ f2_ f3_; have f4_ := f1_.symm; have f5_ := f3_.symm; clear f1_ f2_ f3_; subst f4_; subst f5_))
            refine hK.out _ _ ⟨(blk_cell BK536.out 0).trans rfl, (blk_cell BK536.out 1).trans rfl, (blk_cell BK536.out 2).trans rfl, (blk_cell BK514.out 0).trans rfl, (blk_cell BK514.out 1).trans rfl, (blk_cell BK514.out 2).trans rfl⟩ (fun hHeld => ?_)
            clear hK K
            refine norm_ (a' := ?_) ?_ ?_
            rotate_left
            · show Act.put _ (some 47) _ = _
              simp only [Act.put, List.setIfInBounds_toArray, List.set_cons_zero, List.set_cons_succ, i64_w, i32_w]
              rfl
            refine one_ (i := 3) (N := some 48) #[true, true, true, true, false] rfl rfl (by kernel_rfl) (by decide) (fun K hK => ?_)
            refine goes_ Try.func17 (by kernel_rfl) rfl #[.agg #[.int .i64 t531, .int .i64 t532, .slice Ao43 t533.length co43], .agg #[.int .i64 t545, .int .i64 t546, .slice Ao53 t547.length co53]] (by rfl) rfl rfl arr_ ?_
            with_reducible refine (laws_eqPlan.calls k t531 t532 _ _ t533 t545 t546 _ _ t547 true _ ?side1 ?side2 ?side3 ?side4 A23.out).mono ?_
            (case side1 => repeat (first | exact (Kd.R_reads' HO535.out).2.2 | (with_reducible refine Kd.C_alloc ?_ _) | (with_reducible refine Kd.C_drewN ?_ _) | (with_reducible refine Kd.C_drew ?_)))
            (case side2 => exact (Kd.R_reads' HO535.out).2.1)
            (case side3 => repeat (first | exact (Kd.R_reads' HO549.out).2.2 | (with_reducible refine Kd.C_alloc ?_ _) | (with_reducible refine Kd.C_drewN ?_ _) | (with_reducible refine Kd.C_drew ?_)))
            (case side4 => exact (Kd.R_reads' HO549.out).2.1)
            rintro e w54 ⟨rfl, hb⟩
            refine ⟨_, rfl, ?_⟩
            have n0_ := Aside0.mk (Kd.R_below (by (with_reducible repeat (first | apply Kd.R_alloc | apply Kd.R_drewN | apply Kd.R_drew)); exact HO519.out) hb)
            have n1_ := Aside0.mk (Kd.R_below (by (with_reducible repeat (first | apply Kd.R_alloc | apply Kd.R_drewN | apply Kd.R_drew)); exact HO524.out) hb)
            have n2_ := Aside0.mk (Kd.R_below (by (with_reducible repeat (first | apply Kd.R_alloc | apply Kd.R_drewN | apply Kd.R_drew)); exact HO527.out) hb)
            have n3_ := Aside0.mk (Kd.R_below (by (with_reducible repeat (first | apply Kd.R_alloc | apply Kd.R_drewN | apply Kd.R_drew)); exact HO530.out) hb)
            have n4_ := Aside0.mk (Kd.R_below (by (with_reducible repeat (first | apply Kd.R_alloc | apply Kd.R_drewN | apply Kd.R_drew)); exact HO535.out) hb)
            have n5_ := Aside0.mk (Kd.R_below (by (with_reducible repeat (first | apply Kd.R_alloc | apply Kd.R_drewN | apply Kd.R_drew)); exact HO539.out) hb)
            have n6_ := Aside0.mk (Kd.R_below (by (with_reducible repeat (first | apply Kd.R_alloc | apply Kd.R_drewN | apply Kd.R_drew)); exact HO543.out) hb)
            have n7_ := Aside0.mk (Kd.R_below (by (with_reducible repeat (first | apply Kd.R_alloc | apply Kd.R_drewN | apply Kd.R_drew)); exact HO549.out) hb)
            have n8_ := Aside0.mk (bb_ BK514.out hb)
            have n9_ := Aside0.mk (bb_ BK536.out hb)
            have n10_ := Aside0.mk (below_step (hb2_ HB.out GE514.out GE536.out) hb)
            clear HO519
            clear HO524
            clear HO527
            clear HO530
            clear HO535
            clear HO539
            clear HO543
            clear HO549
            clear BK514
            clear BK536
            clear HB
            have HO519 := n0_
            have HO524 := n1_
            have HO527 := n2_
            have HO530 := n3_
            have HO535 := n4_
            have HO539 := n5_
            have HO543 := n6_
            have HO549 := n7_
            have BK514 := n8_
            have BK536 := n9_
            have HB := n10_
            clear n0_ n1_ n2_ n3_ n4_ n5_ n6_ n7_ n8_ n9_ n10_
            (try clear hb)
            (try clear hb2)
            (try clear hk)
            (try clear hi)
            refine hK.out _ _ ⟨(blk_cell BK536.out 0).trans rfl, (blk_cell BK536.out 1).trans rfl, (blk_cell BK536.out 2).trans rfl, (blk_cell BK514.out 0).trans rfl, (blk_cell BK514.out 1).trans rfl, (blk_cell BK514.out 2).trans rfl⟩ (fun hHeld => ?_)
            clear hK K
            refine norm_ (a' := ?_) ?_ ?_
            rotate_left
            · show Act.put _ (some 48) _ = _
              simp only [Act.put, List.setIfInBounds_toArray, List.set_cons_zero, List.set_cons_succ, i64_w, i32_w]
              rfl
            refine pure_ (i := 4) (N := some 49) (v := ?_) (a' := ?_) #[true, true, true, true, true] rfl rfl (by kernel_rfl) (fun _ _ _ h => h) (Or.inl ⟨by rfl, ?_⟩) ?_ ?_
            rotate_left
            · intro w'
              go_simp
              with_reducible rfl
            rotate_left
            · simp only [Act.put, List.setIfInBounds_toArray, List.set_cons_zero, List.set_cons_succ, i64_w, i32_w]
              rfl
            refine done_ (by kernel_rfl) ?_
            go_upto_region 21 with (first | ((with_reducible refine gate_callee (f := 18) rfl ?_); refine goesL_ (some 52) rfl rfl Try.func18 (by kernel_rfl) rfl #[.slice Ao44 t528.length co44, .int .i64 1] rfl arr_ ?_; (with_reducible refine (laws_markHeardS.calls k (fun k_ => some k_ = (.slice Ao44 t528.length co44 : Value).ownBlock) (.slice Ao44 t528.length co44) t528 1 t551 t552 w _ ?side1 ?side2 A25.out).mono ?_); (case side1 => repeat (first | (with_reducible first | exact HB.out | apply below_alloc | apply pw_below_drewN | apply below_drew1 | refine below_set ?_ GE514.out | refine below_set ?_ GE536.out) | exact HB.out)); (case side2 => exact Kd.R_tight rfl HO530.out); rintro e w55 ⟨rfl, hy0, hb, hkp⟩; refine ⟨_, rfl, ?_⟩; have n0_ := Aside0.mk (blk_kept (bk_ BK514.out) hkp (fun hs_ => (fun e_ => (Kd.R_ne HO530.out BK514.out (by decide)) e_) hs_)); have n1_ := Aside0.mk (Kd.R_mono (ok' := fun k_ => some k_ ≠ (.slice Ao44 t528.length co44 : Value).ownBlock ∧ some k_ ≠ (.slice Ao49 t541.length co49 : Value).ownBlock) (Kd.R_keptB (HO519.out) hkp (fun k_ hk_ hs_ => (hk_.1.2) hs_)) (fun k_ hk_ => ⟨hk_.1.1.2, hk_.1.2⟩)); have n2_ := Aside0.mk (Kd.R_mono (ok' := fun k_ => some k_ ≠ (.slice Ao43 t533.length co43 : Value).ownBlock ∧ some k_ ≠ (.slice Ao53 t547.length co53 : Value).ownBlock) (Kd.R_keptB ((Kd.R_apart' HO524.out (Kd.R_typed HO530.out) (by decide))) hkp (fun k_ hk_ hs_ => (hk_.2) hs_)) (fun k_ hk_ => ⟨hk_.1.1.1.2, hk_.1.1.2⟩)); have n3_ := Aside0.mk (Kd.R_mono (ok' := fun k_ => some k_ ≠ (.slice Ao46 t537.length co46 : Value).ownBlock) (Kd.R_keptB ((Kd.R_apart' HO527.out (Kd.R_typed HO530.out) (by decide))) hkp (fun k_ hk_ hs_ => (hk_.2) hs_)) (fun k_ hk_ => hk_.1.1.2)); have n4_ := Aside0.mk (Kd.R_reok rfl hy0 (fun k_ e_ => HO530.out.1 k_ e_)); have n5_ := Aside0.mk (Kd.R_mono (ok' := fun k_ => some k_ ≠ (.slice Ao35 t522.length co35 : Value).ownBlock ∧ some k_ ≠ (.slice Ao53 t547.length co53 : Value).ownBlock) (Kd.R_keptB ((Kd.R_apart' HO535.out (Kd.R_typed HO530.out) (by decide))) hkp (fun k_ hk_ hs_ => (hk_.2) hs_)) (fun k_ hk_ => ⟨hk_.1.1.1.2, hk_.1.1.2⟩)); have n6_ := Aside0.mk (blk_kept (bk_ BK536.out) hkp (fun hs_ => (fun e_ => (Kd.R_ne HO530.out BK536.out (by decide)) e_) hs_)); have n7_ := Aside0.mk (Kd.R_mono (ok' := fun k_ => some k_ ≠ (.slice Ao47 t525.length co47 : Value).ownBlock) (Kd.R_keptB ((Kd.R_apart' HO539.out (Kd.R_typed HO530.out) (by decide))) hkp (fun k_ hk_ hs_ => (hk_.2) hs_)) (fun k_ hk_ => hk_.1.1.2)); have n8_ := Aside0.mk (Kd.R_mono (ok' := fun k_ => some k_ ≠ (.slice Ao34 t517.length co34 : Value).ownBlock ∧ some k_ ≠ (.slice Ao44 t528.length co44 : Value).ownBlock) (Kd.R_keptB (HO543.out) hkp (fun k_ hk_ hs_ => (hk_.2) hs_)) (fun k_ hk_ => ⟨hk_.1.1.2, hk_.1.2⟩)); have n9_ := Aside0.mk (Kd.R_mono (ok' := fun k_ => some k_ ≠ (.slice Ao35 t522.length co35 : Value).ownBlock ∧ some k_ ≠ (.slice Ao43 t533.length co43 : Value).ownBlock) (Kd.R_keptB ((Kd.R_apart' HO549.out (Kd.R_typed HO530.out) (by decide))) hkp (fun k_ hk_ hs_ => (hk_.2) hs_)) (fun k_ hk_ => ⟨hk_.1.1.1.2, hk_.1.1.2⟩)); have n10_ := Aside0.mk (hb); clear BK514; clear HO519; clear HO524; clear HO527; clear HO530; clear HO535; clear BK536; clear HO539; clear HO543; clear HO549; clear HB; have BK514 := n0_; have HO519 := n1_; have HO524 := n2_; have HO527 := n3_; have HO530 := n4_; have HO535 := n5_; have BK536 := n6_; have HO539 := n7_; have HO543 := n8_; have HO549 := n9_; have HB := n10_; clear n0_ n1_ n2_ n3_ n4_ n5_ n6_ n7_ n8_ n9_ n10_; (try clear hb); (try clear hkp); (try clear hy0); have hcz56_0 := bc_ BK536.out 0 (.int .i64 t531) rfl; have hcz56_1 := bc_ BK536.out 1 (.int .i64 t532) rfl; have hcz56_2 := bc_ BK536.out 2 (.slice Ao43 t533.length co43) rfl; have hfz56_0 := blk_frozen BK536.out 0; have hfz56_1 := blk_frozen BK536.out 1; have hfz56_2 := blk_frozen BK536.out 2) | ((with_reducible refine gate_callee (f := 19) rfl ?_); refine goesL_ (some 55) rfl rfl Try.func19 (by kernel_rfl) rfl #[.agg #[.int .i64 t531, .int .i64 t532, .slice Ao43 t533.length co43], .int .i64 t551] rfl arr_ ?_; (with_reducible refine (laws_markPlan.calls k t531 t532 (fun k_ => some k_ = (.slice Ao43 t533.length co43 : Value).ownBlock) (.slice Ao43 t533.length co43) t533 t551 t553 t554 w _ ?side1 ?side2 A26.out).mono ?_); (case side1 => repeat (first | (with_reducible first | exact HB.out | apply below_alloc | apply pw_below_drewN | apply below_drew1 | refine below_set ?_ GE514.out | refine below_set ?_ GE536.out) | exact HB.out)); (case side2 => exact Kd.R_tight rfl HO535.out); rintro e w57 ⟨rfl, hy0, hb, hkp⟩; refine ⟨_, rfl, ?_⟩; have n0_ := Aside0.mk (blk_kept (bk_ BK514.out) hkp (fun hs_ => (fun e_ => (Kd.R_ne HO535.out BK514.out (by decide)) e_) hs_)); have n1_ := Aside0.mk (Kd.R_mono (ok' := fun k_ => some k_ ≠ (.slice Ao44 t528.length co44 : Value).ownBlock ∧ some k_ ≠ (.slice Ao49 t541.length co49 : Value).ownBlock) (Kd.R_keptB ((Kd.R_apart' HO519.out (Kd.R_typed HO535.out) (by decide))) hkp (fun k_ hk_ hs_ => (hk_.2) hs_)) (fun k_ hk_ => ⟨hk_.1.1.1, hk_.1.1.2⟩)); have n2_ := Aside0.mk (Kd.R_mono (ok' := fun k_ => some k_ ≠ (.slice Ao43 t533.length co43 : Value).ownBlock ∧ some k_ ≠ (.slice Ao53 t547.length co53 : Value).ownBlock) (Kd.R_keptB (HO524.out) hkp (fun k_ hk_ hs_ => (hk_.1) hs_)) (fun k_ hk_ => ⟨hk_.1.1, hk_.1.2⟩)); have n3_ := Aside0.mk (Kd.R_mono (ok' := fun k_ => some k_ ≠ (.slice Ao46 t537.length co46 : Value).ownBlock) (Kd.R_keptB ((Kd.R_apart' HO527.out (Kd.R_typed HO535.out) (by decide))) hkp (fun k_ hk_ hs_ => (hk_.2) hs_)) (fun k_ hk_ => hk_.1.1)); have n4_ := Aside0.mk (Kd.R_mono (ok' := fun k_ => some k_ ≠ (.slice Ao34 t517.length co34 : Value).ownBlock ∧ some k_ ≠ (.slice Ao49 t541.length co49 : Value).ownBlock) (Kd.R_keptB ((Kd.R_apart' HO530.out (Kd.R_typed HO535.out) (by decide))) hkp (fun k_ hk_ hs_ => (hk_.2) hs_)) (fun k_ hk_ => ⟨hk_.1.1.1.2, hk_.1.1.2⟩)); have n5_ := Aside0.mk (Kd.R_reok rfl hy0 (fun k_ e_ => HO535.out.1 k_ e_)); have n6_ := Aside0.mk (blk_kept (bk_ BK536.out) hkp (fun hs_ => (fun e_ => (Kd.R_ne HO535.out BK536.out (by decide)) e_) hs_)); have n7_ := Aside0.mk (Kd.R_mono (ok' := fun k_ => some k_ ≠ (.slice Ao47 t525.length co47 : Value).ownBlock) (Kd.R_keptB ((Kd.R_apart' HO539.out (Kd.R_typed HO535.out) (by decide))) hkp (fun k_ hk_ hs_ => (hk_.2) hs_)) (fun k_ hk_ => hk_.1.1)); have n8_ := Aside0.mk (Kd.R_mono (ok' := fun k_ => some k_ ≠ (.slice Ao34 t517.length co34 : Value).ownBlock ∧ some k_ ≠ (.slice Ao44 t528.length co44 : Value).ownBlock) (Kd.R_keptB ((Kd.R_apart' HO543.out (Kd.R_typed HO535.out) (by decide))) hkp (fun k_ hk_ hs_ => (hk_.2) hs_)) (fun k_ hk_ => ⟨hk_.1.1.1, hk_.1.1.2⟩)); have n9_ := Aside0.mk (Kd.R_mono (ok' := fun k_ => some k_ ≠ (.slice Ao35 t522.length co35 : Value).ownBlock ∧ some k_ ≠ (.slice Ao43 t533.length co43 : Value).ownBlock) (Kd.R_keptB (HO549.out) hkp (fun k_ hk_ hs_ => (hk_.2) hs_)) (fun k_ hk_ => ⟨hk_.1.1, hk_.1.2⟩)); have n10_ := Aside0.mk (hb); clear BK514; clear HO519; clear HO524; clear HO527; clear HO530; clear HO535; clear BK536; clear HO539; clear HO543; clear HO549; clear HB; have BK514 := n0_; have HO519 := n1_; have HO524 := n2_; have HO527 := n3_; have HO530 := n4_; have HO535 := n5_; have BK536 := n6_; have HO539 := n7_; have HO543 := n8_; have HO549 := n9_; have HB := n10_; clear n0_ n1_ n2_ n3_ n4_ n5_ n6_ n7_ n8_ n9_ n10_; (try clear hb); (try clear hkp); (try clear hy0)))
            (try simp only [Act.put, List.setIfInBounds_toArray, List.set_cons_zero, List.set_cons_succ])
            go_cut [63] (fun v63 wc => ∃ (kq : Nat) (x63_26 : Bool), v63 = .bool x63_26 ∧ Aside0 (laws_FnExactHeardOwners.j0 kq l0 t525 t537 x63_26 a1_0 a1_1 l1_2 = some r) ∧ Aside0 (kq ≤ k) ∧ Aside0 (Kd.R (Kd.int .i64) 3 wc w.heap.size (fun k_ => some k_ ≠ ((.slice Ao46 t537.length co46) : Value).ownBlock) (.slice Ao47 t525.length co47) t525) ∧ Aside0 (Kd.R (Kd.int .i64) 3 wc w.heap.size (fun k_ => some k_ ≠ ((.slice Ao47 t525.length co47) : Value).ownBlock) (.slice Ao46 t537.length co46) t537) ∧ Aside0 (Kd.R k79 79 wc w.heap.size (fun _ => True) (.slice Ao43 t533.length co43) t554) ∧ Aside0 (wc.heap[gb514]? = some (.cells #[.int .i64 a1_0, .int .i64 a1_1, (.slice A1_2 l1_2.length c1_2)] 25 (0, 0))) ∧ Aside0 (wc.heap[gb536]? = some (.cells #[.int .i64 t531, .int .i64 t532, (.slice Ao43 t533.length co43)] 39 (0, 0))) ∧ Aside0 (Below w.heap.size w wc))
            case first =>
              have H := HC27.out
              clear HC27
              by_cases c58 : t553 < 0
              · rw [if_pos c58] at H
                have c58b0 : decide (t553 < 0) = true := decide_eq_true c58
                clear c58
                (first | rw [c58b0] | (simp only [i64_w, i32_w]; rw [c58b0]) | skip)
                have H' := Aside0.mk H
                clear H
                go_wp2
                go_meet
                case rel => exact ⟨_, (true), (by first | rfl | (simp; done) | (simp [*]; done)), H', ⟨by first | omega | exact Nat.le_refl _⟩, ⟨by (with_reducible repeat (first | apply Kd.R_alloc | apply Kd.R_drewN | apply Kd.R_drew)); exact HO527.out⟩, ⟨by (with_reducible repeat (first | apply Kd.R_alloc | apply Kd.R_drewN | apply Kd.R_drew)); exact HO539.out⟩, ⟨by (with_reducible repeat (first | apply Kd.R_alloc | apply Kd.R_drewN | apply Kd.R_drew)); exact Kd.R_mono HO535.out (fun _ hk => trivial)⟩, ⟨bk_ BK514.out⟩, ⟨bk_ BK536.out⟩, ⟨hb2_ HB.out GE514.out GE536.out⟩⟩
              · rw [if_neg c58] at H
                have c58b0 : decide (t553 < 0) = false := decide_eq_false c58
                clear c58
                (first | rw [c58b0] | (simp only [i64_w, i32_w]; rw [c58b0]) | skip)
                replace H := Option.bind_eq_some_iff.mp H
                obtain ⟨t555, A590, H⟩ := H
                replace H : (laws_FnExactHeardOwners.j0 k l0 t525 t537 (!t555) a1_0 a1_1 l1_2) = some r := H
                have A59 := Aside0.mk A590
                clear A590
                have H' := Aside0.mk H
                clear H
                go_wp2_with (first | (go_at_call 23; (with_reducible refine (laws_eqIntS.calls k _ _ t537 _ _ t525 t555 _ ?side1 ?side2 ?side3 ?side4 A59.out).mono ?_); (case side1 => repeat (first | exact (Kd.R_reads' HO539.out).2.2 | (with_reducible refine Kd.C_alloc ?_ _) | (with_reducible refine Kd.C_drewN ?_ _) | (with_reducible refine Kd.C_drew ?_))); (case side2 => exact (Kd.R_reads' HO539.out).2.1); (case side3 => repeat (first | exact (Kd.R_reads' HO527.out).2.2 | (with_reducible refine Kd.C_alloc ?_ _) | (with_reducible refine Kd.C_drewN ?_ _) | (with_reducible refine Kd.C_drew ?_))); (case side4 => exact (Kd.R_reads' HO527.out).2.1); rintro e w' ⟨rfl, ⟨nd, rfl⟩⟩))
                go_meet
                case rel => exact ⟨_, (!t555), (by first | rfl | (simp; done) | (simp [*]; done)), H', ⟨by first | omega | exact Nat.le_refl _⟩, ⟨by (with_reducible repeat (first | apply Kd.R_alloc | apply Kd.R_drewN | apply Kd.R_drew)); exact HO527.out⟩, ⟨by (with_reducible repeat (first | apply Kd.R_alloc | apply Kd.R_drewN | apply Kd.R_drew)); exact HO539.out⟩, ⟨by (with_reducible repeat (first | apply Kd.R_alloc | apply Kd.R_drewN | apply Kd.R_drew)); exact Kd.R_mono HO535.out (fun _ hk => trivial)⟩, ⟨bk_ BK514.out⟩, ⟨bk_ BK536.out⟩, ⟨hb2_ HB.out GE514.out GE536.out⟩⟩
            case rest =>
              clear HC27
              try clear c1
              try clear c2
              try clear p2
              try clear c4
              try clear c4b0
              try clear c5
              try clear c7
              try clear c7b0
              try clear c8
              try clear c9
              try clear c12
              try clear c13
              try clear c16
              try clear c17
              try clear c18
              try clear c19
              try clear c21
              try clear c22
              try clear c23
              try clear c24
              try clear c41
              try clear c58
              try clear c58b0
              try clear hcz29_0
              try clear hcz29_1
              try clear hcz29_2
              try clear hcz38_0
              try clear hcz38_1
              try clear hcz38_2
              try clear hcz42_0
              try clear hcz42_1
              try clear hcz42_2
              try clear hcz56_0
              try clear hcz56_1
              try clear hcz56_2
              try clear hcz9_0
              try clear hcz9_1
              try clear hcz9_2
              try clear hfz29_0
              try clear hfz29_1
              try clear hfz29_2
              try clear hfz38_0
              try clear hfz38_1
              try clear hfz38_2
              try clear hfz42_0
              try clear hfz42_1
              try clear hfz42_2
              try clear hfz56_0
              try clear hfz56_1
              try clear hfz56_2
              try clear hfz9_0
              try clear hfz9_1
              try clear hfz9_2
              obtain ⟨kq, x63_26, rfl, HA, HJ26, HO_6, HO_9, HO_537002, BK514, BK536, HB⟩ := hcut
              have hl537002_26 := (Kd.R_reads' HO_537002.out).1
              rw [hl537002_26] at HO_537002
              (try simp only [hl537002_26])
              (try simp only [hl537002_26] at BK514)
              (try simp only [hl537002_26] at BK536)
              (try simp only [hl537002_26] at HO_6)
              (try simp only [hl537002_26] at HO_9)
              cases kq with
              | zero => exact absurd HA.out (by simp [laws_FnExactHeardOwners.j0])
              | succ kj26 =>
                have H := HA.out
                clear HA
                simp only [laws_FnExactHeardOwners.j0] at H
                by_cases c60 : x63_26 = true
                · subst c60
                  have H1 : (some false) = some r := by rw [if_pos rfl] at H; exact H
                  clear H
                  have H := H1
                  clear H1
                  obtain rfl := Option.some.inj H
                  exact absurd hr_ (by decide)
                · replace c60 := Bool.eq_false_iff.mpr c60
                  subst c60
                  have H1 : ((laws_markIntS.f kj26 t537 1).bind fun bt556 => ((laws_heldIntS.f kj26 bt556.2 1).bind fun t558 => (if t558 < 0 then (some false) else (if t558 = bt556.1 then ((laws_toHeardS.f kj26 l0).bind fun t559 => ((laws_toPlan.f kj26 a1_0 a1_1 l1_2).bind fun bt562 => ((impl_HeardOwners.f kj26 t559 bt562.1 bt562.2.1 bt562.2.2).bind fun t567 => ((laws_eqIntS.f kj26 t567 t525).bind fun t570 => (if t570 = true then ((laws_heldIntS.f kj26 bt556.2 1).bind fun t571 => (if t571 < 0 then (some false) else (if t571 = bt556.1 then (some true) else (some false)))) else (some false)))))) else (some false))))) = some r := by rw [if_neg (show ¬ (false = true) by decide)] at H; exact H
                  clear H
                  have H := H1
                  clear H1
                  replace H := Option.bind_eq_some_iff.mp H
                  obtain ⟨⟨t556, t557⟩, A610, H⟩ := H
                  replace H : ((laws_heldIntS.f kj26 t557 1).bind fun t558 => (if t558 < 0 then (some false) else (if t558 = t556 then ((laws_toHeardS.f kj26 l0).bind fun t559 => ((laws_toPlan.f kj26 a1_0 a1_1 l1_2).bind fun bt562 => ((impl_HeardOwners.f kj26 t559 bt562.1 bt562.2.1 bt562.2.2).bind fun t567 => ((laws_eqIntS.f kj26 t567 t525).bind fun t570 => (if t570 = true then ((laws_heldIntS.f kj26 t557 1).bind fun t571 => (if t571 < 0 then (some false) else (if t571 = t556 then (some true) else (some false)))) else (some false)))))) else (some false)))) = some r := H
                  have A61 := Aside0.mk A610
                  clear A610
                  replace H := Option.bind_eq_some_iff.mp H
                  obtain ⟨t558, A620, H⟩ := H
                  replace H : (if t558 < 0 then (some false) else (if t558 = t556 then ((laws_toHeardS.f kj26 l0).bind fun t559 => ((laws_toPlan.f kj26 a1_0 a1_1 l1_2).bind fun bt562 => ((impl_HeardOwners.f kj26 t559 bt562.1 bt562.2.1 bt562.2.2).bind fun t567 => ((laws_eqIntS.f kj26 t567 t525).bind fun t570 => (if t570 = true then ((laws_heldIntS.f kj26 t557 1).bind fun t571 => (if t571 < 0 then (some false) else (if t571 = t556 then (some true) else (some false)))) else (some false)))))) else (some false))) = some r := H
                  have A62 := Aside0.mk A620
                  clear A620
                  by_cases c63 : t558 < 0
                  · rw [if_pos c63] at H
                    have c63b0 : decide (t558 < 0) = true := decide_eq_true c63
                    clear c63
                    obtain rfl := Option.some.inj H
                    exact absurd hr_ (by decide)
                  · rw [if_neg c63] at H
                    have c63b0 : decide (t558 < 0) = false := decide_eq_false c63
                    clear c63
                    by_cases c64 : t558 = t556
                    · rw [if_pos c64] at H
                      have c64b0 : (t558 == t556) = true := beq_iff_eq.mpr c64
                      have c64b1 : (t558 != t556) = false := bne_eq_false_iff_eq.mpr c64
                      clear c64
                      replace H := Option.bind_eq_some_iff.mp H
                      obtain ⟨t559, A650, H⟩ := H
                      replace H : ((laws_toPlan.f kj26 a1_0 a1_1 l1_2).bind fun bt562 => ((impl_HeardOwners.f kj26 t559 bt562.1 bt562.2.1 bt562.2.2).bind fun t567 => ((laws_eqIntS.f kj26 t567 t525).bind fun t570 => (if t570 = true then ((laws_heldIntS.f kj26 t557 1).bind fun t571 => (if t571 < 0 then (some false) else (if t571 = t556 then (some true) else (some false)))) else (some false))))) = some r := H
                      have A65 := Aside0.mk A650
                      clear A650
                      replace H := Option.bind_eq_some_iff.mp H
                      obtain ⟨⟨t562, t563, t564⟩, A660, H⟩ := H
                      replace H : ((impl_HeardOwners.f kj26 t559 t562 t563 t564).bind fun t567 => ((laws_eqIntS.f kj26 t567 t525).bind fun t570 => (if t570 = true then ((laws_heldIntS.f kj26 t557 1).bind fun t571 => (if t571 < 0 then (some false) else (if t571 = t556 then (some true) else (some false)))) else (some false)))) = some r := H
                      have A66 := Aside0.mk A660
                      clear A660
                      replace H := Option.bind_eq_some_iff.mp H
                      obtain ⟨t567, A670, H⟩ := H
                      replace H : ((laws_eqIntS.f kj26 t567 t525).bind fun t570 => (if t570 = true then ((laws_heldIntS.f kj26 t557 1).bind fun t571 => (if t571 < 0 then (some false) else (if t571 = t556 then (some true) else (some false)))) else (some false))) = some r := H
                      have A67 := Aside0.mk A670
                      clear A670
                      replace H := Option.bind_eq_some_iff.mp H
                      obtain ⟨t570, A680, H⟩ := H
                      replace H : (if t570 = true then ((laws_heldIntS.f kj26 t557 1).bind fun t571 => (if t571 < 0 then (some false) else (if t571 = t556 then (some true) else (some false)))) else (some false)) = some r := H
                      have A68 := Aside0.mk A680
                      clear A680
                      by_cases c69 : t570 = true
                      · subst c69
                        have H1 : ((laws_heldIntS.f kj26 t557 1).bind fun t571 => (if t571 < 0 then (some false) else (if t571 = t556 then (some true) else (some false)))) = some r := by rw [if_pos rfl] at H; exact H
                        clear H
                        have H := H1
                        clear H1
                        replace H := Option.bind_eq_some_iff.mp H
                        obtain ⟨t571, A700, H⟩ := H
                        replace H : (if t571 < 0 then (some false) else (if t571 = t556 then (some true) else (some false))) = some r := H
                        have A70 := Aside0.mk A700
                        clear A700
                        by_cases c71 : t571 < 0
                        · rw [if_pos c71] at H
                          have c71b0 : decide (t571 < 0) = true := decide_eq_true c71
                          clear c71
                          obtain rfl := Option.some.inj H
                          exact absurd hr_ (by decide)
                        · rw [if_neg c71] at H
                          have c71b0 : decide (t571 < 0) = false := decide_eq_false c71
                          clear c71
                          by_cases c72 : t571 = t556
                          · rw [if_pos c72] at H
                            have c72b0 : (t571 == t556) = true := beq_iff_eq.mpr c72
                            have c72b1 : (t571 != t556) = false := bne_eq_false_iff_eq.mpr c72
                            clear c72
                            obtain rfl := Option.some.inj H
                            try go_wp2_with (first | ((with_reducible refine gate_callee (f := 24) rfl ?_); refine goesL_ (some 66) rfl rfl Try.func24 (by kernel_rfl) rfl #[.slice Ao46 t537.length co46, .int .i64 1] rfl arr_ ?_; (with_reducible refine (laws_markIntS.calls kj26 (fun k_ => some k_ = (.slice Ao46 t537.length co46 : Value).ownBlock) (.slice Ao46 t537.length co46) t537 1 t556 t557 w _ ?side1 ?side2 A61.out).mono ?_); (case side1 => repeat (first | (with_reducible first | exact HB.out | apply below_alloc | apply pw_below_drewN | apply below_drew1 | refine below_set ?_ GE514.out | refine below_set ?_ GE536.out) | exact HB.out)); (case side2 => exact Kd.R_tight rfl HO_9.out); rintro e w73 ⟨rfl, hy0, hb, hkp⟩; refine ⟨_, rfl, ?_⟩; have n0_ := Aside0.mk (Kd.R_mono (ok' := fun k_ => some k_ ≠ (.slice Ao46 t537.length co46 : Value).ownBlock) (Kd.R_keptB (HO_6.out) hkp (fun k_ hk_ hs_ => (hk_) hs_)) (fun k_ hk_ => hk_.1)); have n1_ := Aside0.mk (Kd.R_reok rfl hy0 (fun k_ e_ => HO_9.out.1 k_ e_)); have n2_ := Aside0.mk (Kd.R_mono (ok' := fun k_ => True) (Kd.R_keptB ((Kd.R_apart' HO_537002.out (Kd.R_typed HO_9.out) (by decide))) hkp (fun k_ hk_ hs_ => (hk_.2) hs_)) (fun k_ hk_ => trivial)); have n3_ := Aside0.mk (blk_kept (bk_ BK514.out) hkp (fun hs_ => (fun e_ => (Kd.R_ne HO_9.out BK514.out (by decide)) e_) hs_)); have n4_ := Aside0.mk (blk_kept (bk_ BK536.out) hkp (fun hs_ => (fun e_ => (Kd.R_ne HO_9.out BK536.out (by decide)) e_) hs_)); have n5_ := Aside0.mk (hb); clear HO_6; clear HO_9; clear HO_537002; clear BK514; clear BK536; clear HB; have HO_6 := n0_; have HO_9 := n1_; have HO_537002 := n2_; have BK514 := n3_; have BK536 := n4_; have HB := n5_; clear n0_ n1_ n2_ n3_ n4_ n5_; (try clear hb); (try clear hkp); (try clear hy0)) | ((with_reducible refine gate_callee (f := 25) rfl ?_); refine goesL_ (some 69) rfl rfl Try.func25 (by kernel_rfl) rfl #[.slice Ao46 t557.length co46, .int .i64 1] rfl (by (try simp only [List.map_toArray, List.map_cons, List.map_nil]); first | done | (rw [show t557.length = t537.length from (Kd.R_reads' HO_9.out).1.symm] <;> rfl) | rfl | (simp only [List.length_drop, List.length_take]; rfl)) ?_; (with_reducible refine (laws_heldIntS.calls kj26 _ _ t557 1 t558 _ ?side1 ?side2 A62.out).mono ?_); (case side1 => repeat (first | exact (Kd.R_reads' HO_9.out).2.2 | (with_reducible refine Kd.C_alloc ?_ _) | (with_reducible refine Kd.C_drewN ?_ _) | (with_reducible refine Kd.C_drew ?_))); (case side2 => rw [show t557.length = t537.length from (Kd.R_reads' HO_9.out).1.symm]; exact (Kd.R_reads' HO_9.out).2.1); rintro e w' ⟨rfl, ⟨nd, rfl⟩⟩; refine ⟨_, rfl, ?_⟩))
                            (try (rw [drewN_self w73]; generalize hq_ : World.drewN w73 _ = w73; have n0_ : Aside0 (Kd.R k79 79 w73 w.heap.size (fun _ => True) (.slice Ao43 t554.length co43) t554) := ⟨by rw [← hq_]; exact (by (with_reducible repeat (first | apply Kd.R_alloc | apply Kd.R_drewN | apply Kd.R_drew)); exact HO_537002.out)⟩; have n1_ : Aside0 (Kd.R (Kd.int .i64) 3 w73 w.heap.size (fun k_ => some k_ ≠ (.slice Ao46 t537.length co46 : Value).ownBlock) (.slice Ao47 t525.length co47) t525) := ⟨by rw [← hq_]; exact (by (with_reducible repeat (first | apply Kd.R_alloc | apply Kd.R_drewN | apply Kd.R_drew)); exact HO_6.out)⟩; have n2_ : Aside0 (Kd.R (Kd.int .i64) 3 w73 w.heap.size (fun k_ => some k_ ≠ (.slice Ao47 t525.length co47 : Value).ownBlock) (.slice Ao46 t537.length co46) t557) := ⟨by rw [← hq_]; exact (by (with_reducible repeat (first | apply Kd.R_alloc | apply Kd.R_drewN | apply Kd.R_drew)); exact HO_9.out)⟩; have n3_ : Aside0 (w73.heap[gb514]? = some (.cells #[.int .i64 a1_0, .int .i64 a1_1, .slice A1_2 l1_2.length c1_2] 25 (0, 0))) := ⟨by rw [← hq_]; exact (bk_ BK514.out)⟩; have n4_ : Aside0 (w73.heap[gb536]? = some (.cells #[.int .i64 t531, .int .i64 t532, .slice Ao43 t554.length co43] 39 (0, 0))) := ⟨by rw [← hq_]; exact (bk_ BK536.out)⟩; have n5_ : Aside0 (Below w.heap.size w w73) := ⟨by rw [← hq_]; exact (hb2_ HB.out GE514.out GE536.out)⟩; clear HO_537002 HO_6 HO_9 BK514 BK536 HB hq_; have HO_537002 := n0_; have HO_6 := n1_; have HO_9 := n2_; have BK514 := n3_; have BK536 := n4_; have HB := n5_; clear n0_ n1_ n2_ n3_ n4_ n5_))
                            have n0_ := Aside0.mk (Kd.R_drew HO_6.out)
                            have n1_ := Aside0.mk (Kd.R_drew HO_9.out)
                            have n2_ := Aside0.mk (Kd.R_drew HO_537002.out)
                            have n3_ := Aside0.mk (blk_drew BK514.out)
                            have n4_ := Aside0.mk (blk_drew BK536.out)
                            have n5_ := Aside0.mk (below_drew1 HB.out)
                            clear HO_6
                            clear HO_9
                            clear HO_537002
                            clear BK514
                            clear BK536
                            clear HB
                            have HO_6 := n0_
                            have HO_9 := n1_
                            have HO_537002 := n2_
                            have BK514 := n3_
                            have BK536 := n4_
                            have HB := n5_
                            clear n0_ n1_ n2_ n3_ n4_ n5_
                            refine start_ (n := 6) (S := fun w' => w'.cell? ⟨gb514, 0, none⟩ = some (.int .i64 a1_0) ∧ w'.cell? ⟨gb514, 1, none⟩ = some (.int .i64 a1_1) ∧ w'.cell? ⟨gb514, 2, none⟩ = some (.slice A1_2 l1_2.length c1_2)) (ds := []) #[false, false, false, false, false, false] (by kernel_rfl) rfl rfl ⟨(blk_cell BK514.out 0).trans rfl, (blk_cell BK514.out 1).trans rfl, (blk_cell BK514.out 2).trans rfl⟩ (fun hHeld => ?_)
                            generalize w73.drew = w74 at HO_6 HO_9 HO_537002 BK514 BK536 HB hHeld ⊢
                            refine pure_ (i := 0) (N := some 75) (v := ?_) (a' := ?_) #[true, false, false, false, false, false] rfl rfl (by kernel_rfl) (fun _ _ _ h => h) (Or.inl ⟨by rfl, ?_⟩) ?_ ?_
                            rotate_left
                            · intro w'
                              go_simp
                              with_reducible rfl
                            rotate_left
                            · simp only [Act.put, List.setIfInBounds_toArray, List.set_cons_zero, List.set_cons_succ, i64_w, i32_w]
                              rfl
                            refine take_ (i := 2) (N := some 77) (v := ?_) (a' := ?_) #[true, false, true, false, false, false] rfl rfl (by kernel_rfl) (fun _ _ _ h => h) (Or.inl ⟨by rfl, ?_⟩) hHeld ?_ ?_
                            rotate_left
                            · rintro w' ⟨s0, s1, s2⟩
                              go_simp
                              with_reducible rfl
                            rotate_left
                            · simp only [Act.put, List.setIfInBounds_toArray, List.set_cons_zero, List.set_cons_succ, i64_w, i32_w]
                              rfl
                            refine one_ (i := 1) (N := some 76) #[true, true, true, false, false, false] rfl rfl (by kernel_rfl) (by decide) (fun K hK => ?_)
                            refine goes_ Try.func12 (by kernel_rfl) rfl #[.slice A0 l0.length c0] (by rfl) rfl rfl arr_ ?_
                            with_reducible refine (laws_toHeardS.calls kj26 _ _ l0 t559 _ ?side1 ?side2 A65.out).mono ?_
                            (case side1 => exact kc_ (Kd.C_below HR0.out HB.out))
                            (case side2 => exact HC0.out)
                            rintro e w75 ⟨v560, rfl, ho0, hb⟩
                            refine ⟨_, rfl, ?_⟩
                            have n0_ := Aside0.mk (Kd.R_below (by (with_reducible repeat (first | apply Kd.R_alloc | apply Kd.R_drewN | apply Kd.R_drew)); exact HO_6.out) hb)
                            have n1_ := Aside0.mk (Kd.R_below (by (with_reducible repeat (first | apply Kd.R_alloc | apply Kd.R_drewN | apply Kd.R_drew)); exact HO_9.out) hb)
                            have n2_ := Aside0.mk (Kd.R_below (by (with_reducible repeat (first | apply Kd.R_alloc | apply Kd.R_drewN | apply Kd.R_drew)); exact HO_537002.out) hb)
                            have n3_ := Aside0.mk (Kd.R_lower ho0 (below_size (hb2_ HB.out GE514.out GE536.out)))
                            have n4_ := Aside0.mk (bb_ BK514.out hb)
                            have n5_ := Aside0.mk (bb_ BK536.out hb)
                            have n6_ := Aside0.mk (below_step (hb2_ HB.out GE514.out GE536.out) hb)
                            clear HO_6
                            clear HO_9
                            clear HO_537002
                            clear BK514
                            clear BK536
                            clear HB
                            have HO_6 := n0_
                            have HO_9 := n1_
                            have HO_537002 := n2_
                            have HO561 := n3_
                            have BK514 := n4_
                            have BK536 := n5_
                            have HB := n6_
                            clear n0_ n1_ n2_ n3_ n4_ n5_ n6_
                            (try clear hb)
                            (try clear hb2)
                            (try clear hk)
                            (try clear hi)
                            (try clear ho0)
                            refine hK.out _ _ ⟨(blk_cell BK514.out 0).trans rfl, (blk_cell BK514.out 1).trans rfl, (blk_cell BK514.out 2).trans rfl⟩ (fun hHeld => ?_)
                            clear hK K
                            refine norm_ (a' := ?_) ?_ ?_
                            rotate_left
                            · show Act.put _ (some 76) _ = _
                              simp only [Act.put, List.setIfInBounds_toArray, List.set_cons_zero, List.set_cons_succ, i64_w, i32_w]
                              rfl
                            refine one_ (i := 3) (N := some 78) #[true, true, true, true, false, false] rfl rfl (by kernel_rfl) (by decide) (fun K hK => ?_)
                            refine goes_ Try.func13 (by kernel_rfl) rfl #[.agg #[.int .i64 a1_0, .int .i64 a1_1, .slice A1_2 l1_2.length c1_2]] (by rfl) rfl rfl arr_ ?_
                            with_reducible refine (laws_toPlan.calls kj26 a1_0 a1_1 _ _ l1_2 t562 t563 t564 _ ?side1 ?side2 A66.out).mono ?_
                            (case side1 => exact kc_ (Kd.C_below HR1_2.out HB.out))
                            (case side2 => exact HC1_2.out)
                            rintro e w76 ⟨v565, rfl, ho0, hb⟩
                            refine ⟨_, rfl, ?_⟩
                            have n0_ := Aside0.mk (Kd.R_below (by (with_reducible repeat (first | apply Kd.R_alloc | apply Kd.R_drewN | apply Kd.R_drew)); exact HO_6.out) hb)
                            have n1_ := Aside0.mk (Kd.R_below (by (with_reducible repeat (first | apply Kd.R_alloc | apply Kd.R_drewN | apply Kd.R_drew)); exact HO_9.out) hb)
                            have n2_ := Aside0.mk (Kd.R_elder' (by (with_reducible repeat (first | apply Kd.R_alloc | apply Kd.R_drewN | apply Kd.R_drew)); exact HO_537002.out) (Kd.R_base ho0) hb)
                            have n3_ := Aside0.mk (Kd.R_below (by (with_reducible repeat (first | apply Kd.R_alloc | apply Kd.R_drewN | apply Kd.R_drew)); exact HO561.out) hb)
                            have n4_ := Aside0.mk (Kd.R_lower (Kd.R_new' ho0 (Kd.R_lt (by (with_reducible repeat (first | apply Kd.R_alloc | apply Kd.R_drewN | apply Kd.R_drew)); exact HO_537002.out))) (below_size (hb2_ HB.out GE514.out GE536.out)))
                            have n5_ := Aside0.mk (bb_ BK514.out hb)
                            have n6_ := Aside0.mk (bb_ BK536.out hb)
                            have n7_ := Aside0.mk (below_step (hb2_ HB.out GE514.out GE536.out) hb)
                            clear HO_6
                            clear HO_9
                            clear HO_537002
                            clear HO561
                            clear BK514
                            clear BK536
                            clear HB
                            have HO_6 := n0_
                            have HO_9 := n1_
                            have HO_537002 := n2_
                            have HO561 := n3_
                            have HO566 := n4_
                            have BK514 := n5_
                            have BK536 := n6_
                            have HB := n7_
                            clear n0_ n1_ n2_ n3_ n4_ n5_ n6_ n7_
                            (try clear hb)
                            (try clear hb2)
                            (try clear hk)
                            (try clear hi)
                            (try clear ho0)
                            obtain ⟨Ao77, co77, eo77⟩ := Kd.R_slice HO561.out
                            (first | subst eo77 | (injection eo77 with f1_ f2_ f3_; have f4_ := f1_.symm; have f5_ := f3_.symm; clear f1_ f2_ f3_; subst f4_; subst f5_))
                            obtain ⟨Ao78, co78, eo78⟩ := Kd.R_slice HO566.out
                            (first | subst eo78 | (injection eo78 with f1_ f2_ f3_; have f4_ := f1_.symm; have f5_ := f3_.symm; clear f1_ f2_ f3_; subst f4_; subst f5_))
                            refine hK.out _ _ ⟨(blk_cell BK514.out 0).trans rfl, (blk_cell BK514.out 1).trans rfl, (blk_cell BK514.out 2).trans rfl⟩ (fun hHeld => ?_)
                            clear hK K
                            refine norm_ (a' := ?_) ?_ ?_
                            rotate_left
                            · show Act.put _ (some 78) _ = _
                              simp only [Act.put, List.setIfInBounds_toArray, List.set_cons_zero, List.set_cons_succ, i64_w, i32_w]
                              rfl
                            refine one_ (i := 4) (N := some 79) #[true, true, true, true, true, false] rfl rfl (by kernel_rfl) (by decide) (fun K hK => ?_)
                            refine goes_ Try.func22 (by kernel_rfl) rfl #[.slice Ao77 t559.length co77, .agg #[.int .i64 t562, .int .i64 t563, .slice Ao78 t564.length co78]] (by rfl) rfl rfl arr_ ?_
                            with_reducible refine (impl_HeardOwners.calls kj26 _ _ t559 t562 t563 _ _ t564 t567 _ ?side1 ?side2 ?side3 ?side4 A67.out).mono ?_
                            (case side1 => repeat (first | exact (Kd.R_reads' HO561.out).2.2 | (with_reducible refine Kd.C_alloc ?_ _) | (with_reducible refine Kd.C_drewN ?_ _) | (with_reducible refine Kd.C_drew ?_)))
                            (case side2 => exact (Kd.R_reads' HO561.out).2.1)
                            (case side3 => repeat (first | exact (Kd.R_reads' HO566.out).2.2 | (with_reducible refine Kd.C_alloc ?_ _) | (with_reducible refine Kd.C_drewN ?_ _) | (with_reducible refine Kd.C_drew ?_)))
                            (case side4 => exact (Kd.R_reads' HO566.out).2.1)
                            rintro e w79 ⟨v568, rfl, ho0, hb⟩
                            refine ⟨_, rfl, ?_⟩
                            have n0_ := Aside0.mk (Kd.R_elder' (by (with_reducible repeat (first | apply Kd.R_alloc | apply Kd.R_drewN | apply Kd.R_drew)); exact HO_6.out) (Kd.R_base ho0) hb)
                            have n1_ := Aside0.mk (Kd.R_elder' (by (with_reducible repeat (first | apply Kd.R_alloc | apply Kd.R_drewN | apply Kd.R_drew)); exact HO_9.out) (Kd.R_base ho0) hb)
                            have n2_ := Aside0.mk (Kd.R_below (by (with_reducible repeat (first | apply Kd.R_alloc | apply Kd.R_drewN | apply Kd.R_drew)); exact HO_537002.out) hb)
                            have n3_ := Aside0.mk (Kd.R_below (by (with_reducible repeat (first | apply Kd.R_alloc | apply Kd.R_drewN | apply Kd.R_drew)); exact HO561.out) hb)
                            have n4_ := Aside0.mk (Kd.R_below (by (with_reducible repeat (first | apply Kd.R_alloc | apply Kd.R_drewN | apply Kd.R_drew)); exact HO566.out) hb)
                            have n5_ := Aside0.mk (Kd.R_lower (Kd.R_new' (Kd.R_new' ho0 (Kd.R_lt (by (with_reducible repeat (first | apply Kd.R_alloc | apply Kd.R_drewN | apply Kd.R_drew)); exact HO_6.out))) (Kd.R_lt (by (with_reducible repeat (first | apply Kd.R_alloc | apply Kd.R_drewN | apply Kd.R_drew)); exact HO_9.out))) (below_size (hb2_ HB.out GE514.out GE536.out)))
                            have n6_ := Aside0.mk (bb_ BK514.out hb)
                            have n7_ := Aside0.mk (bb_ BK536.out hb)
                            have n8_ := Aside0.mk (below_step (hb2_ HB.out GE514.out GE536.out) hb)
                            clear HO_6
                            clear HO_9
                            clear HO_537002
                            clear HO561
                            clear HO566
                            clear BK514
                            clear BK536
                            clear HB
                            have HO_6 := n0_
                            have HO_9 := n1_
                            have HO_537002 := n2_
                            have HO561 := n3_
                            have HO566 := n4_
                            have HO569 := n5_
                            have BK514 := n6_
                            have BK536 := n7_
                            have HB := n8_
                            clear n0_ n1_ n2_ n3_ n4_ n5_ n6_ n7_ n8_
                            (try clear hb)
                            (try clear hb2)
                            (try clear hk)
                            (try clear hi)
                            (try clear ho0)
                            refine hK.out _ _ ⟨(blk_cell BK514.out 0).trans rfl, (blk_cell BK514.out 1).trans rfl, (blk_cell BK514.out 2).trans rfl⟩ (fun hHeld => ?_)
                            clear hK K
                            refine norm_ (a' := ?_) ?_ ?_
                            rotate_left
                            · show Act.put _ (some 79) _ = _
                              simp only [Act.put, List.setIfInBounds_toArray, List.set_cons_zero, List.set_cons_succ, i64_w, i32_w]
                              rfl
                            refine pure_ (i := 5) (N := some 13) (v := ?_) (a' := ?_) #[true, true, true, true, true, true] rfl rfl (by kernel_rfl) (fun _ _ _ h => h) (Or.inl ⟨by rfl, ?_⟩) ?_ ?_
                            rotate_left
                            · intro w'
                              go_simp
                              with_reducible rfl
                            rotate_left
                            · simp only [Act.put, List.setIfInBounds_toArray, List.set_cons_zero, List.set_cons_succ, i64_w, i32_w]
                              rfl
                            refine done_ (by kernel_rfl) ?_
                            obtain ⟨Ao80, co80, eo80⟩ := Kd.R_slice HO569.out
                            subst eo80
                            try go_wp2_with (first | ((with_reducible refine gate_callee (f := 23) rfl ?_); refine goesL_ (some 82) rfl rfl Try.func23 (by kernel_rfl) rfl #[.slice Ao80 t567.length co80, .slice Ao47 t525.length co47] rfl arr_ ?_; (with_reducible refine (laws_eqIntS.calls kj26 _ _ t567 _ _ t525 true _ ?side1 ?side2 ?side3 ?side4 A68.out).mono ?_); (case side1 => repeat (first | exact (Kd.R_reads' HO569.out).2.2 | (with_reducible refine Kd.C_alloc ?_ _) | (with_reducible refine Kd.C_drewN ?_ _) | (with_reducible refine Kd.C_drew ?_))); (case side2 => exact (Kd.R_reads' HO569.out).2.1); (case side3 => repeat (first | exact (Kd.R_reads' HO_6.out).2.2 | (with_reducible refine Kd.C_alloc ?_ _) | (with_reducible refine Kd.C_drewN ?_ _) | (with_reducible refine Kd.C_drew ?_))); (case side4 => exact (Kd.R_reads' HO_6.out).2.1); rintro e w' ⟨rfl, ⟨nd, rfl⟩⟩; refine ⟨_, rfl, ?_⟩) | ((with_reducible refine gate_callee (f := 25) rfl ?_); refine goesL_ (some 86) rfl rfl Try.func25 (by kernel_rfl) rfl #[.slice Ao46 t557.length co46, .int .i64 1] rfl (by (try simp only [List.map_toArray, List.map_cons, List.map_nil]); first | done | (rw [show t557.length = t537.length from (Kd.R_reads' HO_9.out).1.symm] <;> rfl) | rfl | (simp only [List.length_drop, List.length_take]; rfl)) ?_; (with_reducible refine (laws_heldIntS.calls kj26 _ _ t557 1 t571 _ ?side1 ?side2 A70.out).mono ?_); (case side1 => repeat (first | exact (Kd.R_reads' HO_9.out).2.2 | (with_reducible refine Kd.C_alloc ?_ _) | (with_reducible refine Kd.C_drewN ?_ _) | (with_reducible refine Kd.C_drew ?_))); (case side2 => rw [show t557.length = t537.length from (Kd.R_reads' HO_9.out).1.symm]; exact (Kd.R_reads' HO_9.out).2.1); rintro e w' ⟨rfl, ⟨nd, rfl⟩⟩; refine ⟨_, rfl, ?_⟩))
                            go_ret
                            exact ⟨er_, hb2_ HB.out GE514.out GE536.out⟩
                          · rw [if_neg c72] at H
                            have c72b0 : (t571 == t556) = false := beq_eq_false_iff_ne.mpr c72
                            have c72b1 : (t571 != t556) = true := bne_iff_ne.mpr c72
                            obtain rfl := Option.some.inj H
                            exact absurd hr_ (by decide)
                      · replace c69 := Bool.eq_false_iff.mpr c69
                        subst c69
                        have H1 : (some false) = some r := by rw [if_neg (show ¬ (false = true) by decide)] at H; exact H
                        clear H
                        have H := H1
                        clear H1
                        obtain rfl := Option.some.inj H
                        exact absurd hr_ (by decide)
                    · rw [if_neg c64] at H
                      have c64b0 : (t558 == t556) = false := beq_eq_false_iff_ne.mpr c64
                      have c64b1 : (t558 != t556) = true := bne_iff_ne.mpr c64
                      obtain rfl := Option.some.inj H
                      exact absurd hr_ (by decide)
          · replace c24 := Bool.eq_false_iff.mpr c24
            subst c24
            have H1 : (some false) = some r := by rw [if_neg (show ¬ (false = true) by decide)] at H; exact H
            clear H
            have H := H1
            clear H1
            obtain rfl := Option.some.inj H
            exact absurd hr_ (by decide)
        · replace c21 := Bool.eq_false_iff.mpr c21
          subst c21
          have H1 : (some false) = some r := by rw [if_neg (show ¬ (false = true) by decide)] at H; exact H
          clear H
          have H := H1
          clear H1
          obtain rfl := Option.some.inj H
          exact absurd hr_ (by decide)
      · replace c18 := Bool.eq_false_iff.mpr c18
        subst c18
        have H1 : (some false) = some r := by rw [if_neg (show ¬ (false = true) by decide)] at H; exact H
        clear H
        have H := H1
        clear H1
        obtain rfl := Option.some.inj H
        exact absurd hr_ (by decide)
end Go.Proofs.Ytpjahhljpoeaeaa.P
namespace Go.Proofs.Ytpjahhljpoeaeaa.G
open Go.RowKit Go.Proofs.YtpjahhljpoeaeaaW.PrintWords
theorem wrap_id {x : Int} (h1 : -9223372036854775808 ≤ x) (h2 : x ≤ 9223372036854775807) : wrap64 x = x := by unfold wrap64; omega
theorem wrap_succ {i n : Nat} (h : i < n) (hn : n ≤ 9223372036854775807) : wrap64 ((i : Int) + 1) = ((i + 1 : Nat) : Int) := by unfold wrap64; omega
theorem wrap_pred {i n : Nat} (h0 : 0 < i) (h : i < n) (hn : n ≤ 9223372036854775807) : wrap64 ((i : Int) - 1) = ((i - 1 : Nat) : Int) := by unfold wrap64; omega
theorem all_loop {n : Nat} {L : Nat → Int → Option Bool} {Q : Nat → Bool} {e : Bool}
    (hs : ∀ k i, i < n → L (k + 1) (i : Int) = if Q i = true then L k ((i + 1 : Nat) : Int) else some false)
    (he : ∀ k, L (k + 1) (n : Int) = some e) :
    ∀ d i k, i + d = n → d < k → L k (i : Int) = some ((List.range' i d).all Q && e) := by
  intro d
  induction d with
  | zero =>
    intro i k h hk
    obtain ⟨k, rfl⟩ : ∃ m, k = m + 1 := ⟨k - 1, by omega⟩
    obtain rfl : i = n := by omega
    rw [he]; simp
  | succ d ih =>
    intro i k h hk
    obtain ⟨k, rfl⟩ : ∃ m, k = m + 1 := ⟨k - 1, by omega⟩
    rw [hs k i (by omega)]
    rw [List.range'_succ]
    cases hq : Q i with
    | true => rw [if_pos rfl, ih (i + 1) k (by omega) (by omega)]; simp [hq]
    | false => simp [hq]
theorem all_loop0 {n : Nat} {L : Nat → Int → Option Bool} {Q : Nat → Bool} {e : Bool}
    (hs : ∀ k i, i < n → L (k + 1) (i : Int) = if Q i = true then L k ((i + 1 : Nat) : Int) else some false)
    (he : ∀ k, L (k + 1) (n : Int) = some e) (k : Nat) (hk : n < k) : L k 0 = some ((List.range n).all Q && e) := by
  have := all_loop hs he n 0 k (by omega) hk
  rw [List.range_eq_range']
  exact this
theorem all_loopT {n : Nat} {L : Nat → Int → Option Bool}
    (hs : ∀ k i, i < n → L (k + 1) (i : Int) = L k ((i + 1 : Nat) : Int)) (he : ∀ k, L (k + 1) (n : Int) = some true) (k : Nat) (hk : n < k) : L k 0 = some true := by
  have := all_loop0 (Q := fun _ => true) (e := true) (fun k i hi => by rw [if_pos rfl]; exact hs k i hi) he k hk
  rw [this]
  simp [List.all_eq_true]
def found {ρ : Type} (Q : Nat → Bool) (r : Nat → ρ) (e : ρ) (is : List Nat) : ρ := match is.find? Q with
  | some j => r j
  | none => e
theorem find_loop {n : Nat} {ρ : Type} {L : Nat → Int → Option ρ} {Q : Nat → Bool} {r : Nat → ρ} {e : ρ} {c : Nat}
    (hs : ∀ k i, i < n → c ≤ k → L (k + 1) (i : Int) = if Q i = true then some (r i) else L k ((i + 1 : Nat) : Int))
    (he : ∀ k, L (k + 1) (n : Int) = some e) :
    ∀ d i k, i + d = n → d + c < k → L k (i : Int) = some (found Q r e (List.range' i d)) := by
  intro d
  induction d with
  | zero =>
    intro i k h hk
    obtain ⟨k, rfl⟩ : ∃ m, k = m + 1 := ⟨k - 1, by omega⟩
    obtain rfl : i = n := by omega
    rw [he]; rfl
  | succ d ih =>
    intro i k h hk
    obtain ⟨k, rfl⟩ : ∃ m, k = m + 1 := ⟨k - 1, by omega⟩
    rw [hs k i (by omega) (by omega), List.range'_succ]
    unfold found
    cases hq : Q i with
    | true => simp [List.find?, hq]
    | false =>
      rw [if_neg (by simp), ih (i + 1) k (by omega) (by omega)]
      simp [List.find?, hq, found]
theorem find_loop0 {n : Nat} {ρ : Type} {L : Nat → Int → Option ρ} {Q : Nat → Bool} {r : Nat → ρ} {e : ρ} {c : Nat}
    (hs : ∀ k i, i < n → c ≤ k → L (k + 1) (i : Int) = if Q i = true then some (r i) else L k ((i + 1 : Nat) : Int))
    (he : ∀ k, L (k + 1) (n : Int) = some e) (k : Nat) (hk : n + c < k) : L k 0 = some (found Q r e (List.range n)) := by
  have := find_loop hs he n 0 k (by omega) hk
  rw [List.range_eq_range']
  exact this
theorem found_none {ρ : Type} {Q : Nat → Bool} {r : Nat → ρ} {e : ρ} {n : Nat} (h : ∀ i, i < n → Q i = false) : found Q r e (List.range n) = e := by
  unfold found
  have : (List.range n).find? Q = none := by
    rw [List.find?_eq_none]; intro i hi; rw [h i (List.mem_range.1 hi)]; simp
  rw [this]
theorem found_some {ρ : Type} {Q : Nat → Bool} {r : Nat → ρ} {e : ρ} {n j : Nat} (hj : j < n) (hq : Q j = true) (h : ∀ i, i < j → Q i = false) : found Q r e (List.range n) = r j := by
  unfold found
  have : (List.range n).find? Q = some j := by
    rw [List.find?_range_eq_some]; exact ⟨hq, List.mem_range.2 hj, fun i hi => by rw [h i hi]; rfl⟩
  rw [this]
theorem first_of {Q : Nat → Bool} : ∀ n, (∃ j, j < n ∧ Q j = true ∧ ∀ i, i < j → Q i = false) ∨ ∀ i, i < n → Q i = false := by
  intro n
  induction n with
  | zero => right; intro i hi; omega
  | succ n ih =>
    rcases ih with ⟨j, h1, h2, h3⟩ | h
    · left; exact ⟨j, by omega, h2, h3⟩
    · cases hq : Q n with
      | true => left; exact ⟨n, by omega, hq, h⟩
      | false => right; intro i hi; rcases Nat.lt_or_ge i n with c | c
                 · exact h i c
                 · obtain rfl : i = n := by omega
                   exact hq
theorem track_loop {n : Nat} {σ ρ : Type} {L : Nat → σ → Int → Option ρ} {F : Nat → σ} {r : ρ} {c : Nat}
    (hs : ∀ k i, i < n → c ≤ k → L (k + 1) (F i) (i : Int) = L k (F (i + 1)) ((i + 1 : Nat) : Int))
    (he : ∀ k, c ≤ k → L (k + 1) (F n) (n : Int) = some r) :
    ∀ d i k, i + d = n → d + c < k → L k (F i) (i : Int) = some r := by
  intro d
  induction d with
  | zero =>
    intro i k h hk
    obtain ⟨k, rfl⟩ : ∃ m, k = m + 1 := ⟨k - 1, by omega⟩
    obtain rfl : i = n := by omega
    exact he k (by omega)
  | succ d ih =>
    intro i k h hk
    obtain ⟨k, rfl⟩ : ∃ m, k = m + 1 := ⟨k - 1, by omega⟩
    rw [hs k i (by omega) (by omega)]
    exact ih (i + 1) k (by omega) (by omega)
theorem track_loop0 {n : Nat} {σ ρ : Type} {L : Nat → σ → Int → Option ρ} {F : Nat → σ} {r : ρ} {c : Nat}
    (hs : ∀ k i, i < n → c ≤ k → L (k + 1) (F i) (i : Int) = L k (F (i + 1)) ((i + 1 : Nat) : Int))
    (he : ∀ k, c ≤ k → L (k + 1) (F n) (n : Int) = some r) (k : Nat) (hk : n + c < k) : L k (F 0) 0 = some r :=
  track_loop hs he n 0 k (by omega) hk
theorem to_loop {α β : Type} {l : List α} {c : α → β} {z : β} {L : Nat → List β → Int → Option (List β)}
    (hs : ∀ k acc i (hi : i < l.length), acc.length = l.length → L (k + 1) acc (i : Int) = L k (acc.set i (c l[i])) ((i + 1 : Nat) : Int))
    (he : ∀ k acc, acc.length = l.length → L (k + 1) acc (l.length : Int) = some acc) :
    ∀ d i k, i + d = l.length → d < k → L k ((l.take i).map c ++ List.replicate d z) (i : Int) = some (l.map c) := by
  intro d
  induction d with
  | zero =>
    intro i k h hk
    obtain ⟨k, rfl⟩ : ∃ m, k = m + 1 := ⟨k - 1, by omega⟩
    obtain rfl : i = l.length := by omega
    rw [he _ _ (by simp)]; simp
  | succ d ih =>
    intro i k h hk
    obtain ⟨k, rfl⟩ : ∃ m, k = m + 1 := ⟨k - 1, by omega⟩
    have hi : i < l.length := by omega
    rw [hs _ _ i hi (by simp; omega), ← ih (i + 1) k (by omega) (by omega)]
    congr 1
    have hl : ((l.take i).map c).length = i := by simp; omega
    rw [List.set_append, if_neg (by omega), hl, Nat.sub_self, List.replicate_succ, List.set_cons_zero, List.take_succ_eq_append_getElem hi, List.map_append, List.append_assoc]
    rfl
theorem to_loop0 {α β : Type} {l : List α} {c : α → β} {z : β} {L : Nat → List β → Int → Option (List β)}
    (hs : ∀ k acc i (hi : i < l.length), acc.length = l.length → L (k + 1) acc (i : Int) = L k (acc.set i (c l[i])) ((i + 1 : Nat) : Int))
    (he : ∀ k acc, acc.length = l.length → L (k + 1) acc (l.length : Int) = some acc) (k : Nat) (hk : l.length < k) : L k (List.replicate l.length z) 0 = some (l.map c) := by
  have := to_loop hs he l.length 0 k (by omega) hk (z := z)
  simpa using this
theorem all_iff {n : Nat} {Q : Nat → Bool} : (List.range n).all Q = true ↔ ∀ i, i < n → Q i = true := by
  rw [List.all_eq_true]; exact ⟨fun h i hi => h i (List.mem_range.2 hi), fun h i hi => h i (List.mem_range.1 hi)⟩
theorem mark_loop {α ρ : Type} {l : List α} {f : Nat → α} {w : Nat → Int} {L : Nat → List α → Int → Int → Option ρ} {fin : List α → ρ} {c : Nat}
    (hs : ∀ k i acc, i < l.length → acc.length = l.length → c ≤ k → L (k + 1) acc (w i) (i : Int) = L k (acc.set i (f i)) (w (i + 1)) ((i + 1 : Nat) : Int))
    (he : ∀ k acc, acc.length = l.length → L (k + 1) acc (w l.length) (l.length : Int) = some (fin acc)) :
    ∀ d i k, i + d = l.length → d + c < k → L k ((List.range i).map f ++ l.drop i) (w i) (i : Int) = some (fin ((List.range l.length).map f)) := by
  intro d
  induction d with
  | zero =>
    intro i k h hk
    obtain ⟨k, rfl⟩ : ∃ m, k = m + 1 := ⟨k - 1, by omega⟩
    obtain rfl : i = l.length := by omega
    rw [he _ _ (by simp)]; simp
  | succ d ih =>
    intro i k h hk
    obtain ⟨k, rfl⟩ : ∃ m, k = m + 1 := ⟨k - 1, by omega⟩
    have hi : i < l.length := by omega
    rw [hs _ _ _ hi (by simp; omega) (by omega), ← ih (i + 1) k (by omega) (by omega)]
    congr 1
    have hl : ((List.range i).map f).length = i := by simp
    rw [List.set_append, if_neg (by omega), hl, Nat.sub_self, List.drop_eq_getElem_cons hi, List.set_cons_zero, List.range_succ, List.map_append, List.append_assoc]
    rfl
theorem mark_loop0 {α ρ : Type} {l : List α} {f : Nat → α} {w : Nat → Int} {L : Nat → List α → Int → Int → Option ρ} {fin : List α → ρ} {c : Nat}
    (hs : ∀ k i acc, i < l.length → acc.length = l.length → c ≤ k → L (k + 1) acc (w i) (i : Int) = L k (acc.set i (f i)) (w (i + 1)) ((i + 1 : Nat) : Int))
    (he : ∀ k acc, acc.length = l.length → L (k + 1) acc (w l.length) (l.length : Int) = some (fin acc)) (k : Nat) (hk : l.length + c < k) :
    L k l (w 0) 0 = some (fin ((List.range l.length).map f)) := by
  have := mark_loop hs he l.length 0 k (by omega) hk
  simpa using this
end Go.Proofs.Ytpjahhljpoeaeaa.G
namespace Go.Proofs.Ytpjahhljpoeaeaa.C
open Go.RowKit Go.Proofs.Ytpjahhljpoeaeaa.P Go.Proofs.Ytpjahhljpoeaeaa.G Go.Proofs.YtpjahhljpoeaeaaW.PrintWords
def Asc (l : List Int) : Prop := l.Pairwise (· ≤ ·)
def Ascs (l : List Int) : Prop := l.Pairwise (· < ·)
theorem rdm (A D : List Int) (a : Int) : rd (A ++ a :: D) (A.length : Int) = a := by unfold rd; simp [List.getD]
theorem rdm1 (A D : List Int) (a v : Int) : rd (A ++ a :: v :: D) ((A.length + 1 : Nat) : Int) = v := by
  have := rdm (A ++ [a]) D v
  simpa using this
theorem setm (A D : List Int) (a v : Int) : ((A ++ a :: v :: D).set (A.length + 1) a).set A.length v = A ++ v :: a :: D := by
  induction A with
  | nil => rfl
  | cons x A ih => simp only [List.cons_append, List.length_cons, List.set_cons_succ]; rw [ih]
theorem less_int (a b : Int) : cmp_Less_int.f a b = some (decide (a < b)) := by
  unfold cmp_Less_int.f cmp_isNaN_int.f
  simp
theorem ins_in (N : Nat) (hN : N ≤ 1000) : ∀ (n : Nat) (A B C : List Int) (v x6 : Int), A.length = n → (A ++ v :: (B ++ C)).length = N → Asc (A ++ B) → (∀ b ∈ B, v < b) → ∃ S : List Int, S.Perm (v :: (A ++ B)) ∧ Asc S ∧
    ∀ (k c : Nat) (r : Option (List Int)), n + c < k → (∀ k', c ≤ k' → slices_insertionSortOrdered_int.l0 k' (S ++ C) 0 (N : Int) (wrap64 (x6 + 1)) = r) → slices_insertionSortOrdered_int.l1 k (A ++ v :: (B ++ C)) 0 (N : Int) x6 (n : Int) = r := by
  intro n
  induction n with
  | zero =>
    intro A B C v x6 hA hl hs hv
    obtain rfl : A = [] := List.eq_nil_of_length_eq_zero hA
    refine ⟨v :: B, by simp, ?_, fun k c r hk h => ?_⟩
    · unfold Asc at hs ⊢
      rw [List.pairwise_cons]
      exact ⟨fun b hb => by have := hv b hb; omega, by simpa using hs⟩
    · obtain ⟨k, rfl⟩ : ∃ m, k = m + 1 := ⟨k - 1, by omega⟩
      simp only [slices_insertionSortOrdered_int.l1]
      rw [if_neg (by omega)]
      exact h k (by omega)
  | succ n ih =>
    intro A B C v x6 hA hl hs hv
    obtain ⟨A', a, rfl⟩ : ∃ A' a, A = A' ++ [a] := by
      rcases List.eq_nil_or_concat A with h | ⟨A', a, h⟩
      · rw [h] at hA; simp at hA
      · exact ⟨A', a, by rw [h]; simp⟩
    have hA' : A'.length = n := by simpa using hA
    have hlen : A'.length + (B ++ C).length + 2 = N := by rw [← hl]; simp; omega
    have e0 : (A' ++ [a]) ++ v :: (B ++ C) = A' ++ a :: v :: (B ++ C) := by simp
    by_cases hav : v < a
    · obtain ⟨S, s1, s2, s3⟩ := ih A' (a :: B) C v x6 hA' (by simp at hlen ⊢; omega) (by simpa using hs) (fun b hb => by
        rcases List.mem_cons.1 hb with rfl | hb
        · exact hav
        · exact hv b hb)
      refine ⟨S, by simpa using s1, s2, fun k c r hk h => ?_⟩
      obtain ⟨k, rfl⟩ : ∃ m, k = m + 1 := ⟨k - 1, by omega⟩
      simp only [slices_insertionSortOrdered_int.l1]
      have w1 : wrap64 (((n + 1 : Nat) : Int) - 1) = (n : Int) := by rw [wrap_id (by omega) (by omega)]; omega
      have l1 : (A' ++ a :: v :: (B ++ C)).length = N := by simp at hlen ⊢; omega
      rw [e0, w1, if_pos (by omega), if_pos (by omega), if_pos (by omega), if_pos (by omega), if_pos (by omega)]
      rw [← hA', rdm1, rdm, less_int, Option.bind_some, decide_eq_true hav, if_pos rfl, Int.toNat_natCast, Int.toNat_natCast, setm]
      have := s3 k c r (by omega) h
      rw [← hA'] at this
      simpa using this
    · refine ⟨A' ++ a :: v :: B, ?_, ?_, fun k c r hk h => ?_⟩
      · have : (A' ++ a :: v :: B) = (A' ++ [a]) ++ (v :: B) := by simp
        rw [this]
        exact List.perm_middle
      · unfold Asc at hs ⊢
        have h1 : (A' ++ a :: B).Pairwise (· ≤ ·) := by simpa using hs
        rw [List.pairwise_append] at h1 ⊢
        obtain ⟨p1, p2, p3⟩ := h1
        rw [List.pairwise_cons] at p2
        refine ⟨p1, ?_, ?_⟩
        · rw [List.pairwise_cons, List.pairwise_cons]
          exact ⟨fun b hb => by
            rcases List.mem_cons.1 hb with rfl | hb
            · omega
            · exact p2.1 b hb, fun b hb => by have := hv b hb; omega, p2.2⟩
        · intro x hx b hb
          rcases List.mem_cons.1 hb with rfl | hb
          · exact p3 x hx b (by simp)
          · rcases List.mem_cons.1 hb with rfl | hb
            · have := p3 x hx a (by simp); omega
            · exact p3 x hx b (by simp [hb])
      · obtain ⟨k, rfl⟩ : ∃ m, k = m + 1 := ⟨k - 1, by omega⟩
        simp only [slices_insertionSortOrdered_int.l1]
        have w1 : wrap64 (((n + 1 : Nat) : Int) - 1) = (n : Int) := by rw [wrap_id (by omega) (by omega)]; omega
        have l1 : (A' ++ a :: v :: (B ++ C)).length = N := by simp at hlen ⊢; omega
        rw [e0, w1, if_pos (by omega), if_pos (by omega), if_pos (by omega), if_pos (by omega), if_pos (by omega)]
        rw [← hA', rdm1, rdm, less_int, Option.bind_some, decide_eq_false hav, if_neg (by decide)]
        have := h k (by omega)
        simpa using this
theorem ins_out (N : Nat) (hN : N ≤ 1000) : ∀ (d : Nat) (S C : List Int), C.length = d → S.length + d = N → S ≠ [] → Asc S → ∃ r : List Int, r.Perm (S ++ C) ∧ Asc r ∧ ∀ k, (N + 2) * (d + 1) < k → slices_insertionSortOrdered_int.l0 k (S ++ C) 0 (N : Int) (S.length : Int) = some r := by
  intro d
  induction d with
  | zero =>
    intro S C hC hl hne hs
    obtain rfl : C = [] := List.eq_nil_of_length_eq_zero hC
    refine ⟨S, by simp, hs, fun k hk => ?_⟩
    obtain ⟨k, rfl⟩ : ∃ m, k = m + 1 := ⟨k - 1, by omega⟩
    simp only [slices_insertionSortOrdered_int.l0]
    rw [if_neg (by omega), List.append_nil]
  | succ d ih =>
    intro S C hC hl hne hs
    obtain ⟨v, C, rfl⟩ : ∃ v C', C = v :: C' := by cases C with | nil => simp at hC | cons v C => exact ⟨v, C, rfl⟩
    have hC' : C.length = d := by simpa using hC
    obtain ⟨T, t1, t2, t3⟩ := ins_in N hN S.length S [] C v (S.length : Int) rfl (by simp; omega) (by simpa using hs) (by simp)
    have tl : T.length = S.length + 1 := by have := t1.length_eq; simpa using this
    obtain ⟨r, r1, r2, r3⟩ := ih T C hC' (by omega) (by intro h; rw [h] at tl; simp at tl) t2
    refine ⟨r, r1.trans ?_, r2, fun k hk => ?_⟩
    · refine (List.Perm.append_right C t1).trans ?_
      simpa using List.perm_middle.symm
    · obtain ⟨k, rfl⟩ : ∃ m, k = m + 1 := ⟨k - 1, by omega⟩
      simp only [slices_insertionSortOrdered_int.l0]
      have e1 : (N + 2) * (d + 1 + 1) = (N + 2) * (d + 1) + (N + 2) := by rw [Nat.mul_succ]
      rw [if_pos (by omega)]
      have := t3 k ((N + 2) * (d + 1) + 1) (some r) (by omega) (fun k' hk' => ?_)
      · simpa using this
      · rw [show wrap64 ((S.length : Int) + 1) = (T.length : Int) by rw [wrap_id (by omega) (by omega)]; omega]
        exact r3 k' (by omega)
theorem sort_short (l : List Int) (hl : l.length ≤ 12) (k : Nat) (hk : 1000 ≤ k) : ∃ r : List Int, slices_Sort_int.f k l = some r ∧ r.Perm l ∧ Asc r := by
  have hw : IntKind.u64.wrap (l.length : Int) = (l.length : Int) := by unfold IntKind.wrap; simp [IntKind.bits]; omega
  have hlen : ∃ t, bits_Len.f (l.length : Int) = some t := by
    unfold bits_Len.f; rw [if_pos (by omega), if_pos (by omega)]; exact ⟨_, rfl⟩
  obtain ⟨t, ht⟩ := hlen
  obtain ⟨k, rfl⟩ : ∃ m, k = m + 2 := ⟨k - 2, by omega⟩
  have hw2 : wrap64 ((l.length : Int) - 0) = (l.length : Int) := by rw [Int.sub_zero, wrap_id (by omega) (by omega)]
  have hw3 : wrap64 ((0 : Int) + 1) = 1 := by rw [wrap_id (by omega) (by omega)]; rfl
  have key : ∃ r : List Int, slices_insertionSortOrdered_int.f k l 0 (l.length : Int) = some r ∧ r.Perm l ∧ Asc r := by
    unfold slices_insertionSortOrdered_int.f
    rw [hw3]
    cases l with
    | nil =>
      obtain ⟨k, rfl⟩ : ∃ m, k = m + 1 := ⟨k - 1, by omega⟩
      refine ⟨[], ?_, List.Perm.refl _, List.Pairwise.nil⟩
      simp [slices_insertionSortOrdered_int.l0]
    | cons v C =>
      obtain ⟨r, r1, r2, r3⟩ := ins_out (v :: C).length (by omega) C.length [v] C rfl (by simp; omega) (by simp) (by unfold Asc; simp)
      refine ⟨r, ?_, by simpa using r1, r2⟩
      refine r3 k ?_
      have : (C.length + 1 + 2) * (C.length + 1) ≤ 15 * 13 := Nat.mul_le_mul (by simp at hl; omega) (by simp at hl; omega)
      simp only [List.length_cons]; omega
  obtain ⟨r, h1, h2, h3⟩ := key
  refine ⟨r, ?_, h2, h3⟩
  unfold slices_Sort_int.f
  rw [hw, ht, Option.bind_some]
  simp only [slices_pdqsortOrdered_int.f, slices_pdqsortOrdered_int.l0]
  rw [hw2, if_pos (by omega), h1]
  rfl
theorem compact_asc {l : List Int} (h : Asc l) : Ascs (Go.Lib.compact l) ∧ ∀ x, x ∈ Go.Lib.compact l ↔ x ∈ l := by
  have get : ∀ i (hi : i < l.length), l.toArray[i]! = l[i] := fun i hi => by simp [getElem!_pos, hi]
  have le : ∀ i j (hj : j < l.length) (hij : i ≤ j), l[i]'(by omega) ≤ l[j] := by
    intro i j hj hij
    rcases Nat.lt_or_ge i j with c | c
    · exact List.pairwise_iff_getElem.1 h i j (by omega) hj c
    · obtain rfl : i = j := by omega
      exact Int.le_refl _
  unfold Go.Lib.compact Go.Lib.compactUpTo
  constructor
  · unfold Ascs
    rw [List.pairwise_map]
    have hp : ((List.range l.length).filter (Go.Lib.keeps l.toArray)).Pairwise (· < ·) := List.Pairwise.filter _ List.pairwise_lt_range
    refine List.Pairwise.imp_of_mem (fun {i j} hi hj hij => ?_) hp
    rw [List.mem_filter, List.mem_range] at hi hj
    have hk := hj.2
    unfold Go.Lib.keeps at hk
    rw [decide_eq_true_iff] at hk
    rw [get i hi.1, get j hj.1]
    rcases hk with hk | hk
    · omega
    · rw [get j hj.1, get (j - 1) (by omega)] at hk
      have h1 := le i (j - 1) (by omega) (by omega)
      have h2 := le (j - 1) j hj.1 (by omega)
      omega
  · intro x
    constructor
    · intro hx
      obtain ⟨i, hi, rfl⟩ := List.mem_map.1 hx
      rw [List.mem_filter, List.mem_range] at hi
      rw [get i hi.1]
      exact List.getElem_mem hi.1
    · intro hx
      obtain ⟨j, hj, rfl⟩ := List.getElem_of_mem hx
      have key : ∀ n j (hj : j < l.length), j ≤ n → ∃ i, ∃ hi : i < l.length, Go.Lib.keeps l.toArray i = true ∧ l[i] = l[j] := by
        intro n
        induction n with
        | zero => intro j hj hn; refine ⟨j, hj, ?_, rfl⟩; unfold Go.Lib.keeps; rw [decide_eq_true_iff]; left; omega
        | succ n ih =>
          intro j hj hn
          cases hk : Go.Lib.keeps l.toArray j with
          | true => exact ⟨j, hj, hk, rfl⟩
          | false =>
            unfold Go.Lib.keeps at hk
            rw [decide_eq_false_iff_not] at hk
            have h0 : j ≠ 0 := fun e => hk (.inl e)
            have h1 : l.toArray[j]! = l.toArray[j - 1]! := by
              rcases Classical.em (l.toArray[j]! = l.toArray[j - 1]!) with c | c
              · exact c
              · exact absurd (.inr c) hk
            rw [get j hj, get (j - 1) (by omega)] at h1
            obtain ⟨i, hi, e1, e2⟩ := ih (j - 1) (by omega) (by omega)
            exact ⟨i, hi, e1, by rw [e2, h1]⟩
      obtain ⟨i, hi, e1, e2⟩ := key j j hj (Nat.le_refl _)
      exact List.mem_map.2 ⟨i, List.mem_filter.2 ⟨List.mem_range.2 hi, e1⟩, by rw [get i hi, e2]⟩
theorem ascs_eq : ∀ {a b : List Int}, Ascs a → Ascs b → (∀ x, x ∈ a ↔ x ∈ b) → a = b := by
  intro a
  induction a with
  | nil =>
    intro b _ _ h
    cases b with
    | nil => rfl
    | cons y b => have := (h y).2 (by simp); simp at this
  | cons x a ih =>
    intro b ha hb h
    cases b with
    | nil => have := (h x).1 (by simp); simp at this
    | cons y b =>
      unfold Ascs at ha hb
      rw [List.pairwise_cons] at ha hb
      have exy : x = y := by
        rcases List.mem_cons.1 ((h x).1 (by simp)) with e | e
        · exact e
        · rcases List.mem_cons.1 ((h y).2 (by simp)) with e2 | e2
          · exact e2.symm
          · have := hb.1 x e; have := ha.1 y e2; omega
      subst exy
      congr 1
      refine ih ha.2 hb.2 (fun z => ?_)
      constructor
      · intro hz
        rcases List.mem_cons.1 ((h z).1 (by simp [hz])) with e | e
        · have := ha.1 z hz; omega
        · exact e
      · intro hz
        rcases List.mem_cons.1 ((h z).2 (by simp [hz])) with e | e
        · have := hb.1 z hz; omega
        · exact e
def below8 (p : Int → Bool) : List Int := ((List.range 8).map fun (n : Nat) => (n : Int)).filter p
theorem below8_ascs (p : Int → Bool) : Ascs (below8 p) := by
  unfold below8 Ascs
  refine List.Pairwise.filter _ ?_
  rw [List.pairwise_map]
  refine List.Pairwise.imp (fun {a b} h => ?_) List.pairwise_lt_range
  omega
theorem mem_below8 (p : Int → Bool) (x : Int) : x ∈ below8 p ↔ (0 ≤ x ∧ x < 8) ∧ p x = true := by
  unfold below8
  rw [List.mem_filter, List.mem_map]
  constructor
  · rintro ⟨⟨n, hn, rfl⟩, h⟩
    rw [List.mem_range] at hn
    exact ⟨by omega, h⟩
  · rintro ⟨h1, h2⟩
    exact ⟨⟨x.toNat, List.mem_range.2 (by omega), by omega⟩, h2⟩
theorem sort_compact (l : List Int) (hl : l.length ≤ 12) (hb : ∀ x ∈ l, 0 ≤ x ∧ x < 8) (k : Nat) (hk : 1000 ≤ k) : ((slices_Sort_int.f k l).bind fun t => (slices_Compact_int.f t).bind fun u => some u) = some (below8 fun n => decide (n ∈ l)) := by
  obtain ⟨r, h1, h2, h3⟩ := sort_short l hl k hk
  rw [h1, Option.bind_some]
  unfold slices_Compact_int.f
  rw [Option.bind_some]
  have hc := compact_asc h3
  congr 1
  refine ascs_eq hc.1 (below8_ascs _) (fun x => ?_)
  rw [hc.2, mem_below8, h2.mem_iff, decide_eq_true_iff]
  exact ⟨fun h => ⟨hb x h, h⟩, fun h => h.2⟩
theorem below8_len (p : Int → Bool) : (below8 p).length ≤ 8 := by
  unfold below8; exact Nat.le_trans (List.length_filter_le _ _) (by simp)
end Go.Proofs.Ytpjahhljpoeaeaa.C
namespace Go.Proofs.Ytpjahhljpoeaeaa.C
open Go.RowKit Go.Proofs.Ytpjahhljpoeaeaa.P Go.Proofs.Ytpjahhljpoeaeaa.G
theorem l1In (a b c : Int) : spec_l1In.f a b c = some (decide (b ≤ a ∧ a ≤ c)) := by
  unfold spec_l1In.f; by_cases h : a ≥ b <;> simp [h] <;> omega
theorem in_ (a b c : Int) : impl_in.f a b c = some (decide (b ≤ a ∧ a ≤ c)) := by
  unfold impl_in.f; by_cases h : b ≤ a <;> simp [h]
theorem l2Time (a : Int) : spec_l2Time.f a = some (decide (0 ≤ a ∧ a ≤ 1000000000000)) := by
  unfold spec_l2Time.f; rw [l1In]; rfl
theorem isTime (a : Int) : impl_isTime.f a = some (decide (0 ≤ a ∧ a ≤ 1000000000000)) := by
  unfold impl_isTime.f; rw [in_]; rfl
theorem l4Node (a : Int) : spec_l4Node.f a = some (decide (0 ≤ a ∧ a ≤ 7)) := by
  unfold spec_l4Node.f; rw [l1In]; rfl
theorem isNode (a : Int) : impl_isNode.f a = some (decide (0 ≤ a ∧ a ≤ 7)) := by
  unfold impl_isNode.f; rw [in_]; rfl
abbrev Sl := S79
abbrev SlL := S113
def toSl (x : SlL) : Sl := ⟨x.f0, x.f1⟩
theorem rdSl (l : List Sl) (i : Nat) (h : i < l.length) : rd_T79 l (i : Int) = l[i] := by
  unfold rd_T79; simp [List.getD, h]
theorem rdSlL (l : List SlL) (i : Nat) (h : i < l.length) : rd_T113 l (i : Int) = l[i] := by
  unfold rd_T113; simp [List.getD, h]
theorem toSlotS (l : List SlL) (hl : l.length ≤ 1048576) (k : Nat) (hk : l.length < k) : laws_toSlotS.f k l = some (l.map toSl) := by
  unfold laws_toSlotS.f
  rw [if_pos (by omega), if_pos (by simp; omega)]
  simp only [Int.toNat_natCast]
  refine to_loop0 (L := fun k acc i => laws_toSlotS.l0 k l acc i) (fun k acc i hi ha => ?_) (fun k acc ha => ?_) k hk
  · simp only [laws_toSlotS.l0, laws_toSlot.f, Option.bind_some]
    rw [if_pos (by omega), if_pos (by omega), if_pos (by omega), wrap_succ hi (by omega), rdSlL l i hi]
    rfl
  · simp only [laws_toSlotS.l0]
    rw [if_neg (by omega)]
theorem toPlan (a b : Int) (l : List SlL) (hl : l.length ≤ 1048576) (k : Nat) (hk : l.length < k) : laws_toPlan.f k a b l = some (a, b, l.map toSl) := by
  unfold laws_toPlan.f; rw [toSlotS l hl k hk]; rfl
theorem eqSlotS (l : List Sl) (hl : l.length ≤ 1048576) (k : Nat) (hk : l.length < k) : laws_eqSlotS.f k l l = some true := by
  unfold laws_eqSlotS.f
  rw [if_pos rfl]
  refine all_loopT (n := l.length) (L := fun k i => laws_eqSlotS.l0 k l l i) (fun k i hi => ?_) (fun k => ?_) k hk
  · simp only [laws_eqSlotS.l0, laws_eqSlot.f]
    rw [if_pos (by omega), if_pos (by omega), if_pos (by omega), wrap_succ hi (by omega)]
    simp
  · simp only [laws_eqSlotS.l0]
    rw [if_neg (by omega)]
theorem eqPlan (a b : Int) (l : List Sl) (hl : l.length ≤ 1048576) (k : Nat) (hk : l.length < k) : laws_eqPlan.f k a b l a b l = some true := by
  unfold laws_eqPlan.f; rw [eqSlotS l hl k hk]; simp
theorem szPlan (a b : Int) (l : List SlL) (hl : l.length ≤ 9223372036854775807) (x : Int) (hx : 0 ≤ x ∧ x ≤ 1048576) :
    (laws_szPlan.f a b l x = some (-1)) ∨ (laws_szPlan.f a b l x = some (x - l.length) ∧ (l.length : Int) ≤ x) := by
  unfold laws_szPlan.f laws_szSlotS.f
  have hw : wrap64 (x - (l.length : Int)) = x - l.length := wrap_id (by omega) (by omega)
  rw [hw]
  by_cases h : x - (l.length : Int) < 0
  · left; rw [if_pos h]; simp
  · right; rw [if_neg h]; simp only [Option.bind_some]; rw [if_neg h]; exact ⟨rfl, by omega⟩
def slotOk (x : Sl) : Bool := decide (0 ≤ x.f0 ∧ x.f0 ≤ 7) && decide (1 ≤ x.f1 ∧ x.f1 ≤ 1000000)
def slotsOk (l : List Sl) : Bool := (List.range l.length).all fun i => match l[i]? with | some x => slotOk x | none => true
def planOk (st gap : Int) (l : List Sl) : Bool := decide (0 ≤ st ∧ st ≤ 1000000000000) && decide (0 ≤ gap ∧ gap ≤ 100000) && decide ((1 : Int) ≤ l.length ∧ (l.length : Int) ≤ 12) && slotsOk l
theorem slotsOk_get {l : List Sl} (h : slotsOk l = true) (i : Nat) (hi : i < l.length) : 0 ≤ l[i].f0 ∧ l[i].f0 ≤ 7 ∧ 1 ≤ l[i].f1 ∧ l[i].f1 ≤ 1000000 := by
  unfold slotsOk at h; rw [all_iff] at h
  have := h i hi
  rw [List.getElem?_eq_getElem hi] at this
  simp [slotOk] at this; omega
theorem planOk_iff (st gap : Int) (l : List Sl) : planOk st gap l = true ↔ (0 ≤ st ∧ st ≤ 1000000000000) ∧ (0 ≤ gap ∧ gap ≤ 100000) ∧ (1 ≤ l.length ∧ l.length ≤ 12) ∧ slotsOk l = true := by
  unfold planOk; simp only [Bool.and_eq_true, decide_eq_true_eq]; constructor
  · rintro ⟨⟨⟨h1, h2⟩, h3⟩, h4⟩; exact ⟨h1, h2, by omega, h4⟩
  · rintro ⟨h1, h2, h3, h4⟩; exact ⟨⟨⟨h1, h2⟩, by omega⟩, h4⟩
theorem iIndexSlot (l : List Sl) (hl : l.length ≤ 1048576) (k : Nat) (hk : l.length < k) : ∃ r, slices_IndexFunc_Slot.f k l = some r ∧ decide (r ≥ 0) = !slotsOk l := by
  have h1 : ∀ x : Sl, impl_PlanOk_1.f x.f0 x.f1 = some (!slotOk x) := by
    intro x; unfold impl_PlanOk_1.f slotOk; simp only [isNode, in_, Option.bind_some]
    cases decide (0 ≤ x.f0 ∧ x.f0 ≤ 7) <;> simp
  unfold slices_IndexFunc_Slot.f
  have := find_loop0 (n := l.length) (L := fun k i => slices_IndexFunc_Slot.l0 k l (l.length : Int) i) (Q := fun i => match l[i]? with | some x => !slotOk x | none => false) (r := fun i => (i : Int)) (e := -1) (c := 0) (fun k i hi _ => ?_) (fun k => ?_) k (by omega)
  · refine ⟨_, this, ?_⟩
    rcases first_of (Q := fun i => match l[i]? with | some x => !slotOk x | none => false) l.length with ⟨j, h2, h3, h4⟩ | h2
    · rw [found_some h2 h3 h4]
      have : slotsOk l = false := by
        cases hs : slotsOk l with
        | false => rfl
        | true =>
          unfold slotsOk at hs; rw [all_iff] at hs
          have := hs j h2
          rw [List.getElem?_eq_getElem h2] at this h3
          simp at this h3; rw [this] at h3; cases h3
      rw [this]; simp
    · rw [found_none h2]
      have : slotsOk l = true := by
        unfold slotsOk; rw [all_iff]; intro i hi
        have := h2 i hi
        rw [List.getElem?_eq_getElem hi] at this ⊢
        simpa using this
      rw [this]; simp
  · simp only [slices_IndexFunc_Slot.l0]
    rw [if_pos (by omega), if_pos (by omega), if_pos (by omega), wrap_succ hi (by omega), rdSl l i hi, h1, List.getElem?_eq_getElem hi]
    rfl
  · simp only [slices_IndexFunc_Slot.l0]
    rw [if_neg (by omega)]
theorem iPlanOk (st gap : Int) (l : List Sl) (hl : l.length ≤ 1048576) (k : Nat) (hk : l.length < k) : impl_PlanOk.f k st gap l = some (planOk st gap l) := by
  obtain ⟨r, h1, h2⟩ := iIndexSlot l hl k hk
  unfold impl_PlanOk.f planOk slices_ContainsFunc_Slot.f; simp only [isTime, in_, h1, h2, Option.bind_some]
  cases decide (0 ≤ st ∧ st ≤ 1000000000000) <;> cases decide (0 ≤ gap ∧ gap ≤ 100000) <;> cases decide ((1 : Int) ≤ l.length ∧ (l.length : Int) ≤ 12) <;> simp
theorem sPlanOk (st gap : Int) (l : List Sl) (hl : l.length ≤ 1048576) (k : Nat) (hk : l.length + 1 < k) : spec_PlanOk.f k st gap l = some (planOk st gap l) := by
  obtain ⟨k, rfl⟩ : ∃ j, k = j + 1 := ⟨k - 1, by omega⟩
  have hL : spec_PlanOk.l0 k 0 st gap l = some (slotsOk l) := by
    unfold slotsOk
    have := all_loop0 (n := l.length) (L := fun k i => spec_PlanOk.l0 k i st gap l) (Q := fun i => match l[i]? with | some x => slotOk x | none => true) (e := true) (fun k i hi => ?_) (fun k => ?_) k (by omega)
    · simpa using this
    · simp only [spec_PlanOk.l0, l4Node, l1In, Option.bind_some]
      rw [if_pos (by omega), if_pos (by omega), wrap_succ hi (by omega), rdSl l i hi, List.getElem?_eq_getElem hi]
      simp only [slotOk]
      by_cases h1 : (0 ≤ l[i].f0 ∧ l[i].f0 ≤ 7) <;> by_cases h2 : (1 ≤ l[i].f1 ∧ l[i].f1 ≤ 1000000) <;> simp [h1, h2]
    · simp only [spec_PlanOk.l0]
      rw [if_neg (by omega)]
  unfold spec_PlanOk.f planOk; simp only [l2Time, l1In, Option.bind_some, spec_PlanOk.j0, hL]
  cases decide (0 ≤ st ∧ st ≤ 1000000000000) <;> cases decide (0 ≤ gap ∧ gap ≤ 100000) <;> cases decide ((1 : Int) ≤ l.length ∧ (l.length : Int) ≤ 12) <;> simp
end Go.Proofs.Ytpjahhljpoeaeaa.C
namespace Go.Proofs.Ytpjahhljpoeaeaa.C
open Go.RowKit Go.Proofs.Ytpjahhljpoeaeaa.P Go.Proofs.Ytpjahhljpoeaeaa.G Go.Proofs.YtpjahhljpoeaeaaW.PrintWords
theorem rdI (l : List Int) (i : Nat) (h : i < l.length) : rd l (i : Int) = l[i] := by
  unfold rd; simp [List.getD, h]
theorem markIntS (l : List Int) (hl : l.length ≤ 2000000) (a : Int) (ha : 0 ≤ a ∧ a ≤ 1000000000) (k : Nat) (hk : l.length < k) : laws_markIntS.f k l a = some (a + l.length, (List.range l.length).map fun (i : Nat) => a + i) := by
  unfold laws_markIntS.f
  have := mark_loop0 (l := l) (f := fun i => a + i) (w := fun i => a + i) (c := 0) (L := fun k acc w i => laws_markIntS.l0 k acc w i) (fin := fun acc => (a + l.length, acc)) (fun k i acc hi hacc _ => ?_) (fun k acc hacc => ?_) k (by omega)
  · simp only [Int.natCast_zero, Int.add_zero] at this; exact this
  · simp only [laws_markIntS.l0]
    rw [if_pos (by omega), if_pos (by omega), wrap_succ hi (by omega), wrap_id (by omega) (by omega), Int.toNat_natCast]
    congr 1; omega
  · simp only [laws_markIntS.l0]
    rw [if_neg (by omega)]
theorem heldIntS (n : Nat) (hn : n ≤ 2000000) (a : Int) (ha : 0 ≤ a ∧ a ≤ 1000000000) (k : Nat) (hk : n < k) : laws_heldIntS.f k ((List.range n).map fun (i : Nat) => a + i) a = some (a + n) := by
  unfold laws_heldIntS.f
  have hlen : ((List.range n).map fun (i : Nat) => a + (i : Int)).length = n := by simp
  have := track_loop0 (n := n) (c := 0) (L := fun k s i => laws_heldIntS.l0 k ((List.range n).map fun (i : Nat) => a + i) s i) (F := fun i => a + (i : Int)) (r := a + n) (fun k i hi _ => ?_) (fun k _ => ?_) k (by omega)
  · simp only [Int.natCast_zero, Int.add_zero] at this; exact this
  · simp only [laws_heldIntS.l0]
    rw [if_pos (by omega), if_pos (by omega), rdI _ i (by omega), wrap_succ hi (by omega), wrap_id (by omega) (by omega), if_pos (by simp)]
    congr 1; omega
  · simp only [laws_heldIntS.l0]
    rw [if_neg (by omega)]
theorem eqIntS (l : List Int) (hl : l.length ≤ 2000000) (k : Nat) (hk : l.length < k) : laws_eqIntS.f k l l = some true := by
  unfold laws_eqIntS.f
  rw [if_pos rfl]
  refine all_loopT (n := l.length) (L := fun k i => laws_eqIntS.l0 k l l i) (fun k i hi => ?_) (fun k => ?_) k hk
  · simp only [laws_eqIntS.l0]
    rw [if_pos (by omega), if_pos (by omega), if_pos (by omega), wrap_succ hi (by omega), if_pos (by trivial)]
  · simp only [laws_eqIntS.l0]
    rw [if_neg (by omega)]
end Go.Proofs.Ytpjahhljpoeaeaa.C
namespace Go.Proofs.Ytpjahhljpoeaeaa.C
open Go.RowKit Go.Proofs.Ytpjahhljpoeaeaa.P Go.Proofs.Ytpjahhljpoeaeaa.G
abbrev H := S81
abbrev HL := S83
def toH (x : HL) : H := ⟨x.f0, x.f1⟩
theorem rdH (l : List H) (i : Nat) (h : i < l.length) : rd_T81 l (i : Int) = l[i] := by
  unfold rd_T81; simp [List.getD, h]
theorem rdHL (l : List HL) (i : Nat) (h : i < l.length) : rd_T83 l (i : Int) = l[i] := by
  unfold rd_T83; simp [List.getD, h]
theorem toHeardS (l : List HL) (hl : l.length ≤ 1048576) (k : Nat) (hk : l.length < k) : laws_toHeardS.f k l = some (l.map toH) := by
  unfold laws_toHeardS.f
  rw [if_pos (by omega), if_pos (by simp; omega)]
  simp only [Int.toNat_natCast]
  refine to_loop0 (L := fun k acc i => laws_toHeardS.l0 k l acc i) (fun k acc i hi ha => ?_) (fun k acc ha => ?_) k hk
  · simp only [laws_toHeardS.l0, laws_toHeard.f, Option.bind_some]
    rw [if_pos (by omega), if_pos (by omega), if_pos (by omega), wrap_succ hi (by omega), rdHL l i hi]
    rfl
  · simp only [laws_toHeardS.l0]
    rw [if_neg (by omega)]
theorem eqHeardS (l : List H) (hl : l.length ≤ 1048576) (k : Nat) (hk : l.length < k) : laws_eqHeardS.f k l l = some true := by
  unfold laws_eqHeardS.f
  rw [if_pos rfl]
  refine all_loopT (n := l.length) (L := fun k i => laws_eqHeardS.l0 k l l i) (fun k i hi => ?_) (fun k => ?_) k hk
  · simp only [laws_eqHeardS.l0, laws_eqHeard.f]
    rw [if_pos (by omega), if_pos (by omega), if_pos (by omega), wrap_succ hi (by omega)]
    simp
  · simp only [laws_eqHeardS.l0]
    rw [if_neg (by omega)]
def hq (l : List H) (i : Nat) : Bool := match l[i]? with
  | none => true
  | some x => decide (0 ≤ x.f0 ∧ x.f0 ≤ 15) && decide (0 ≤ x.f1 ∧ x.f1 ≤ 1000000000000) && (match l[i - 1]? with | none => true | some y => decide (i = 0) || decide (y.f0 < x.f0))
theorem hq_eq (l : List H) (i : Nat) (h : i < l.length) : hq l i = (decide (0 ≤ l[i].f0 ∧ l[i].f0 ≤ 15) && decide (0 ≤ l[i].f1 ∧ l[i].f1 ≤ 1000000000000) && (decide (i = 0) || decide ((l[i-1]'(by omega)).f0 < l[i].f0))) := by
  unfold hq; rw [List.getElem?_eq_getElem h, List.getElem?_eq_getElem (by omega : i - 1 < l.length)]
def heardOk (l : List H) : Bool := (List.range l.length).all (hq l)
theorem heard_pos {l : List H} (h : ∀ i, i < l.length → hq l i = true) : ∀ i (hi : i < l.length), (i : Int) ≤ l[i].f0 := by
  intro i
  induction i with
  | zero => intro hi; have := h 0 hi; rw [hq_eq l 0 hi] at this; simp at this; omega
  | succ i ih =>
    intro hi
    have h1 := ih (by omega)
    have := h (i + 1) hi; rw [hq_eq l (i + 1) hi] at this; simp at this
    omega
theorem heard_len {l : List H} (h : heardOk l = true) : l.length ≤ 16 := by
  unfold heardOk at h; rw [all_iff] at h
  rcases Nat.lt_or_ge 16 l.length with hl | hl
  · have h1 := heard_pos h 16 hl
    have := h 16 hl; rw [hq_eq l 16 hl] at this; simp at this
    omega
  · exact hl
theorem iHeardOk (l : List H) (hl : l.length ≤ 1048576) (k : Nat) (hk : l.length < k) : impl_HeardOk.f k l = some (heardOk l) := by
  unfold impl_HeardOk.f heardOk
  have := all_loop0 (n := l.length) (L := fun k i => impl_HeardOk.l0 k l l (l.length : Int) i) (Q := hq l) (e := true) (fun k i hi => ?_) (fun k => ?_) k hk
  · simpa using this
  · simp only [impl_HeardOk.l0, in_, isTime, Option.bind_some]
    rw [if_pos (by omega), if_pos (by omega), if_pos (by omega), wrap_succ hi (by omega), rdH l i hi, hq_eq l i hi]
    cases decide (0 ≤ l[i].f0 ∧ l[i].f0 ≤ 15) <;> cases decide (0 ≤ l[i].f1 ∧ l[i].f1 ≤ 1000000000000) <;> simp only [Bool.true_and, Bool.false_and, if_true, if_false, Bool.false_eq_true]
    rcases Nat.eq_zero_or_pos i with h0 | h0
    · subst h0; simp
    · have hp : (0 : Int) < (i : Int) := by omega
      rw [if_pos (by omega), wrap_pred h0 hi (by omega), if_pos (by omega), if_pos (by omega), rdH l (i - 1) (by omega)]
      by_cases h3 : (l[i - 1]'(by omega)).f0 ≥ l[i].f0
      · rw [if_pos h3, if_neg (by simp; omega)]
      · rw [if_neg h3, if_pos (by simp; omega)]
  · simp only [impl_HeardOk.l0]
    rw [if_neg (by omega)]
theorem sHeardOk (l : List H) (hl : l.length ≤ 1048576) (k : Nat) (hk : l.length < k) : spec_HeardOk.f k l = some (heardOk l) := by
  unfold spec_HeardOk.f
  by_cases h16 : (l.length : Int) > 16
  · rw [if_pos h16]
    cases h : heardOk l with
    | false => rfl
    | true => have := heard_len h; omega
  rw [if_neg h16]
  unfold heardOk
  have := all_loop0 (n := l.length) (L := fun k i => spec_HeardOk.l0 k l i) (Q := hq l) (e := true) (fun k i hi => ?_) (fun k => ?_) k hk
  · simpa using this
  · simp only [spec_HeardOk.l0, l1In, l2Time, Option.bind_some]
    rw [if_pos (by omega), if_pos (by omega), wrap_succ hi (by omega), rdH l i hi, hq_eq l i hi]
    cases decide (0 ≤ l[i].f0 ∧ l[i].f0 ≤ 15) <;> cases decide (0 ≤ l[i].f1 ∧ l[i].f1 ≤ 1000000000000) <;> simp only [Bool.true_and, Bool.false_and, if_true, if_false, Bool.false_eq_true]
    rcases Nat.eq_zero_or_pos i with h0 | h0
    · subst h0; simp
    · have hp : (0 : Int) < (i : Int) := by omega
      rw [if_pos (by omega), wrap_pred h0 hi (by omega), if_pos (by omega), if_pos (by omega), rdH l (i - 1) (by omega)]
      by_cases h3 : (l[i - 1]'(by omega)).f0 ≥ l[i].f0
      · rw [if_pos h3, if_neg (by simp; omega)]
      · rw [if_neg h3, if_pos (by simp; omega)]
  · simp only [spec_HeardOk.l0]
    rw [if_neg (by omega)]
theorem szHeardS (l : List HL) (hl : l.length ≤ 9223372036854775807) (a : Int) (ha : 0 ≤ a ∧ a ≤ 1048576) :
    (laws_szHeardS.f l a = some (-1)) ∨ (laws_szHeardS.f l a = some (a - l.length) ∧ (l.length : Int) ≤ a) := by
  unfold laws_szHeardS.f
  have hw : wrap64 (a - (l.length : Int)) = a - l.length := wrap_id (by omega) (by omega)
  rw [hw]
  by_cases h : a - (l.length : Int) < 0
  · left; rw [if_pos h]
  · right; rw [if_neg h]; exact ⟨rfl, by omega⟩
end Go.Proofs.Ytpjahhljpoeaeaa.C
namespace Go.Proofs.Ytpjahhljpoeaeaa.P
open Go.RowKit Go.Proofs.YtpjahhljpoeaeaaW.PrintWords Go.Proofs.YtpjahhljpoeaeaaW.PrintLast Go.Proofs.YtpjahhljpoeaeaaW.PrintMore
attribute [local go_sem] max2_int min2_int max_two min_two max_three min_three max_four min_four
set_option linter.unusedVariables false
set_option linter.unusedSimpArgs false
end Go.Proofs.Ytpjahhljpoeaeaa.P

