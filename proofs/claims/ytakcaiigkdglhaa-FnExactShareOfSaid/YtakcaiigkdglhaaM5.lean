/- Texts of the seat's proofs, part 5: functions of the program told as plain functions, with their contracts, and what is shown of them. No condition. -/
import Derived.Test.YtakcaiigkdglhaaU
import Derived.Test.YtakcaiigkdglhaaM1
import Derived.Test.YtakcaiigkdglhaaM3
import Derived.Test.YtakcaiigkdglhaaM4
import Derived.Test.YtakcaiigkdglhaaM2
set_option linter.unusedVariables false
set_option linter.unusedSimpArgs false
namespace Go.Proofs.Ytakcaiigkdglhaa.P
open Go.RowKit Go.Proofs.YtakcaiigkdglhaaW.PrintWords Go.Proofs.YtakcaiigkdglhaaW.PrintLast Go.Proofs.YtakcaiigkdglhaaW.PrintMore
attribute [local go_sem] max2_int min2_int max_two min_two max_three min_three max_four min_four
set_option linter.unusedVariables false
set_option linter.unusedSimpArgs false
def laws_FnExactSlotAt.j0 : Nat → Bool → Int → Int → List (S88) → Int → Int → List (S60) → Option (Bool)
  | 0, _, _, _, _, _, _, _ => none
  | k + 1, x47, x404000, x404001, x404002, x419000, x419001, x419002 => if x47 = true then (some false) else ((laws_toPlan.f k x404000 x404001 x404002).bind fun bt422 => ((laws_eqPlan.f k x419000 x419001 x419002 bt422.1 bt422.2.1 bt422.2.2).bind fun t427 => (if t427 = true then (some true) else (some false))))
def laws_FnExactSlotAt.f (k : Nat) (a0_0 : Int) (a0_1 : Int) (l0_2 : List (S88)) (a1 : Int) : Option (Bool) := (laws_szPlan.f a0_0 a0_1 l0_2 1048576).bind fun t404 => (if t404 < 0 then (some true) else ((laws_toPlan.f k a0_0 a0_1 l0_2).bind fun bt405 => ((spec_SlotAt.f k bt405.1 bt405.2.1 bt405.2.2 a1).bind fun bt410 => ((laws_toPlan.f k a0_0 a0_1 l0_2).bind fun bt413 => ((impl_SlotAt.f k bt413.1 bt413.2.1 bt413.2.2 a1).bind fun bt419 => (if bt419.1 = bt410.1 then (if bt419.2.1 = bt410.2.1 then (laws_FnExactSlotAt.j0 k (bt419.2.2 != bt410.2.2) a0_0 a0_1 l0_2 bt413.1 bt413.2.1 bt413.2.2) else (laws_FnExactSlotAt.j0 k true a0_0 a0_1 l0_2 bt413.1 bt413.2.1 bt413.2.2)) else (laws_FnExactSlotAt.j0 k true a0_0 a0_1 l0_2 bt413.1 bt413.2.1 bt413.2.2)))))))
theorem laws_FnExactSlotAt.mono_l : ∀ k, (∀ y0 y1 y2 y3 y4 y5 y6, LeO (laws_FnExactSlotAt.j0 k y0 y1 y2 y3 y4 y5 y6) (laws_FnExactSlotAt.j0 (k + 1) y0 y1 y2 y3 y4 y5 y6))
  | 0 => fun _ _ _ _ _ _ _ r h => by simp [laws_FnExactSlotAt.j0] at h
  | k + 1 => by
    have ih0 := laws_FnExactSlotAt.mono_l k
    · intro y0 y1 y2 y3 y4 y5 y6
      unfold laws_FnExactSlotAt.j0
      repeat' first
      | (with_reducible exact ih0 _ _ _ _ _ _ _)
      | (with_reducible exact impl_SlotAt.mono _ _ _ _ _)
      | (with_reducible exact laws_eqPlan.mono _ _ _ _ _ _ _)
      | (with_reducible exact laws_toPlan.mono _ _ _ _)
      | (with_reducible exact spec_SlotAt.mono _ _ _ _ _)
      | (with_reducible exact LeO.refl _)
      | (with_reducible exact LeO.none _)
      | (with_reducible refine LeO.ite ?_ ?_)
      | (with_reducible refine LeO.bind ?_ (fun _ => ?_))
      | exact ih0 _ _ _ _ _ _ _
      | exact impl_SlotAt.mono _ _ _ _ _
      | exact laws_eqPlan.mono _ _ _ _ _ _ _
      | exact laws_toPlan.mono _ _ _ _
      | exact spec_SlotAt.mono _ _ _ _ _
      | exact LeO.none _
      | refine LeO.ite ?_ ?_
      | refine LeO.bind ?_ (fun _ => ?_)
theorem laws_FnExactSlotAt.mono : ∀ a0 a1 a2 a3 k, LeO (laws_FnExactSlotAt.f k a0 a1 a2 a3) (laws_FnExactSlotAt.f (k + 1) a0 a1 a2 a3) := by
  intro a0 a1 a2 a3 k
  have ih0 := laws_FnExactSlotAt.mono_l k
  unfold laws_FnExactSlotAt.f
  repeat' first
      | (with_reducible exact ih0 _ _ _ _ _ _ _)
      | (with_reducible exact impl_SlotAt.mono _ _ _ _ _)
      | (with_reducible exact laws_eqPlan.mono _ _ _ _ _ _ _)
      | (with_reducible exact laws_toPlan.mono _ _ _ _)
      | (with_reducible exact spec_SlotAt.mono _ _ _ _ _)
      | (with_reducible exact LeO.refl _)
      | (with_reducible exact LeO.none _)
      | (with_reducible refine LeO.ite ?_ ?_)
      | (with_reducible refine LeO.bind ?_ (fun _ => ?_))
      | exact ih0 _ _ _ _ _ _ _
      | exact impl_SlotAt.mono _ _ _ _ _
      | exact laws_eqPlan.mono _ _ _ _ _ _ _
      | exact laws_toPlan.mono _ _ _ _
      | exact spec_SlotAt.mono _ _ _ _ _
      | exact LeO.none _
      | refine LeO.ite ?_ ?_
      | refine LeO.bind ?_ (fun _ => ?_)
set_option maxHeartbeats 8000000 in
set_option maxRecDepth 100000 in
theorem laws_FnExactSlotAt.calls (k : Nat) (a0_0 : Int) (a0_1 : Int) (A0_2 : Option Addr) (c0_2 : Nat) (l0_2 : List (S88)) (a1 : Int) (r : Bool) (w : World) (hr0_2 : Kd.C k88 w A0_2 l0_2.length l0_2) (hc0_2 : l0_2.length ≤ c0_2) (hr_ : r = true) (h : laws_FnExactSlotAt.f k a0_0 a0_1 l0_2 a1 = some r) :
    Calls Try.prog 7 #[.agg #[.int .i64 a0_0, .int .i64 a0_1, .slice A0_2 l0_2.length c0_2], .int .i64 a1] w fun e w' => e = .returned (.bool r) ∧ Below w.heap.size w w' := by
  have hu24 := Try.underlying24
  have hu29 := Try.underlying29
  have HR0_2 := Aside0.mk hr0_2
  have HC0_2 := Aside0.mk hc0_2
  clear hr0_2 hc0_2
  have HB := Aside0.mk (Below.refl w.heap.size w)
  have H : ((laws_szPlan.f a0_0 a0_1 l0_2 1048576).bind fun t404 => (if t404 < 0 then (some true) else ((laws_toPlan.f k a0_0 a0_1 l0_2).bind fun bt405 => ((spec_SlotAt.f k bt405.1 bt405.2.1 bt405.2.2 a1).bind fun bt410 => ((laws_toPlan.f k a0_0 a0_1 l0_2).bind fun bt413 => ((impl_SlotAt.f k bt413.1 bt413.2.1 bt413.2.2 a1).bind fun bt419 => (if bt419.1 = bt410.1 then (if bt419.2.1 = bt410.2.1 then (laws_FnExactSlotAt.j0 k (bt419.2.2 != bt410.2.2) a0_0 a0_1 l0_2 bt413.1 bt413.2.1 bt413.2.2) else (laws_FnExactSlotAt.j0 k true a0_0 a0_1 l0_2 bt413.1 bt413.2.1 bt413.2.2)) else (laws_FnExactSlotAt.j0 k true a0_0 a0_1 l0_2 bt413.1 bt413.2.1 bt413.2.2)))))))) = some r := h
  clear h
  replace H := Option.bind_eq_some_iff.mp H
  obtain ⟨t404, A30, H⟩ := H
  replace H : (if t404 < 0 then (some true) else ((laws_toPlan.f k a0_0 a0_1 l0_2).bind fun bt405 => ((spec_SlotAt.f k bt405.1 bt405.2.1 bt405.2.2 a1).bind fun bt410 => ((laws_toPlan.f k a0_0 a0_1 l0_2).bind fun bt413 => ((impl_SlotAt.f k bt413.1 bt413.2.1 bt413.2.2 a1).bind fun bt419 => (if bt419.1 = bt410.1 then (if bt419.2.1 = bt410.2.1 then (laws_FnExactSlotAt.j0 k (bt419.2.2 != bt410.2.2) a0_0 a0_1 l0_2 bt413.1 bt413.2.1 bt413.2.2) else (laws_FnExactSlotAt.j0 k true a0_0 a0_1 l0_2 bt413.1 bt413.2.1 bt413.2.2)) else (laws_FnExactSlotAt.j0 k true a0_0 a0_1 l0_2 bt413.1 bt413.2.1 bt413.2.2))))))) = some r := H
  have A3 := Aside0.mk A30
  clear A30
  by_cases c4 : t404 < 0
  · rw [if_pos c4] at H
    have c4b0 : decide (t404 < 0) = true := decide_eq_true c4
    clear c4
    obtain rfl := Option.some.inj H
    go_enter Try.func7, Try.ntmps7
    go_wp2_with (first | ((with_reducible refine gate_dst (N := 2) rfl ?_); refine box_event ?hg (N := 2) ?hd (cs := #[.int .i64 a0_0, .int .i64 a0_1, .slice A0_2 l0_2.length c0_2]) (t := 24) ?hr ?_; (case hd => rfl); (case hg => rfl); (case hr => first | (go_simp; done) | (go_simp; rfl)); intro gb403 hg w5 hbox hb; have n0_ := Aside0.mk (below_step (hb_ HB.out) hb); have n1_ := Aside0.mk (hbox); have n2_ := Aside0.mk ((by rw [hg]; exact (below_size (hb_ HB.out)) : w.heap.size ≤ gb403)); have n3_ := Aside0.mk ((by rw [hg]; exact (below_size (hb_ HB.out)) : w.heap.size ≤ gb403)); clear HB; have HB := n0_; have BK403 := n1_; have GW403 := n2_; have GE403 := n3_; clear n0_ n1_ n2_ n3_; clear hb hbox hg; have hcz6_0 := bc_ BK403.out 0 (.int .i64 a0_0) rfl; have hcz6_1 := bc_ BK403.out 1 (.int .i64 a0_1) rfl; have hcz6_2 := bc_ BK403.out 2 (.slice A0_2 l0_2.length c0_2) rfl; have hfz6_0 := blk_frozen BK403.out 0; have hfz6_1 := blk_frozen BK403.out 1; have hfz6_2 := blk_frozen BK403.out 2) | ((with_reducible refine gate_callee (f := 13) rfl ?_); refine goesL_ (some 15) rfl rfl Try.func13 (by kernel_rfl) rfl #[.agg #[.int .i64 a0_0, .int .i64 a0_1, .slice A0_2 l0_2.length c0_2], .int .i64 1048576] rfl arr_ ?_; (with_reducible refine (laws_szPlan.calls a0_0 a0_1 _ _ l0_2 1048576 t404 _ ?side1 ?side2 A3.out).mono ?_); (case side1 => exact kc_ (Kd.C_below HR0_2.out HB.out)); (case side2 => exact HC0_2.out); rintro e w7 ⟨rfl, hb⟩; refine ⟨_, rfl, ?_⟩; have n0_ := Aside0.mk (bb_ BK403.out hb); have n1_ := Aside0.mk (below_step (hb1_ HB.out GE403.out) hb); clear BK403; clear HB; have BK403 := n0_; have HB := n1_; clear n0_ n1_; (try clear hb); (try clear hb2); (try clear hk); (try clear hi)))
    go_ret
    exact ⟨er_, hb1_ HB.out GE403.out⟩
  · rw [if_neg c4] at H
    have c4b0 : decide (t404 < 0) = false := decide_eq_false c4
    clear c4
    replace H := Option.bind_eq_some_iff.mp H
    obtain ⟨⟨t405, t406, t407⟩, A80, H⟩ := H
    replace H : ((spec_SlotAt.f k t405 t406 t407 a1).bind fun bt410 => ((laws_toPlan.f k a0_0 a0_1 l0_2).bind fun bt413 => ((impl_SlotAt.f k bt413.1 bt413.2.1 bt413.2.2 a1).bind fun bt419 => (if bt419.1 = bt410.1 then (if bt419.2.1 = bt410.2.1 then (laws_FnExactSlotAt.j0 k (bt419.2.2 != bt410.2.2) a0_0 a0_1 l0_2 bt413.1 bt413.2.1 bt413.2.2) else (laws_FnExactSlotAt.j0 k true a0_0 a0_1 l0_2 bt413.1 bt413.2.1 bt413.2.2)) else (laws_FnExactSlotAt.j0 k true a0_0 a0_1 l0_2 bt413.1 bt413.2.1 bt413.2.2))))) = some r := H
    have A8 := Aside0.mk A80
    clear A80
    replace H := Option.bind_eq_some_iff.mp H
    obtain ⟨⟨t410, t411, t412⟩, A90, H⟩ := H
    replace H : ((laws_toPlan.f k a0_0 a0_1 l0_2).bind fun bt413 => ((impl_SlotAt.f k bt413.1 bt413.2.1 bt413.2.2 a1).bind fun bt419 => (if bt419.1 = t410 then (if bt419.2.1 = t411 then (laws_FnExactSlotAt.j0 k (bt419.2.2 != t412) a0_0 a0_1 l0_2 bt413.1 bt413.2.1 bt413.2.2) else (laws_FnExactSlotAt.j0 k true a0_0 a0_1 l0_2 bt413.1 bt413.2.1 bt413.2.2)) else (laws_FnExactSlotAt.j0 k true a0_0 a0_1 l0_2 bt413.1 bt413.2.1 bt413.2.2)))) = some r := H
    have A9 := Aside0.mk A90
    clear A90
    replace H := Option.bind_eq_some_iff.mp H
    obtain ⟨⟨t413, t414, t415⟩, A100, H⟩ := H
    replace H : ((impl_SlotAt.f k t413 t414 t415 a1).bind fun bt419 => (if bt419.1 = t410 then (if bt419.2.1 = t411 then (laws_FnExactSlotAt.j0 k (bt419.2.2 != t412) a0_0 a0_1 l0_2 t413 t414 t415) else (laws_FnExactSlotAt.j0 k true a0_0 a0_1 l0_2 t413 t414 t415)) else (laws_FnExactSlotAt.j0 k true a0_0 a0_1 l0_2 t413 t414 t415))) = some r := H
    have A10 := Aside0.mk A100
    clear A100
    replace H := Option.bind_eq_some_iff.mp H
    obtain ⟨⟨t419, t420, t421⟩, A110, H⟩ := H
    replace H : (if t419 = t410 then (if t420 = t411 then (laws_FnExactSlotAt.j0 k (t421 != t412) a0_0 a0_1 l0_2 t413 t414 t415) else (laws_FnExactSlotAt.j0 k true a0_0 a0_1 l0_2 t413 t414 t415)) else (laws_FnExactSlotAt.j0 k true a0_0 a0_1 l0_2 t413 t414 t415)) = some r := H
    have A11 := Aside0.mk A110
    clear A110
    have HC12 := Aside0.mk H
    clear H
    go_enter Try.func7, Try.ntmps7
    go_upto_region 8 with (first | ((with_reducible refine gate_dst (N := 2) rfl ?_); refine box_event ?hg (N := 2) ?hd (cs := #[.int .i64 a0_0, .int .i64 a0_1, .slice A0_2 l0_2.length c0_2]) (t := 24) ?hr ?_; (case hd => rfl); (case hg => rfl); (case hr => first | (go_simp; done) | (go_simp; rfl)); intro gb403 hg w13 hbox hb; have n0_ := Aside0.mk (below_step (hb_ HB.out) hb); have n1_ := Aside0.mk (hbox); have n2_ := Aside0.mk ((by rw [hg]; exact (below_size (hb_ HB.out)) : w.heap.size ≤ gb403)); have n3_ := Aside0.mk ((by rw [hg]; exact (below_size (hb_ HB.out)) : w.heap.size ≤ gb403)); clear HB; have HB := n0_; have BK403 := n1_; have GW403 := n2_; have GE403 := n3_; clear n0_ n1_ n2_ n3_; clear hb hbox hg; have hcz14_0 := bc_ BK403.out 0 (.int .i64 a0_0) rfl; have hcz14_1 := bc_ BK403.out 1 (.int .i64 a0_1) rfl; have hcz14_2 := bc_ BK403.out 2 (.slice A0_2 l0_2.length c0_2) rfl; have hfz14_0 := blk_frozen BK403.out 0; have hfz14_1 := blk_frozen BK403.out 1; have hfz14_2 := blk_frozen BK403.out 2) | ((with_reducible refine gate_callee (f := 13) rfl ?_); refine goesL_ (some 15) rfl rfl Try.func13 (by kernel_rfl) rfl #[.agg #[.int .i64 a0_0, .int .i64 a0_1, .slice A0_2 l0_2.length c0_2], .int .i64 1048576] rfl arr_ ?_; (with_reducible refine (laws_szPlan.calls a0_0 a0_1 _ _ l0_2 1048576 t404 _ ?side1 ?side2 A3.out).mono ?_); (case side1 => exact kc_ (Kd.C_below HR0_2.out HB.out)); (case side2 => exact HC0_2.out); rintro e w15 ⟨rfl, hb⟩; refine ⟨_, rfl, ?_⟩; have n0_ := Aside0.mk (bb_ BK403.out hb); have n1_ := Aside0.mk (below_step (hb1_ HB.out GE403.out) hb); clear BK403; clear HB; have BK403 := n0_; have HB := n1_; clear n0_ n1_; (try clear hb); (try clear hb2); (try clear hk); (try clear hi); have hcz16_0 := bc_ BK403.out 0 (.int .i64 a0_0) rfl; have hcz16_1 := bc_ BK403.out 1 (.int .i64 a0_1) rfl; have hcz16_2 := bc_ BK403.out 2 (.slice A0_2 l0_2.length c0_2) rfl; have hfz16_0 := blk_frozen BK403.out 0; have hfz16_1 := blk_frozen BK403.out 1; have hfz16_2 := blk_frozen BK403.out 2) | ((with_reducible refine gate_callee (f := 15) rfl ?_); refine goesL_ (some 20) rfl rfl Try.func15 (by kernel_rfl) rfl #[.agg #[.int .i64 a0_0, .int .i64 a0_1, .slice A0_2 l0_2.length c0_2]] rfl arr_ ?_; (with_reducible refine (laws_toPlan.calls k a0_0 a0_1 _ _ l0_2 t405 t406 t407 _ ?side1 ?side2 A8.out).mono ?_); (case side1 => exact kc_ (Kd.C_below HR0_2.out HB.out)); (case side2 => exact HC0_2.out); rintro e w17 ⟨v408, rfl, ho0, hb⟩; refine ⟨_, rfl, ?_⟩; have n0_ := Aside0.mk (Kd.R_lower ho0 (below_size (hb1_ HB.out GE403.out))); have n1_ := Aside0.mk (bb_ BK403.out hb); have n2_ := Aside0.mk (below_step (hb1_ HB.out GE403.out) hb); clear BK403; clear HB; have HO409 := n0_; have BK403 := n1_; have HB := n2_; clear n0_ n1_ n2_; (try clear hb); (try clear hb2); (try clear hk); (try clear hi); (try clear ho0); obtain ⟨Ao18, co18, eo18⟩ := Kd.R_slice HO409.out; subst eo18) | ((with_reducible refine gate_callee (f := 27) rfl ?_); refine goesL_ (some 22) rfl rfl Try.func27 (by kernel_rfl) rfl #[.agg #[.int .i64 t405, .int .i64 t406, .slice Ao18 t407.length co18], .int .i64 a1] rfl arr_ ?_; (with_reducible refine (spec_SlotAt.calls k t405 t406 _ _ t407 a1 t410 t411 t412 _ ?side1 ?side2 A9.out).mono ?_); (case side1 => repeat (first | exact (Kd.R_reads' HO409.out).2.2 | (with_reducible refine Kd.C_alloc ?_ _) | (with_reducible refine Kd.C_drewN ?_ _) | (with_reducible refine Kd.C_drew ?_))); (case side2 => exact (Kd.R_reads' HO409.out).2.1); rintro e w19 ⟨rfl, hb⟩; refine ⟨_, rfl, ?_⟩; have n0_ := Aside0.mk (Kd.R_below (by (with_reducible repeat (first | apply Kd.R_alloc | apply Kd.R_drewN | apply Kd.R_drew)); exact HO409.out) hb); have n1_ := Aside0.mk (bb_ BK403.out hb); have n2_ := Aside0.mk (below_step (hb1_ HB.out GE403.out) hb); clear HO409; clear BK403; clear HB; have HO409 := n0_; have BK403 := n1_; have HB := n2_; clear n0_ n1_ n2_; (try clear hb); (try clear hb2); (try clear hk); (try clear hi); have hcz20_0 := bc_ BK403.out 0 (.int .i64 a0_0) rfl; have hcz20_1 := bc_ BK403.out 1 (.int .i64 a0_1) rfl; have hcz20_2 := bc_ BK403.out 2 (.slice A0_2 l0_2.length c0_2) rfl; have hfz20_0 := blk_frozen BK403.out 0; have hfz20_1 := blk_frozen BK403.out 1; have hfz20_2 := blk_frozen BK403.out 2) | ((with_reducible refine gate_callee (f := 15) rfl ?_); refine goesL_ (some 27) rfl rfl Try.func15 (by kernel_rfl) rfl #[.agg #[.int .i64 a0_0, .int .i64 a0_1, .slice A0_2 l0_2.length c0_2]] rfl arr_ ?_; (with_reducible refine (laws_toPlan.calls k a0_0 a0_1 _ _ l0_2 t413 t414 t415 _ ?side1 ?side2 A10.out).mono ?_); (case side1 => exact kc_ (Kd.C_below HR0_2.out HB.out)); (case side2 => exact HC0_2.out); rintro e w21 ⟨v416, rfl, ho0, hb⟩; refine ⟨_, rfl, ?_⟩; have n0_ := Aside0.mk (Kd.R_elder' (by (with_reducible repeat (first | apply Kd.R_alloc | apply Kd.R_drewN | apply Kd.R_drew)); exact HO409.out) (Kd.R_base ho0) hb); have n1_ := Aside0.mk (Kd.R_lower (Kd.R_new' ho0 (Kd.R_lt (by (with_reducible repeat (first | apply Kd.R_alloc | apply Kd.R_drewN | apply Kd.R_drew)); exact HO409.out))) (below_size (hb1_ HB.out GE403.out))); have n2_ := Aside0.mk (bb_ BK403.out hb); have n3_ := Aside0.mk (below_step (hb1_ HB.out GE403.out) hb); clear HO409; clear BK403; clear HB; have HO409 := n0_; have HO417 := n1_; have BK403 := n2_; have HB := n3_; clear n0_ n1_ n2_ n3_; (try clear hb); (try clear hb2); (try clear hk); (try clear hi); (try clear ho0)) | ((with_reducible refine gate_dst (N := 9) rfl ?_); refine box_event ?hg (N := 9) ?hd (cs := #[.int .i64 0, .int .i64 0, .slice none 0 0]) (t := 29) ?hr ?_; (case hd => rfl); (case hg => rfl); (case hr => first | (go_simp; done) | (go_simp; rfl)); intro gb418 hg w22 hbox hb; have n0_ := Aside0.mk (Kd.R_below (by (with_reducible repeat (first | apply Kd.R_alloc | apply Kd.R_drewN | apply Kd.R_drew)); exact HO409.out) hb); have n1_ := Aside0.mk (Kd.R_below (by (with_reducible repeat (first | apply Kd.R_alloc | apply Kd.R_drewN | apply Kd.R_drew)); exact HO417.out) hb); have n2_ := Aside0.mk (bb_ BK403.out hb); have n3_ := Aside0.mk (below_step (hb1_ HB.out GE403.out) hb); have n4_ := Aside0.mk (hbox); have n5_ := Aside0.mk ((by rw [hg]; exact (below_size (hb1_ HB.out GE403.out)) : w.heap.size ≤ gb418)); have n6_ := Aside0.mk ((by rw [hg]; exact (below_size (hb1_ HB.out GE403.out)) : w.heap.size ≤ gb418)); have n7_ := Aside0.mk ((bl_ hg BK403.out : gb403 ≠ gb418)); have n8_ := Aside0.mk ((bg_ hg BK403.out : gb418 ≠ gb403)); clear HO409; clear HO417; clear BK403; clear HB; have HO409 := n0_; have HO417 := n1_; have BK403 := n2_; have HB := n3_; have BK418 := n4_; have GW418 := n5_; have GE418 := n6_; have NB403_418 := n7_; have NB418_403 := n8_; clear n0_ n1_ n2_ n3_ n4_ n5_ n6_ n7_ n8_; clear hb hbox hg; have hnb23 := NB418_403.out; have hnc23 := NB403_418.out; have hcz24_0 := bc_ BK418.out 0 (.int .i64 0) rfl; have hcz24_1 := bc_ BK418.out 1 (.int .i64 0) rfl; have hcz24_2 := bc_ BK418.out 2 (.slice none 0 0) rfl; have hfz24_0 := blk_frozen BK418.out 0; have hfz24_1 := blk_frozen BK418.out 1; have hfz24_2 := blk_frozen BK418.out 2; obtain ⟨Ao25, co25, eo25⟩ := Kd.R_slice HO417.out; subst eo25) | ((with_reducible refine gate_callee (f := 28) rfl ?_); refine goesL_ (some 31) rfl rfl Try.func28 (by kernel_rfl) rfl #[.agg #[.int .i64 t413, .int .i64 t414, .slice Ao25 t415.length co25], .int .i64 a1] rfl arr_ ?_; (with_reducible refine (impl_SlotAt.calls k t413 t414 _ _ t415 a1 t419 t420 t421 _ ?side1 ?side2 A11.out).mono ?_); (case side1 => refine (Kd.R_reads' (e := 60) (base := w.heap.size) (ok := fun k_ => (True ∧ some k_ ≠ (.slice Ao18 t407.length co18 : Value).ownBlock)) (n := t415.length) (c := co25) ?_).2.2; exact (by (with_reducible repeat (first | apply Kd.R_alloc | apply Kd.R_drewN | apply Kd.R_drew)); exact (Kd.R_mono (Kd.R_far (p := ⟨gb418, 2, none⟩) (Kd.R_far (p := ⟨gb418, 1, none⟩) (Kd.R_far (p := ⟨gb418, 0, none⟩) (Kd.R_types HO417.out BK418.out (by decide)) (fun _ hk => hk.2) (.int .i64 t413)) (fun _ hk => hk.2) (.int .i64 t414)) (fun _ hk => hk.2) (.slice Ao25 t415.length co25)) (fun _ h_ => h_.1)))); (case side2 => exact (Kd.R_reads' HO417.out).2.1); rintro e w26 ⟨rfl, hb⟩; refine ⟨_, rfl, ?_⟩; have n0_ := Aside0.mk (Kd.R_below (by (with_reducible repeat (first | apply Kd.R_alloc | apply Kd.R_drewN | apply Kd.R_drew)); exact (Kd.R_mono (Kd.R_far (p := ⟨gb418, 2, none⟩) (Kd.R_far (p := ⟨gb418, 1, none⟩) (Kd.R_far (p := ⟨gb418, 0, none⟩) (Kd.R_types HO409.out BK418.out (by decide)) (fun _ hk => hk.2) (.int .i64 t413)) (fun _ hk => hk.2) (.int .i64 t414)) (fun _ hk => hk.2) (.slice Ao25 t415.length co25)) (fun _ h_ => h_.1))) hb); have n1_ := Aside0.mk (Kd.R_below (by (with_reducible repeat (first | apply Kd.R_alloc | apply Kd.R_drewN | apply Kd.R_drew)); exact (Kd.R_mono (Kd.R_far (p := ⟨gb418, 2, none⟩) (Kd.R_far (p := ⟨gb418, 1, none⟩) (Kd.R_far (p := ⟨gb418, 0, none⟩) (Kd.R_types HO417.out BK418.out (by decide)) (fun _ hk => hk.2) (.int .i64 t413)) (fun _ hk => hk.2) (.int .i64 t414)) (fun _ hk => hk.2) (.slice Ao25 t415.length co25)) (fun _ h_ => h_.1))) hb); have n2_ := Aside0.mk (blk_below (g := gb403) (o := .cells #[.int .i64 a0_0, .int .i64 a0_1, .slice A0_2 l0_2.length c0_2] 24 (0, 0)) (by (with_reducible repeat (first | refine blk_drewN ?_ _ | refine blk_drew ?_ | refine blk_alloc ?_ _)); refine blk_far ?_ NB403_418.out _; (with_reducible repeat (first | refine blk_drewN ?_ _ | refine blk_drew ?_ | refine blk_alloc ?_ _)); refine blk_far ?_ NB403_418.out _; (with_reducible repeat (first | refine blk_drewN ?_ _ | refine blk_drew ?_ | refine blk_alloc ?_ _)); refine blk_far ?_ NB403_418.out _; (with_reducible repeat (first | refine blk_drewN ?_ _ | refine blk_drew ?_ | refine blk_alloc ?_ _)); exact BK403.out) hb); have n3_ := Aside0.mk (blk_below (g := gb418) (o := .cells #[.int .i64 t413, .int .i64 t414, .slice Ao25 t415.length co25] 29 (0, 0)) (by (with_reducible repeat (first | refine blk_drewN ?_ _ | refine blk_drew ?_ | refine blk_alloc ?_ _)); refine blk_put (cs := #[.int .i64 t413, .int .i64 t414, .slice none 0 0]) ?_ 2 _ rfl; (with_reducible repeat (first | refine blk_drewN ?_ _ | refine blk_drew ?_ | refine blk_alloc ?_ _)); refine blk_put (cs := #[.int .i64 t413, .int .i64 0, .slice none 0 0]) ?_ 1 _ rfl; (with_reducible repeat (first | refine blk_drewN ?_ _ | refine blk_drew ?_ | refine blk_alloc ?_ _)); refine blk_put (cs := #[.int .i64 0, .int .i64 0, .slice none 0 0]) ?_ 0 _ rfl; (with_reducible repeat (first | refine blk_drewN ?_ _ | refine blk_drew ?_ | refine blk_alloc ?_ _)); exact BK418.out) hb); have n4_ := Aside0.mk (below_step (hb2_ HB.out GE403.out GE418.out) hb); clear HO409; clear HO417; clear BK403; clear BK418; clear HB; have HO409 := n0_; have HO417 := n1_; have BK403 := n2_; have BK418 := n3_; have HB := n4_; clear n0_ n1_ n2_ n3_ n4_; (try clear hb); (try clear hb2); (try clear hk); (try clear hi)))
    (try simp only [Act.put, List.setIfInBounds_toArray, List.set_cons_zero, List.set_cons_succ])
    go_cut [47] (fun v47 wc => ∃ (kq : Nat) (x47_11 : Bool), v47 = .bool x47_11 ∧ Aside0 (laws_FnExactSlotAt.j0 kq x47_11 a0_0 a0_1 l0_2 t413 t414 t415 = some r) ∧ Aside0 (kq ≤ k) ∧ Aside0 (Kd.R k60 60 wc w.heap.size (fun _ => True) (.slice Ao25 t415.length co25) t415) ∧ Aside0 (wc.heap[gb403]? = some (.cells #[.int .i64 a0_0, .int .i64 a0_1, (.slice A0_2 l0_2.length c0_2)] 24 (0, 0))) ∧ Aside0 (wc.heap[gb418]? = some (.cells #[.int .i64 t413, .int .i64 t414, (.slice Ao25 t415.length co25)] 29 (0, 0))) ∧ Aside0 (Below w.heap.size w wc))
    case first =>
      have H := HC12.out
      clear HC12
      by_cases c27 : t419 = t410
      · rw [if_pos c27] at H
        have c27b0 : (t419 == t410) = true := beq_iff_eq.mpr c27
        have c27b1 : (t419 != t410) = false := bne_eq_false_iff_eq.mpr c27
        clear c27
        (first | rw [c27b0] | (simp only [i64_w, i32_w]; rw [c27b0]) | skip)
        by_cases c28 : t420 = t411
        · rw [if_pos c28] at H
          have c28b0 : (t420 == t411) = true := beq_iff_eq.mpr c28
          have c28b1 : (t420 != t411) = false := bne_eq_false_iff_eq.mpr c28
          clear c28
          have H' := Aside0.mk H
          clear H
          go_wp2
          go_meet
          case rel => exact ⟨_, ((t421 != t412)), (by first | rfl | (simp; done) | (simp [*]; done)), H', ⟨by first | omega | exact Nat.le_refl _⟩, ⟨by (with_reducible repeat (first | apply Kd.R_alloc | apply Kd.R_drewN | apply Kd.R_drew)); exact Kd.R_mono HO417.out (fun _ hk => trivial)⟩, ⟨bk_ BK403.out⟩, ⟨bk_ BK418.out⟩, ⟨hb2_ HB.out GE403.out GE418.out⟩⟩
        · rw [if_neg c28] at H
          have c28b0 : (t420 == t411) = false := beq_eq_false_iff_ne.mpr c28
          have c28b1 : (t420 != t411) = true := bne_iff_ne.mpr c28
          have H' := Aside0.mk H
          clear H
          go_wp2
          go_meet
          case rel => exact ⟨_, (true), (by first | rfl | (simp; done) | (simp [*]; done)), H', ⟨by first | omega | exact Nat.le_refl _⟩, ⟨by (with_reducible repeat (first | apply Kd.R_alloc | apply Kd.R_drewN | apply Kd.R_drew)); exact Kd.R_mono HO417.out (fun _ hk => trivial)⟩, ⟨bk_ BK403.out⟩, ⟨bk_ BK418.out⟩, ⟨hb2_ HB.out GE403.out GE418.out⟩⟩
      · rw [if_neg c27] at H
        have c27b0 : (t419 == t410) = false := beq_eq_false_iff_ne.mpr c27
        have c27b1 : (t419 != t410) = true := bne_iff_ne.mpr c27
        (first | rw [c27b0] | (simp only [i64_w, i32_w]; rw [c27b0]) | skip)
        have H' := Aside0.mk H
        clear H
        go_wp2
        go_meet
        case rel => exact ⟨_, (true), (by first | rfl | (simp; done) | (simp [*]; done)), H', ⟨by first | omega | exact Nat.le_refl _⟩, ⟨by (with_reducible repeat (first | apply Kd.R_alloc | apply Kd.R_drewN | apply Kd.R_drew)); exact Kd.R_mono HO417.out (fun _ hk => trivial)⟩, ⟨bk_ BK403.out⟩, ⟨bk_ BK418.out⟩, ⟨hb2_ HB.out GE403.out GE418.out⟩⟩
    case rest =>
      clear HC12
      try clear c1
      try clear c2
      try clear p2
      try clear c4
      try clear c4b0
      try clear c7
      try clear c13
      try clear c15
      try clear c23
      try clear c27
      try clear c27b0
      try clear c27b1
      try clear c28
      try clear c28b0
      try clear c28b1
      try clear hcz14_0
      try clear hcz14_1
      try clear hcz14_2
      try clear hcz16_0
      try clear hcz16_1
      try clear hcz16_2
      try clear hcz20_0
      try clear hcz20_1
      try clear hcz20_2
      try clear hcz24_0
      try clear hcz24_1
      try clear hcz24_2
      try clear hcz6_0
      try clear hcz6_1
      try clear hcz6_2
      try clear hfz14_0
      try clear hfz14_1
      try clear hfz14_2
      try clear hfz16_0
      try clear hfz16_1
      try clear hfz16_2
      try clear hfz20_0
      try clear hfz20_1
      try clear hfz20_2
      try clear hfz24_0
      try clear hfz24_1
      try clear hfz24_2
      try clear hfz6_0
      try clear hfz6_1
      try clear hfz6_2
      obtain ⟨kq, x47_11, rfl, HA, HJ11, HO_419002, BK403, BK418, HB⟩ := hcut
      cases kq with
      | zero => exact absurd HA.out (by simp [laws_FnExactSlotAt.j0])
      | succ kj11 =>
        have H := HA.out
        clear HA
        simp only [laws_FnExactSlotAt.j0] at H
        by_cases c29 : x47_11 = true
        · subst c29
          have H1 : (some false) = some r := by rw [if_pos rfl] at H; exact H
          clear H
          have H := H1
          clear H1
          obtain rfl := Option.some.inj H
          exact absurd hr_ (by decide)
        · replace c29 := Bool.eq_false_iff.mpr c29
          subst c29
          have H1 : ((laws_toPlan.f kj11 a0_0 a0_1 l0_2).bind fun bt422 => ((laws_eqPlan.f kj11 t413 t414 t415 bt422.1 bt422.2.1 bt422.2.2).bind fun t427 => (if t427 = true then (some true) else (some false)))) = some r := by rw [if_neg (show ¬ (false = true) by decide)] at H; exact H
          clear H
          have H := H1
          clear H1
          replace H := Option.bind_eq_some_iff.mp H
          obtain ⟨⟨t422, t423, t424⟩, A300, H⟩ := H
          replace H : ((laws_eqPlan.f kj11 t413 t414 t415 t422 t423 t424).bind fun t427 => (if t427 = true then (some true) else (some false))) = some r := H
          have A30 := Aside0.mk A300
          clear A300
          replace H := Option.bind_eq_some_iff.mp H
          obtain ⟨t427, A310, H⟩ := H
          replace H : (if t427 = true then (some true) else (some false)) = some r := H
          have A31 := Aside0.mk A310
          clear A310
          by_cases c32 : t427 = true
          · subst c32
            have H1 : (some true) = some r := by rw [if_pos rfl] at H; exact H
            clear H
            have H := H1
            clear H1
            obtain rfl := Option.some.inj H
            try go_wp2
            have n0_ := Aside0.mk (Kd.R_drew HO_419002.out)
            have n1_ := Aside0.mk (blk_drew BK403.out)
            have n2_ := Aside0.mk (blk_drew BK418.out)
            have n3_ := Aside0.mk (below_drew1 HB.out)
            clear HO_419002
            clear BK403
            clear BK418
            clear HB
            have HO_419002 := n0_
            have BK403 := n1_
            have BK418 := n2_
            have HB := n3_
            clear n0_ n1_ n2_ n3_
            refine start_ (n := 5) (S := fun w' => w'.cell? ⟨gb418, 0, none⟩ = some (.int .i64 t413) ∧ w'.cell? ⟨gb418, 1, none⟩ = some (.int .i64 t414) ∧ w'.cell? ⟨gb418, 2, none⟩ = some (.slice Ao25 t415.length co25) ∧ w'.cell? ⟨gb403, 0, none⟩ = some (.int .i64 a0_0) ∧ w'.cell? ⟨gb403, 1, none⟩ = some (.int .i64 a0_1) ∧ w'.cell? ⟨gb403, 2, none⟩ = some (.slice A0_2 l0_2.length c0_2)) (ds := []) #[false, false, false, false, false] (by kernel_rfl) rfl rfl ⟨(blk_cell BK418.out 0).trans rfl, (blk_cell BK418.out 1).trans rfl, (blk_cell BK418.out 2).trans rfl, (blk_cell BK403.out 0).trans rfl, (blk_cell BK403.out 1).trans rfl, (blk_cell BK403.out 2).trans rfl⟩ (fun hHeld => ?_)
            generalize wc.drew = w33 at HO_419002 BK403 BK418 HB hHeld ⊢
            refine take_ (i := 0) (N := some 48) (v := ?_) (a' := ?_) #[true, false, false, false, false] rfl rfl (by kernel_rfl) (fun _ _ _ h => h) (Or.inl ⟨by rfl, ?_⟩) hHeld ?_ ?_
            rotate_left
            · rintro w' ⟨s0, s1, s2, s3, s4, s5⟩
              go_simp
              with_reducible rfl
            rotate_left
            · simp only [Act.put, List.setIfInBounds_toArray, List.set_cons_zero, List.set_cons_succ, i64_w, i32_w]
              rfl
            refine take_ (i := 1) (N := some 49) (v := ?_) (a' := ?_) #[true, true, false, false, false] rfl rfl (by kernel_rfl) (fun _ _ _ h => h) (Or.inl ⟨by rfl, ?_⟩) hHeld ?_ ?_
            rotate_left
            · rintro w' ⟨s0, s1, s2, s3, s4, s5⟩
              go_simp
              with_reducible rfl
            rotate_left
            · simp only [Act.put, List.setIfInBounds_toArray, List.set_cons_zero, List.set_cons_succ, i64_w, i32_w]
              rfl
            refine one_ (i := 2) (N := some 50) #[true, true, true, false, false] rfl rfl (by kernel_rfl) (by decide) (fun K hK => ?_)
            refine goes_ Try.func15 (by kernel_rfl) rfl #[.agg #[.int .i64 a0_0, .int .i64 a0_1, .slice A0_2 l0_2.length c0_2]] (by rfl) rfl rfl arr_ ?_
            with_reducible refine (laws_toPlan.calls kj11 a0_0 a0_1 _ _ l0_2 t422 t423 t424 _ ?side1 ?side2 A30.out).mono ?_
            (case side1 => exact kc_ (Kd.C_below HR0_2.out HB.out))
            (case side2 => exact HC0_2.out)
            rintro e w34 ⟨v425, rfl, ho0, hb⟩
            refine ⟨_, rfl, ?_⟩
            have n0_ := Aside0.mk (Kd.R_elder' (by (with_reducible repeat (first | apply Kd.R_alloc | apply Kd.R_drewN | apply Kd.R_drew)); exact HO_419002.out) (Kd.R_base ho0) hb)
            have n1_ := Aside0.mk (Kd.R_lower (Kd.R_new' ho0 (Kd.R_lt (by (with_reducible repeat (first | apply Kd.R_alloc | apply Kd.R_drewN | apply Kd.R_drew)); exact HO_419002.out))) (below_size (hb2_ HB.out GE403.out GE418.out)))
            have n2_ := Aside0.mk (bb_ BK403.out hb)
            have n3_ := Aside0.mk (bb_ BK418.out hb)
            have n4_ := Aside0.mk (below_step (hb2_ HB.out GE403.out GE418.out) hb)
            clear HO_419002
            clear BK403
            clear BK418
            clear HB
            have HO_419002 := n0_
            have HO426 := n1_
            have BK403 := n2_
            have BK418 := n3_
            have HB := n4_
            clear n0_ n1_ n2_ n3_ n4_
            (try clear hb)
            (try clear hb2)
            (try clear hk)
            (try clear hi)
            (try clear ho0)
            obtain ⟨Ao35, co35, eo35⟩ := Kd.R_slice HO426.out
            (first | subst eo35 | (injection eo35 with f1_ f2_ f3_; have f4_ := f1_.symm; have f5_ := f3_.symm; clear f1_ f2_ f3_; subst f4_; subst f5_))
            refine hK.out _ _ ⟨(blk_cell BK418.out 0).trans rfl, (blk_cell BK418.out 1).trans rfl, (blk_cell BK418.out 2).trans rfl, (blk_cell BK403.out 0).trans rfl, (blk_cell BK403.out 1).trans rfl, (blk_cell BK403.out 2).trans rfl⟩ (fun hHeld => ?_)
            clear hK K
            refine norm_ (a' := ?_) ?_ ?_
            rotate_left
            · show Act.put _ (some 50) _ = _
              simp only [Act.put, List.setIfInBounds_toArray, List.set_cons_zero, List.set_cons_succ, i64_w, i32_w]
              rfl
            refine one_ (i := 3) (N := some 51) #[true, true, true, true, false] rfl rfl (by kernel_rfl) (by decide) (fun K hK => ?_)
            refine goes_ Try.func17 (by kernel_rfl) rfl #[.agg #[.int .i64 t413, .int .i64 t414, .slice Ao25 t415.length co25], .agg #[.int .i64 t422, .int .i64 t423, .slice Ao35 t424.length co35]] (by rfl) rfl rfl arr_ ?_
            with_reducible refine (laws_eqPlan.calls kj11 t413 t414 _ _ t415 t422 t423 _ _ t424 true _ ?side1 ?side2 ?side3 ?side4 A31.out).mono ?_
            (case side1 => repeat (first | exact (Kd.R_reads' HO_419002.out).2.2 | (with_reducible refine Kd.C_alloc ?_ _) | (with_reducible refine Kd.C_drewN ?_ _) | (with_reducible refine Kd.C_drew ?_)))
            (case side2 => exact (Kd.R_reads' HO_419002.out).2.1)
            (case side3 => repeat (first | exact (Kd.R_reads' HO426.out).2.2 | (with_reducible refine Kd.C_alloc ?_ _) | (with_reducible refine Kd.C_drewN ?_ _) | (with_reducible refine Kd.C_drew ?_)))
            (case side4 => exact (Kd.R_reads' HO426.out).2.1)
            rintro e w36 ⟨rfl, hb⟩
            refine ⟨_, rfl, ?_⟩
            have n0_ := Aside0.mk (Kd.R_below (by (with_reducible repeat (first | apply Kd.R_alloc | apply Kd.R_drewN | apply Kd.R_drew)); exact HO_419002.out) hb)
            have n1_ := Aside0.mk (Kd.R_below (by (with_reducible repeat (first | apply Kd.R_alloc | apply Kd.R_drewN | apply Kd.R_drew)); exact HO426.out) hb)
            have n2_ := Aside0.mk (bb_ BK403.out hb)
            have n3_ := Aside0.mk (bb_ BK418.out hb)
            have n4_ := Aside0.mk (below_step (hb2_ HB.out GE403.out GE418.out) hb)
            clear HO_419002
            clear HO426
            clear BK403
            clear BK418
            clear HB
            have HO_419002 := n0_
            have HO426 := n1_
            have BK403 := n2_
            have BK418 := n3_
            have HB := n4_
            clear n0_ n1_ n2_ n3_ n4_
            (try clear hb)
            (try clear hb2)
            (try clear hk)
            (try clear hi)
            refine hK.out _ _ ⟨(blk_cell BK418.out 0).trans rfl, (blk_cell BK418.out 1).trans rfl, (blk_cell BK418.out 2).trans rfl, (blk_cell BK403.out 0).trans rfl, (blk_cell BK403.out 1).trans rfl, (blk_cell BK403.out 2).trans rfl⟩ (fun hHeld => ?_)
            clear hK K
            refine norm_ (a' := ?_) ?_ ?_
            rotate_left
            · show Act.put _ (some 51) _ = _
              simp only [Act.put, List.setIfInBounds_toArray, List.set_cons_zero, List.set_cons_succ, i64_w, i32_w]
              rfl
            refine pure_ (i := 4) (N := some 52) (v := ?_) (a' := ?_) #[true, true, true, true, true] rfl rfl (by kernel_rfl) (fun _ _ _ h => h) (Or.inl ⟨by rfl, ?_⟩) ?_ ?_
            rotate_left
            · intro w'
              go_simp
              with_reducible rfl
            rotate_left
            · simp only [Act.put, List.setIfInBounds_toArray, List.set_cons_zero, List.set_cons_succ, i64_w, i32_w]
              rfl
            refine done_ (by kernel_rfl) ?_
            try go_wp2
            go_ret
            exact ⟨er_, hb2_ HB.out GE403.out GE418.out⟩
          · replace c32 := Bool.eq_false_iff.mpr c32
            subst c32
            have H1 : (some false) = some r := by rw [if_neg (show ¬ (false = true) by decide)] at H; exact H
            clear H
            have H := H1
            clear H1
            obtain rfl := Option.some.inj H
            exact absurd hr_ (by decide)
def spec_l1Max.f (a0 : Int) (a1 : Int) : Option (Int) := if a0 > a1 then (some a0) else (some a1)
set_option maxHeartbeats 8000000 in
set_option maxRecDepth 100000 in
theorem spec_l1Max.calls (a0 : Int) (a1 : Int) (r : Int) (w : World) (h : spec_l1Max.f a0 a1 = some r) :
    Calls Try.prog 60 #[.int .i64 a0, .int .i64 a1] w fun e w' => e = .returned (.int .i64 r) ∧ Drawn0 w w' := by
  have H : (if a0 > a1 then (some a0) else (some a1)) = some r := h
  clear h
  by_cases c3 : a0 > a1
  · rw [if_pos c3] at H
    have c3b0 : decide (a1 < a0) = true := decide_eq_true c3
    clear c3
    obtain rfl := Option.some.inj H
    go_enter Try.func60, Try.ntmps60
    go_wp2
    go_ret
    exact ⟨by first | rfl | (simp; done) | (simp [*]; done), by repeat (first | exact Drawn0.refl _ | apply Drawn0.step)⟩
  · rw [if_neg c3] at H
    have c3b0 : decide (a1 < a0) = false := decide_eq_false c3
    clear c3
    obtain rfl := Option.some.inj H
    go_enter Try.func60, Try.ntmps60
    go_wp2
    go_ret
    exact ⟨by first | rfl | (simp; done) | (simp [*]; done), by repeat (first | exact Drawn0.refl _ | apply Drawn0.step)⟩
end Go.Proofs.Ytakcaiigkdglhaa.P
namespace Go.Proofs.Ytakcaiigkdglhaa.P
open Go.RowKit Go.Proofs.YtakcaiigkdglhaaW.PrintWords Go.Proofs.YtakcaiigkdglhaaW.PrintLast Go.Proofs.YtakcaiigkdglhaaW.PrintMore
attribute [local go_sem] max2_int min2_int max_two min_two max_three min_three max_four min_four
set_option linter.unusedVariables false
set_option linter.unusedSimpArgs false
mutual
def spec_NextOwn.j0 : Nat → Int → Int → Bool → Int → Int → List (S60) → Option (Int × Int × Bool)
  | 0, _, _, _, _, _, _ => none
  | k + 1, x1, x2, x21, x472000, x472001, x472002 => if x21 = true then (some (0, 0, false)) else ((spec_RoundOf.f k x472000 x472001 x472002).bind fun t474 => (if t474 = 0 then (none) else ((spec_l1Max.f 0 (wrap64 (Int.tdiv (wrap64 (x2 - x472000)) t474))).bind fun t475 => (spec_NextOwn.l0 k x1 x2 t475 t475 x472000 x472001 x472002))))
def spec_NextOwn.l0 : Nat → Int → Int → Int → Int → Int → Int → List (S60) → Option (Int × Int × Bool)
  | 0, _, _, _, _, _, _, _ => none
  | k + 1, x1, x2, x9, x10, x472000, x472001, x472002 => if x10 ≤ (wrap64 (x9 + 1)) then (spec_NextOwn.l1 k x1 x2 x9 x10 0 x472000 x472001 x472002) else (some (0, 0, false))
def spec_NextOwn.l1 : Nat → Int → Int → Int → Int → Int → Int → Int → List (S60) → Option (Int × Int × Bool)
  | 0, _, _, _, _, _, _, _, _ => none
  | k + 1, x1, x2, x9, x10, x11, x472000, x472001, x472002 => if x11 < (x472002.length : Int) then ((spec_Occurrence.f k x472000 x472001 x472002 x11 x10).bind fun bt476 => (if bt476.2.2 = true then (if 0 ≤ x11 then (if ((rd_T60 x472002 x11).f0) = x1 then (if bt476.1 ≥ x2 then (some (x11, bt476.1, true)) else (spec_NextOwn.l1 k x1 x2 x9 x10 (wrap64 (x11 + 1)) x472000 x472001 x472002)) else (spec_NextOwn.l1 k x1 x2 x9 x10 (wrap64 (x11 + 1)) x472000 x472001 x472002)) else (none)) else (spec_NextOwn.l1 k x1 x2 x9 x10 (wrap64 (x11 + 1)) x472000 x472001 x472002))) else (spec_NextOwn.l0 k x1 x2 x9 (wrap64 (x10 + 1)) x472000 x472001 x472002)
end
def spec_NextOwn.f (k : Nat) (a0_0 : Int) (a0_1 : Int) (l0_2 : List (S60)) (a1 : Int) (a2 : Int) : Option (Int × Int × Bool) := (spec_PlanOk.f k a0_0 a0_1 l0_2).bind fun t472 => (if t472 = true then ((spec_l2Time.f a2).bind fun t473 => (spec_NextOwn.j0 k a1 a2 (!t473) a0_0 a0_1 l0_2)) else (spec_NextOwn.j0 k a1 a2 true a0_0 a0_1 l0_2))
theorem spec_NextOwn.mono_l : ∀ k, (∀ y0 y1 y2 y3 y4 y5, LeO (spec_NextOwn.j0 k y0 y1 y2 y3 y4 y5) (spec_NextOwn.j0 (k + 1) y0 y1 y2 y3 y4 y5)) ∧ (∀ y0 y1 y2 y3 y4 y5 y6, LeO (spec_NextOwn.l0 k y0 y1 y2 y3 y4 y5 y6) (spec_NextOwn.l0 (k + 1) y0 y1 y2 y3 y4 y5 y6)) ∧ (∀ y0 y1 y2 y3 y4 y5 y6 y7, LeO (spec_NextOwn.l1 k y0 y1 y2 y3 y4 y5 y6 y7) (spec_NextOwn.l1 (k + 1) y0 y1 y2 y3 y4 y5 y6 y7))
  | 0 => ⟨fun _ _ _ _ _ _ r h => by simp [spec_NextOwn.j0] at h, fun _ _ _ _ _ _ _ r h => by simp [spec_NextOwn.l0] at h, fun _ _ _ _ _ _ _ _ r h => by simp [spec_NextOwn.l1] at h⟩
  | k + 1 => by
    obtain ⟨ih0, ih1, ih2⟩ := spec_NextOwn.mono_l k
    refine ⟨?_, ?_, ?_⟩
    · intro y0 y1 y2 y3 y4 y5
      unfold spec_NextOwn.j0
      repeat' first
      | (with_reducible exact ih0 _ _ _ _ _ _)
      | (with_reducible exact ih1 _ _ _ _ _ _ _)
      | (with_reducible exact ih2 _ _ _ _ _ _ _ _)
      | (with_reducible exact spec_Occurrence.mono _ _ _ _ _ _)
      | (with_reducible exact spec_PlanOk.mono _ _ _ _)
      | (with_reducible exact spec_RoundOf.mono _ _ _ _)
      | (with_reducible exact LeO.refl _)
      | (with_reducible exact LeO.none _)
      | (with_reducible refine LeO.ite ?_ ?_)
      | (with_reducible refine LeO.bind ?_ (fun _ => ?_))
      | exact ih0 _ _ _ _ _ _
      | exact ih1 _ _ _ _ _ _ _
      | exact ih2 _ _ _ _ _ _ _ _
      | exact spec_Occurrence.mono _ _ _ _ _ _
      | exact spec_PlanOk.mono _ _ _ _
      | exact spec_RoundOf.mono _ _ _ _
      | exact LeO.none _
      | refine LeO.ite ?_ ?_
      | refine LeO.bind ?_ (fun _ => ?_)
    · intro y0 y1 y2 y3 y4 y5 y6
      unfold spec_NextOwn.l0
      repeat' first
      | (with_reducible exact ih0 _ _ _ _ _ _)
      | (with_reducible exact ih1 _ _ _ _ _ _ _)
      | (with_reducible exact ih2 _ _ _ _ _ _ _ _)
      | (with_reducible exact spec_Occurrence.mono _ _ _ _ _ _)
      | (with_reducible exact spec_PlanOk.mono _ _ _ _)
      | (with_reducible exact spec_RoundOf.mono _ _ _ _)
      | (with_reducible exact LeO.refl _)
      | (with_reducible exact LeO.none _)
      | (with_reducible refine LeO.ite ?_ ?_)
      | (with_reducible refine LeO.bind ?_ (fun _ => ?_))
      | exact ih0 _ _ _ _ _ _
      | exact ih1 _ _ _ _ _ _ _
      | exact ih2 _ _ _ _ _ _ _ _
      | exact spec_Occurrence.mono _ _ _ _ _ _
      | exact spec_PlanOk.mono _ _ _ _
      | exact spec_RoundOf.mono _ _ _ _
      | exact LeO.none _
      | refine LeO.ite ?_ ?_
      | refine LeO.bind ?_ (fun _ => ?_)
    · intro y0 y1 y2 y3 y4 y5 y6 y7
      unfold spec_NextOwn.l1
      repeat' first
      | (with_reducible exact ih0 _ _ _ _ _ _)
      | (with_reducible exact ih1 _ _ _ _ _ _ _)
      | (with_reducible exact ih2 _ _ _ _ _ _ _ _)
      | (with_reducible exact spec_Occurrence.mono _ _ _ _ _ _)
      | (with_reducible exact spec_PlanOk.mono _ _ _ _)
      | (with_reducible exact spec_RoundOf.mono _ _ _ _)
      | (with_reducible exact LeO.refl _)
      | (with_reducible exact LeO.none _)
      | (with_reducible refine LeO.ite ?_ ?_)
      | (with_reducible refine LeO.bind ?_ (fun _ => ?_))
      | exact ih0 _ _ _ _ _ _
      | exact ih1 _ _ _ _ _ _ _
      | exact ih2 _ _ _ _ _ _ _ _
      | exact spec_Occurrence.mono _ _ _ _ _ _
      | exact spec_PlanOk.mono _ _ _ _
      | exact spec_RoundOf.mono _ _ _ _
      | exact LeO.none _
      | refine LeO.ite ?_ ?_
      | refine LeO.bind ?_ (fun _ => ?_)
theorem spec_NextOwn.mono : ∀ a0 a1 a2 a3 a4 k, LeO (spec_NextOwn.f k a0 a1 a2 a3 a4) (spec_NextOwn.f (k + 1) a0 a1 a2 a3 a4) := by
  intro a0 a1 a2 a3 a4 k
  obtain ⟨ih0, ih1, ih2⟩ := spec_NextOwn.mono_l k
  unfold spec_NextOwn.f
  repeat' first
      | (with_reducible exact ih0 _ _ _ _ _ _)
      | (with_reducible exact ih1 _ _ _ _ _ _ _)
      | (with_reducible exact ih2 _ _ _ _ _ _ _ _)
      | (with_reducible exact spec_Occurrence.mono _ _ _ _ _ _)
      | (with_reducible exact spec_PlanOk.mono _ _ _ _)
      | (with_reducible exact spec_RoundOf.mono _ _ _ _)
      | (with_reducible exact LeO.refl _)
      | (with_reducible exact LeO.none _)
      | (with_reducible refine LeO.ite ?_ ?_)
      | (with_reducible refine LeO.bind ?_ (fun _ => ?_))
      | exact ih0 _ _ _ _ _ _
      | exact ih1 _ _ _ _ _ _ _
      | exact ih2 _ _ _ _ _ _ _ _
      | exact spec_Occurrence.mono _ _ _ _ _ _
      | exact spec_PlanOk.mono _ _ _ _
      | exact spec_RoundOf.mono _ _ _ _
      | exact LeO.none _
      | refine LeO.ite ?_ ?_
      | refine LeO.bind ?_ (fun _ => ?_)
def spec_NextOwn.T3 : Bool × List (List Nat × List Nat) := (true, [([], []), ([], []), ([1], [1]), ([0, 2], [0, 2]), ([], []), ([4], [4]), ([3, 5], [3, 5]), ([6, 5], [6]), ([7, 7, 0, 1, 2, 3, 4, 5, 6, 7], [7])])
def spec_NextOwn.B3 : List Nat := [0, 0, 2, 7, 0, 16, 63, 127, 255]
theorem spec_NextOwn.tab3 : rtab .any (opsOf Try.f31 3) = spec_NextOwn.T3 := by kernel_rfl
theorem spec_NextOwn.bits3 : waitsOk spec_NextOwn.T3.2 spec_NextOwn.B3 = true := by kernel_rfl
set_option maxHeartbeats 8000000 in
set_option maxRecDepth 100000 in
theorem spec_NextOwn.calls (k : Nat) (a0_0 : Int) (a0_1 : Int) (A0_2 : Option Addr) (c0_2 : Nat) (l0_2 : List (S60)) (a1 : Int) (a2 : Int) (r1 : Int) (r2 : Int) (r3 : Bool) (w : World) (hr0_2 : Kd.C k60 w A0_2 l0_2.length l0_2) (hc0_2 : l0_2.length ≤ c0_2) (h : spec_NextOwn.f k a0_0 a0_1 l0_2 a1 a2 = some (r1, r2, r3)) :
    Calls Try.prog 31 #[.agg #[.int .i64 a0_0, .int .i64 a0_1, .slice A0_2 l0_2.length c0_2], .int .i64 a1, .int .i64 a2] w fun e w' => e = .returned (.tuple #[.int .i64 r1, .int .i64 r2, .bool r3]) ∧ Below w.heap.size w w' := by
  have hu29 := Try.underlying29
  have hu40 := Try.underlying40
  have HR0_2 := Aside0.mk hr0_2
  have HC0_2 := Aside0.mk hc0_2
  clear hr0_2 hc0_2
  have HB := Aside0.mk (Below.refl w.heap.size w)
  have H : ((spec_PlanOk.f k a0_0 a0_1 l0_2).bind fun t472 => (if t472 = true then ((spec_l2Time.f a2).bind fun t473 => (spec_NextOwn.j0 k a1 a2 (!t473) a0_0 a0_1 l0_2)) else (spec_NextOwn.j0 k a1 a2 true a0_0 a0_1 l0_2))) = some (r1, r2, r3) := h
  clear h
  have HC4 := Aside0.mk H
  clear H
  go_enter Try.func31, Try.ntmps31
  go_upto_region 1 with (first | ((with_reducible refine gate_dst (N := 3) rfl ?_); refine box_event ?hg (N := 3) ?hd (cs := #[.int .i64 a0_0, .int .i64 a0_1, .slice A0_2 l0_2.length c0_2]) (t := 29) ?hr ?_; (case hd => rfl); (case hg => rfl); (case hr => first | (go_simp; done) | (go_simp; rfl)); intro gb471 hg w5 hbox hb; have n0_ := Aside0.mk (below_step (hb_ HB.out) hb); have n1_ := Aside0.mk (hbox); have n2_ := Aside0.mk ((by rw [hg]; exact (below_size (hb_ HB.out)) : w.heap.size ≤ gb471)); have n3_ := Aside0.mk ((by rw [hg]; exact (below_size (hb_ HB.out)) : w.heap.size ≤ gb471)); clear HB; have HB := n0_; have BK471 := n1_; have GW471 := n2_; have GE471 := n3_; clear n0_ n1_ n2_ n3_; clear hb hbox hg))
  (try simp only [Act.put, List.setIfInBounds_toArray, List.set_cons_zero, List.set_cons_succ])
  go_cut [21] (fun v21 wc => ∃ (kq : Nat) (x21_3 : Bool), v21 = .bool x21_3 ∧ Aside0 (spec_NextOwn.j0 kq a1 a2 x21_3 a0_0 a0_1 l0_2 = some (r1, r2, r3)) ∧ Aside0 (kq ≤ k) ∧ Aside0 (wc.heap[gb471]? = some (.cells #[.int .i64 a0_0, .int .i64 a0_1, (.slice A0_2 l0_2.length c0_2)] 29 (0, 0))) ∧ Aside0 (Below w.heap.size w wc))
  case first =>
    have H := HC4.out
    clear HC4
    replace H := Option.bind_eq_some_iff.mp H
    obtain ⟨t472, A60, H⟩ := H
    replace H : (if t472 = true then ((spec_l2Time.f a2).bind fun t473 => (spec_NextOwn.j0 k a1 a2 (!t473) a0_0 a0_1 l0_2)) else (spec_NextOwn.j0 k a1 a2 true a0_0 a0_1 l0_2)) = some (r1, r2, r3) := H
    have A6 := Aside0.mk A60
    clear A60
    by_cases c7 : t472 = true
    · subst c7
      have H1 : ((spec_l2Time.f a2).bind fun t473 => (spec_NextOwn.j0 k a1 a2 (!t473) a0_0 a0_1 l0_2)) = some (r1, r2, r3) := by rw [if_pos rfl] at H; exact H
      clear H
      have H := H1
      clear H1
      replace H := Option.bind_eq_some_iff.mp H
      obtain ⟨t473, A80, H⟩ := H
      replace H : (spec_NextOwn.j0 k a1 a2 (!t473) a0_0 a0_1 l0_2) = some (r1, r2, r3) := H
      have A8 := Aside0.mk A80
      clear A80
      have H' := Aside0.mk H
      clear H
      have hcz9_0 := bc_ BK471.out 0 (.int .i64 a0_0) rfl
      have hcz9_1 := bc_ BK471.out 1 (.int .i64 a0_1) rfl
      have hcz9_2 := bc_ BK471.out 2 (.slice A0_2 l0_2.length c0_2) rfl
      have hfz9_0 := blk_frozen BK471.out 0
      have hfz9_1 := blk_frozen BK471.out 1
      have hfz9_2 := blk_frozen BK471.out 2
      go_wp2_with (first | ((with_reducible refine gate_callee (f := 42) rfl ?_); refine goesL_ (some 15) rfl rfl Try.func42 (by kernel_rfl) rfl #[.agg #[.int .i64 a0_0, .int .i64 a0_1, .slice A0_2 l0_2.length c0_2]] rfl arr_ ?_; (with_reducible refine (spec_PlanOk.calls k a0_0 a0_1 _ _ l0_2 true _ ?side1 ?side2 A6.out).mono ?_); (case side1 => exact kc_ (Kd.C_below HR0_2.out HB.out)); (case side2 => exact HC0_2.out); rintro e w10 ⟨rfl, hb⟩; refine ⟨_, rfl, ?_⟩; have n0_ := Aside0.mk (bb_ BK471.out hb); have n1_ := Aside0.mk (below_step (hb1_ HB.out GE471.out) hb); clear BK471; clear HB; have BK471 := n0_; have HB := n1_; clear n0_ n1_; (try clear hb); (try clear hb2); (try clear hk); (try clear hi)) | (go_at_call 59; (with_reducible refine (spec_l2Time.calls a2 t473 _ A8.out).mono ?_); rintro e w' ⟨rfl, ⟨nd, rfl⟩⟩))
      go_meet
      case rel => exact ⟨_, (!t473), (by first | rfl | (simp; done) | (simp [*]; done)), H', ⟨by first | omega | exact Nat.le_refl _⟩, ⟨bk_ BK471.out⟩, ⟨hb1_ HB.out GE471.out⟩⟩
    · replace c7 := Bool.eq_false_iff.mpr c7
      subst c7
      have H1 : (spec_NextOwn.j0 k a1 a2 true a0_0 a0_1 l0_2) = some (r1, r2, r3) := by rw [if_neg (show ¬ (false = true) by decide)] at H; exact H
      clear H
      have H := H1
      clear H1
      have H' := Aside0.mk H
      clear H
      have hcz11_0 := bc_ BK471.out 0 (.int .i64 a0_0) rfl
      have hcz11_1 := bc_ BK471.out 1 (.int .i64 a0_1) rfl
      have hcz11_2 := bc_ BK471.out 2 (.slice A0_2 l0_2.length c0_2) rfl
      have hfz11_0 := blk_frozen BK471.out 0
      have hfz11_1 := blk_frozen BK471.out 1
      have hfz11_2 := blk_frozen BK471.out 2
      go_wp2_with (first | ((with_reducible refine gate_callee (f := 42) rfl ?_); refine goesL_ (some 15) rfl rfl Try.func42 (by kernel_rfl) rfl #[.agg #[.int .i64 a0_0, .int .i64 a0_1, .slice A0_2 l0_2.length c0_2]] rfl arr_ ?_; (with_reducible refine (spec_PlanOk.calls k a0_0 a0_1 _ _ l0_2 false _ ?side1 ?side2 A6.out).mono ?_); (case side1 => exact kc_ (Kd.C_below HR0_2.out HB.out)); (case side2 => exact HC0_2.out); rintro e w12 ⟨rfl, hb⟩; refine ⟨_, rfl, ?_⟩; have n0_ := Aside0.mk (bb_ BK471.out hb); have n1_ := Aside0.mk (below_step (hb1_ HB.out GE471.out) hb); clear BK471; clear HB; have BK471 := n0_; have HB := n1_; clear n0_ n1_; (try clear hb); (try clear hb2); (try clear hk); (try clear hi)))
      go_meet
      case rel => exact ⟨_, (true), (by first | rfl | (simp; done) | (simp [*]; done)), H', ⟨by first | omega | exact Nat.le_refl _⟩, ⟨bk_ BK471.out⟩, ⟨hb1_ HB.out GE471.out⟩⟩
  case rest =>
    clear HC4
    try clear p2
    try clear c3
    try clear c4
    try clear c7
    try clear hcz11_0
    try clear hcz11_1
    try clear hcz11_2
    try clear hcz9_0
    try clear hcz9_1
    try clear hcz9_2
    try clear hfz11_0
    try clear hfz11_1
    try clear hfz11_2
    try clear hfz9_0
    try clear hfz9_1
    try clear hfz9_2
    obtain ⟨kq, x21_3, rfl, HA, HJ3, BK471, HB⟩ := hcut
    cases kq with
    | zero => exact absurd HA.out (by simp [spec_NextOwn.j0])
    | succ kj3 =>
      have H := HA.out
      clear HA
      simp only [spec_NextOwn.j0] at H
      by_cases c13 : x21_3 = true
      · subst c13
        have H1 : (some (0, 0, false)) = some (r1, r2, r3) := by rw [if_pos rfl] at H; exact H
        clear H
        have H := H1
        clear H1
        simp only [Option.some.injEq, Prod.mk.injEq] at H
        obtain ⟨rfl, rfl, rfl⟩ := H
        go_wp2
        go_ret3
        exact ⟨er_, hb1_ HB.out GE471.out⟩
      · replace c13 := Bool.eq_false_iff.mpr c13
        subst c13
        have H1 : ((spec_RoundOf.f kj3 a0_0 a0_1 l0_2).bind fun t474 => (if t474 = 0 then (none) else ((spec_l1Max.f 0 (wrap64 (Int.tdiv (wrap64 (a2 - a0_0)) t474))).bind fun t475 => (spec_NextOwn.l0 kj3 a1 a2 t475 t475 a0_0 a0_1 l0_2)))) = some (r1, r2, r3) := by rw [if_neg (show ¬ (false = true) by decide)] at H; exact H
        clear H
        have H := H1
        clear H1
        replace H := Option.bind_eq_some_iff.mp H
        obtain ⟨t474, A140, H⟩ := H
        replace H : (if t474 = 0 then (none) else ((spec_l1Max.f 0 (wrap64 (Int.tdiv (wrap64 (a2 - a0_0)) t474))).bind fun t475 => (spec_NextOwn.l0 kj3 a1 a2 t475 t475 a0_0 a0_1 l0_2))) = some (r1, r2, r3) := H
        have A14 := Aside0.mk A140
        clear A140
        by_cases c15 : t474 = 0
        · rw [if_pos c15] at H
          exact absurd H (by simp)
        · rw [if_neg c15] at H
          have c15b0 : (t474 == 0) = false := beq_eq_false_iff_ne.mpr c15
          have c15b1 : (t474 != 0) = true := bne_iff_ne.mpr c15
          replace H := Option.bind_eq_some_iff.mp H
          obtain ⟨t475, A160, H⟩ := H
          replace H : (spec_NextOwn.l0 kj3 a1 a2 t475 t475 a0_0 a0_1 l0_2) = some (r1, r2, r3) := H
          have A16 := Aside0.mk A160
          clear A160
          have H' := Aside0.mk H
          clear H
          try go_wp2
          have n0_ := Aside0.mk (blk_drew BK471.out)
          have n1_ := Aside0.mk (below_drew1 HB.out)
          clear BK471
          clear HB
          have BK471 := n0_
          have HB := n1_
          clear n0_ n1_
          refine start_ (n := 9) (S := fun w' => w'.cell? ⟨gb471, 0, none⟩ = some (.int .i64 a0_0) ∧ w'.cell? ⟨gb471, 1, none⟩ = some (.int .i64 a0_1) ∧ w'.cell? ⟨gb471, 2, none⟩ = some (.slice A0_2 l0_2.length c0_2)) (ds := []) #[false, false, false, false, false, false, false, false, false] (by kernel_rfl) rfl rfl ⟨(blk_cell BK471.out 0).trans rfl, (blk_cell BK471.out 1).trans rfl, (blk_cell BK471.out 2).trans rfl⟩ (fun hHeld => ?_); refine with_tabW spec_NextOwn.tab3 spec_NextOwn.bits3 (fun HT_ HW_ => ?_)
          generalize wc.drew = w17 at BK471 HB hHeld ⊢
          refine pure_ (i := 0) (N := some 22) (v := ?_) (a' := ?_) #[true, false, false, false, false, false, false, false, false] rfl rfl (any_of HT_.out (by kernel_rfl)) (fun _ _ _ h => h) (Or.inl ⟨by rfl, ?_⟩) ?_ ?_
          rotate_left
          · intro w'
            go_simp
            with_reducible rfl
          rotate_left
          · simp only [Act.put, List.setIfInBounds_toArray, List.set_cons_zero, List.set_cons_succ, i64_w, i32_w]
            rfl
          refine pure_ (i := 1) (N := some 23) (v := ?_) (a' := ?_) #[true, true, false, false, false, false, false, false, false] rfl rfl (any_of HT_.out (by kernel_rfl)) (fun _ _ _ h => h) (Or.inl ⟨by rfl, ?_⟩) ?_ ?_
          rotate_left
          · intro w'
            go_simp
            with_reducible rfl
          rotate_left
          · simp only [Act.put, List.setIfInBounds_toArray, List.set_cons_zero, List.set_cons_succ, i64_w, i32_w]
            rfl
          refine take_ (i := 2) (N := some 24) (v := ?_) (a' := ?_) #[true, true, true, false, false, false, false, false, false] rfl rfl (take_ofW HT_.out HW_.out (by kernel_rfl)) (fun _ _ _ h => h) (Or.inl ⟨by rfl, ?_⟩) hHeld ?_ ?_
          rotate_left
          · rintro w' ⟨s0, s1, s2⟩
            go_simp
            with_reducible rfl
          rotate_left
          · simp only [Act.put, List.setIfInBounds_toArray, List.set_cons_zero, List.set_cons_succ, i64_w, i32_w]
            rfl
          refine pure_ (i := 3) (N := some 25) (v := ?_) (a' := ?_) #[true, true, true, true, false, false, false, false, false] rfl rfl (any_of HT_.out (by kernel_rfl)) (fun _ _ _ h => h) (Or.inl ⟨by rfl, ?_⟩) ?_ ?_
          rotate_left
          · intro w'
            go_simp
            with_reducible rfl
          rotate_left
          · simp only [Act.put, List.setIfInBounds_toArray, List.set_cons_zero, List.set_cons_succ, i64_w, i32_w]
            rfl
          refine take_ (i := 4) (N := some 26) (v := ?_) (a' := ?_) #[true, true, true, true, true, false, false, false, false] rfl rfl (take_ofW HT_.out HW_.out (by kernel_rfl)) (fun _ _ _ h => h) (Or.inl ⟨by rfl, ?_⟩) hHeld ?_ ?_
          rotate_left
          · rintro w' ⟨s0, s1, s2⟩
            go_simp
            with_reducible rfl
          rotate_left
          · simp only [Act.put, List.setIfInBounds_toArray, List.set_cons_zero, List.set_cons_succ, i64_w, i32_w]
            rfl
          refine one_ (i := 5) (N := some 27) #[true, true, true, true, true, true, false, false, false] rfl rfl (one_of HT_.out (by kernel_rfl)) (by decide) (fun K hK => ?_)
          refine goes_ Try.func14 (by kernel_rfl) rfl #[.agg #[.int .i64 a0_0, .int .i64 a0_1, .slice A0_2 l0_2.length c0_2]] (by rfl) rfl rfl arr_ ?_
          with_reducible refine (spec_RoundOf.calls kj3 a0_0 a0_1 _ _ l0_2 t474 _ ?side1 ?side2 A14.out).mono ?_
          (case side1 => exact kc_ (Kd.C_below HR0_2.out HB.out))
          (case side2 => exact HC0_2.out)
          rintro e w18 ⟨rfl, hb⟩
          refine ⟨_, rfl, ?_⟩
          have n0_ := Aside0.mk (bb_ BK471.out hb)
          have n1_ := Aside0.mk (below_step (hb1_ HB.out GE471.out) hb)
          clear BK471
          clear HB
          have BK471 := n0_
          have HB := n1_
          clear n0_ n1_
          (try clear hb)
          (try clear hb2)
          (try clear hk)
          (try clear hi)
          refine hK.out _ _ ⟨(blk_cell BK471.out 0).trans rfl, (blk_cell BK471.out 1).trans rfl, (blk_cell BK471.out 2).trans rfl⟩ (fun hHeld => ?_)
          clear hK K
          refine norm_ (a' := ?_) ?_ ?_
          rotate_left
          · show Act.put _ (some 27) _ = _
            simp only [Act.put, List.setIfInBounds_toArray, List.set_cons_zero, List.set_cons_succ, i64_w, i32_w]
            rfl
          refine pure_ (i := 6) (N := some 28) (v := ?_) (a' := ?_) #[true, true, true, true, true, true, true, false, false] rfl rfl (any_of HT_.out (by kernel_rfl)) (fun _ _ _ h => h) (Or.inl ⟨by rfl, ?_⟩) ?_ ?_
          rotate_left
          · intro w'
            go_simp
            with_reducible rfl
          rotate_left
          · simp only [Act.put, List.setIfInBounds_toArray, List.set_cons_zero, List.set_cons_succ, i64_w, i32_w]
            rfl
          refine one_ (i := 7) (N := some 29) #[true, true, true, true, true, true, true, true, false] rfl rfl (one_of HT_.out (by kernel_rfl)) (by decide) (fun K hK => ?_)
          refine goes_ Try.func60 (by kernel_rfl) rfl #[.int .i64 0, .int .i64 (wrap64 (Int.tdiv (wrap64 (a2 - a0_0)) t474))] (by rfl) rfl rfl arr_ ?_
          with_reducible refine (spec_l1Max.calls 0 (wrap64 (Int.tdiv (wrap64 (a2 - a0_0)) t474)) t475 _ A16.out).mono ?_
          rintro e w' ⟨rfl, ⟨nd, rfl⟩⟩
          refine ⟨_, rfl, ?_⟩
          refine hK.out _ _ ⟨(blk_cell BK471.out 0).trans rfl, (blk_cell BK471.out 1).trans rfl, (blk_cell BK471.out 2).trans rfl⟩ (fun hHeld => ?_)
          clear hK K
          refine norm_ (a' := ?_) ?_ ?_
          rotate_left
          · show Act.put _ (some 29) _ = _
            simp only [Act.put, List.setIfInBounds_toArray, List.set_cons_zero, List.set_cons_succ, i64_w, i32_w]
            rfl
          refine pure_ (i := 8) (N := some 9) (v := ?_) (a' := ?_) #[true, true, true, true, true, true, true, true, true] rfl rfl (any_of HT_.out (by kernel_rfl)) (fun _ _ _ h => h) (Or.inl ⟨by rfl, ?_⟩) ?_ ?_
          rotate_left
          · intro w'
            go_simp
            with_reducible rfl
          rotate_left
          · simp only [Act.put, List.setIfInBounds_toArray, List.set_cons_zero, List.set_cons_succ, i64_w, i32_w]
            rfl
          refine done_ (done_of HT_.out (by kernel_rfl)) ?_
          try go_wp2
          go_loopg [10] kj3 (fun kq v10 w' => ∃ (x10_2 : Int), v10 = .int .i64 x10_2 ∧ Aside0 (spec_NextOwn.l0 kq a1 a2 t475 x10_2 a0_0 a0_1 l0_2 = some (r1, r2, r3)) ∧ Aside0 (kq ≤ kj3) ∧ Aside0 (w'.heap[gb471]? = some (.cells #[.int .i64 a0_0, .int .i64 a0_1, (.slice A0_2 l0_2.length c0_2)] 29 (0, 0))) ∧ Aside0 (Below w.heap.size w w'))
          case atStart => exact ⟨(t475), (by first | rfl | (simp; done) | (simp [*]; done)), H', ⟨Nat.le_refl _⟩, ⟨bk_ BK471.out⟩, ⟨hb1_ HB.out GE471.out⟩⟩
          case round =>
            clear H'
            try clear c1
            try clear p2
            try clear c3
            try clear c4
            try clear c6
            try clear p6
            try clear c7
            try clear c13
            try clear c14
            try clear c15
            try clear c15b0
            try clear c15b1
            try clear hcz11_0
            try clear hcz11_1
            try clear hcz11_2
            try clear hcz9_0
            try clear hcz9_1
            try clear hcz9_2
            try clear hfz11_0
            try clear hfz11_1
            try clear hfz11_2
            try clear hfz9_0
            try clear hfz9_1
            try clear hfz9_2
            try clear p2
            obtain ⟨x10_2, rfl, HA, HK2, BK471, HB⟩ := hrel
            cases gk with
            | zero => exact absurd HA.out (by simp [spec_NextOwn.l0])
            | succ k2 =>
              have H := HA.out
              clear HA
              simp only [spec_NextOwn.l0] at H
              by_cases c19 : x10_2 ≤ (wrap64 (t475 + 1))
              · rw [if_pos c19] at H
                have c19b0 : decide (x10_2 ≤ (wrap64 (t475 + 1))) = true := decide_eq_true c19
                clear c19
                have H' := Aside0.mk H
                clear H
                go_wp2
                go_loopg [11] k2 (fun kq v11 w' => ∃ (x11_3 : Int), v11 = .int .i64 x11_3 ∧ Aside0 (spec_NextOwn.l1 kq a1 a2 t475 x10_2 x11_3 a0_0 a0_1 l0_2 = some (r1, r2, r3)) ∧ Aside0 (kq ≤ k2) ∧ Aside0 (w'.heap[gb471]? = some (.cells #[.int .i64 a0_0, .int .i64 a0_1, (.slice A0_2 l0_2.length c0_2)] 29 (0, 0))) ∧ Aside0 (Below w.heap.size w w'))
                case atStart => exact ⟨(0), (by first | rfl | (simp; done) | (simp [*]; done)), H', ⟨Nat.le_refl _⟩, ⟨bk_ BK471.out⟩, ⟨hb1_ HB.out GE471.out⟩⟩
                case round =>
                  clear H'
                  try clear c1
                  try clear p2
                  try clear c3
                  try clear c4
                  try clear c6
                  try clear p6
                  try clear c7
                  try clear c13
                  try clear c14
                  try clear c15
                  try clear c15b0
                  try clear c15b1
                  try clear c19
                  try clear c19b0
                  try clear hcz11_0
                  try clear hcz11_1
                  try clear hcz11_2
                  try clear hcz9_0
                  try clear hcz9_1
                  try clear hcz9_2
                  try clear hfz11_0
                  try clear hfz11_1
                  try clear hfz11_2
                  try clear hfz9_0
                  try clear hfz9_1
                  try clear hfz9_2
                  try clear p2
                  try clear p6
                  obtain ⟨x11_3, rfl, HA, HK3, BK471, HB⟩ := hrel
                  cases gk with
                  | zero => exact absurd HA.out (by simp [spec_NextOwn.l1])
                  | succ k3 =>
                    have H := HA.out
                    clear HA
                    simp only [spec_NextOwn.l1] at H
                    by_cases c20 : x11_3 < (l0_2.length : Int)
                    · rw [if_pos c20] at H
                      have c20b0 : decide (x11_3 < (l0_2.length : Int)) = true := decide_eq_true c20
                      clear c20
                      replace H := Option.bind_eq_some_iff.mp H
                      obtain ⟨⟨t476, t477, t478⟩, A210, H⟩ := H
                      replace H : (if t478 = true then (if 0 ≤ x11_3 then (if ((rd_T60 l0_2 x11_3).f0) = a1 then (if t476 ≥ a2 then (some (x11_3, t476, true)) else (spec_NextOwn.l1 k3 a1 a2 t475 x10_2 (wrap64 (x11_3 + 1)) a0_0 a0_1 l0_2)) else (spec_NextOwn.l1 k3 a1 a2 t475 x10_2 (wrap64 (x11_3 + 1)) a0_0 a0_1 l0_2)) else (none)) else (spec_NextOwn.l1 k3 a1 a2 t475 x10_2 (wrap64 (x11_3 + 1)) a0_0 a0_1 l0_2)) = some (r1, r2, r3) := H
                      have A21 := Aside0.mk A210
                      clear A210
                      by_cases c22 : t478 = true
                      · subst c22
                        have H1 : (if 0 ≤ x11_3 then (if ((rd_T60 l0_2 x11_3).f0) = a1 then (if t476 ≥ a2 then (some (x11_3, t476, true)) else (spec_NextOwn.l1 k3 a1 a2 t475 x10_2 (wrap64 (x11_3 + 1)) a0_0 a0_1 l0_2)) else (spec_NextOwn.l1 k3 a1 a2 t475 x10_2 (wrap64 (x11_3 + 1)) a0_0 a0_1 l0_2)) else (none)) = some (r1, r2, r3) := by rw [if_pos rfl] at H; exact H
                        clear H
                        have H := H1
                        clear H1
                        by_cases c23 : 0 ≤ x11_3
                        · rw [if_pos c23] at H
                          have c23b0 : decide (0 ≤ x11_3) = true := decide_eq_true c23
                          clear c23
                          by_cases c24 : ((rd_T60 l0_2 x11_3).f0) = a1
                          · rw [if_pos c24] at H
                            have c24b0 : (((rd_T60 l0_2 x11_3).f0) == a1) = true := beq_iff_eq.mpr c24
                            have c24b1 : (((rd_T60 l0_2 x11_3).f0) != a1) = false := bne_eq_false_iff_eq.mpr c24
                            clear c24
                            by_cases c25 : t476 ≥ a2
                            · rw [if_pos c25] at H
                              have c25b0 : decide (a2 ≤ t476) = true := decide_eq_true c25
                              clear c25
                              simp only [Option.some.injEq, Prod.mk.injEq] at H
                              obtain ⟨rfl, rfl, rfl⟩ := H
                              have hcz26_0 := bc_ BK471.out 0 (.int .i64 a0_0) rfl
                              have hcz26_1 := bc_ BK471.out 1 (.int .i64 a0_1) rfl
                              have hcz26_2 := bc_ BK471.out 2 (.slice A0_2 l0_2.length c0_2) rfl
                              have hfz26_0 := blk_frozen BK471.out 0
                              have hfz26_1 := blk_frozen BK471.out 1
                              have hfz26_2 := blk_frozen BK471.out 2
                              try go_wp2_with (first | ((with_reducible refine gate_callee (f := 24) rfl ?_); refine goesL_ (some 48) rfl rfl Try.func24 (by kernel_rfl) rfl #[.agg #[.int .i64 a0_0, .int .i64 a0_1, .slice A0_2 l0_2.length c0_2], .int .i64 x11_3, .int .i64 x10_2] rfl arr_ ?_; (with_reducible refine (spec_Occurrence.calls k3 a0_0 a0_1 _ _ l0_2 x11_3 x10_2 t476 t477 true _ ?side1 ?side2 A21.out).mono ?_); (case side1 => exact kc_ (Kd.C_below HR0_2.out HB.out)); (case side2 => exact HC0_2.out); rintro e w27 ⟨rfl, hb⟩; refine ⟨_, rfl, ?_⟩; have n0_ := Aside0.mk (bb_ BK471.out hb); have n1_ := Aside0.mk (below_step (hb1_ HB.out GE471.out) hb); clear BK471; clear HB; have BK471 := n0_; have HB := n1_; clear n0_ n1_; (try clear hb); (try clear hb2); (try clear hk); (try clear hi)) | ((with_reducible refine gate_dst (N := 12) rfl ?_); refine box_event ?hg (N := 12) ?hd (cs := #[.int .i64 0, .int .i64 0]) (t := 40) ?hr ?_; (case hd => rfl); (case hg => rfl); (case hr => first | (go_simp; done) | (go_simp; rfl)); intro gb479 hg w28 hbox hb; have n0_ := Aside0.mk (bb_ BK471.out hb); have n1_ := Aside0.mk (below_step (hb1_ HB.out GE471.out) hb); have n2_ := Aside0.mk (hbox); have n3_ := Aside0.mk ((by rw [hg]; exact (below_size (hb1_ HB.out GE471.out)) : w.heap.size ≤ gb479)); have n4_ := Aside0.mk ((by rw [hg]; exact (below_size (hb1_ HB.out GE471.out)) : w.heap.size ≤ gb479)); have n5_ := Aside0.mk ((bl_ hg BK471.out : gb471 ≠ gb479)); have n6_ := Aside0.mk ((bg_ hg BK471.out : gb479 ≠ gb471)); clear BK471; clear HB; have BK471 := n0_; have HB := n1_; have BK479 := n2_; have GW479 := n3_; have GE479 := n4_; have NB471_479 := n5_; have NB479_471 := n6_; clear n0_ n1_ n2_ n3_ n4_ n5_ n6_; clear hb hbox hg; have hnb29 := NB479_471.out; have hnc29 := NB471_479.out; have hcz30_0 := bc_ BK479.out 0 (.int .i64 0) rfl; have hcz30_1 := bc_ BK479.out 1 (.int .i64 0) rfl; have hfz30_0 := blk_frozen BK479.out 0; have hfz30_1 := blk_frozen BK479.out 1; have hcz31_0 := bc_ BK471.out 0 (.int .i64 a0_0) rfl; have hcz31_1 := bc_ BK471.out 1 (.int .i64 a0_1) rfl; have hcz31_2 := bc_ BK471.out 2 (.slice A0_2 l0_2.length c0_2) rfl; have hfz31_0 := blk_frozen BK471.out 0; have hfz31_1 := blk_frozen BK471.out 1; have hfz31_2 := blk_frozen BK471.out 2; have p480 : 0 ≤ (x11_3 : Int) := of_decide_eq_true (by first | (with_reducible assumption) | assumption); have q480 : x11_3 < (l0_2.length : Int) := of_decide_eq_true (by first | (with_reducible assumption) | assumption); obtain ⟨ad480, e480, hx480_0, hx480_1⟩ := at_T60 HR0_2.out x11_3 p480 q480; cases e480; have hn480_0 : ad480.block ≠ gb479 := Nat.ne_of_lt (Nat.lt_of_lt_of_le (by have := World.block_lt_of_cell? _ _ hx480_0; first | rwa [add_block] at this | exact this) GW479.out); have hn480_1 : ad480.block ≠ gb479 := Nat.ne_of_lt (Nat.lt_of_lt_of_le (by have := World.block_lt_of_cell? _ _ hx480_0; first | rwa [add_block] at this | exact this) GW479.out); replace hx480_0 := (HB.out.cell (World.block_lt_of_cell? w _ hx480_0)).trans hx480_0; replace hx480_1 := (HB.out.cell (World.block_lt_of_cell? w _ hx480_1)).trans hx480_1; replace hx480_0 := (cell_far (p := ⟨gb479, 0, none⟩) (by first | (rw [add_block]; exact hn480_0) | (show (Addr.add _ _).block ≠ _; rw [add_block]; exact hn480_0) | exact hn480_0) (.int .i64 t476)).trans hx480_0; replace hx480_1 := (cell_far (p := ⟨gb479, 0, none⟩) (by first | (rw [add_block]; exact hn480_0) | (show (Addr.add _ _).block ≠ _; rw [add_block]; exact hn480_0) | exact hn480_0) (.int .i64 t476)).trans hx480_1; replace hx480_0 := (cell_far (p := ⟨gb479, 1, none⟩) (by first | (rw [add_block]; exact hn480_1) | (show (Addr.add _ _).block ≠ _; rw [add_block]; exact hn480_1) | exact hn480_1) (.int .i64 t477)).trans hx480_0; replace hx480_1 := (cell_far (p := ⟨gb479, 1, none⟩) (by first | (rw [add_block]; exact hn480_1) | (show (Addr.add _ _).block ≠ _; rw [add_block]; exact hn480_1) | exact hn480_1) (.int .i64 t477)).trans hx480_1; clear hn480_0; clear hn480_1; replace p480 := eq_true p480; replace q480 := eq_true q480))
                              have n0_ : Aside0 (((w28.setCell ⟨gb479, 0, none⟩ (.int .i64 t476)).setCell ⟨gb479, 1, none⟩ (.int .i64 t477)).heap[gb471]? = some (.cells #[.int .i64 a0_0, .int .i64 a0_1, .slice (some ad480) l0_2.length c0_2] 29 (0, 0))) := ⟨by (with_reducible repeat (first | refine blk_drewN ?_ _ | refine blk_drew ?_ | refine blk_alloc ?_ _)); refine blk_far ?_ NB471_479.out _; (with_reducible repeat (first | refine blk_drewN ?_ _ | refine blk_drew ?_ | refine blk_alloc ?_ _)); refine blk_far ?_ NB471_479.out _; (with_reducible repeat (first | refine blk_drewN ?_ _ | refine blk_drew ?_ | refine blk_alloc ?_ _)); exact BK471.out⟩
                              have n1_ : Aside0 (((w28.setCell ⟨gb479, 0, none⟩ (.int .i64 t476)).setCell ⟨gb479, 1, none⟩ (.int .i64 t477)).heap[gb479]? = some (.cells #[.int .i64 t476, .int .i64 t477] 40 (0, 0))) := ⟨by (with_reducible repeat (first | refine blk_drewN ?_ _ | refine blk_drew ?_ | refine blk_alloc ?_ _)); refine blk_put (cs := #[.int .i64 t476, .int .i64 0]) ?_ 1 _ rfl; (with_reducible repeat (first | refine blk_drewN ?_ _ | refine blk_drew ?_ | refine blk_alloc ?_ _)); refine blk_put (cs := #[.int .i64 0, .int .i64 0]) ?_ 0 _ rfl; (with_reducible repeat (first | refine blk_drewN ?_ _ | refine blk_drew ?_ | refine blk_alloc ?_ _)); exact BK479.out⟩
                              have n2_ : Aside0 (Below w.heap.size w ((w28.setCell ⟨gb479, 0, none⟩ (.int .i64 t476)).setCell ⟨gb479, 1, none⟩ (.int .i64 t477))) := ⟨hb2_ HB.out GE471.out GE479.out⟩
                              (try clear BK471)
                              (try clear BK479)
                              (try clear HB)
                              generalize ((w28.setCell ⟨gb479, 0, none⟩ (.int .i64 t476)).setCell ⟨gb479, 1, none⟩ (.int .i64 t477)) = w32 at n0_ n1_ n2_ ⊢
                              have BK471 := n0_
                              have BK479 := n1_
                              have HB := n2_
                              clear n0_ n1_ n2_
                              have n0_ := Aside0.mk (blk_drew BK471.out)
                              have n1_ := Aside0.mk (blk_drew BK479.out)
                              have n2_ := Aside0.mk (below_drew1 HB.out)
                              clear BK471
                              clear BK479
                              clear HB
                              have BK471 := n0_
                              have BK479 := n1_
                              have HB := n2_
                              clear n0_ n1_ n2_
                              refine start_ (n := 6) (S := fun w' => w'.cell? ⟨gb479, 0, none⟩ = some (.int .i64 t476) ∧ w'.cell? ⟨gb479, 1, none⟩ = some (.int .i64 t477)) (ds := []) #[false, false, false, false, false, false] (by kernel_rfl) rfl rfl ⟨(blk_cell BK479.out 0).trans rfl, (blk_cell BK479.out 1).trans rfl⟩ (fun hHeld => ?_)
                              generalize w32.drew = w33 at BK471 BK479 HB hHeld ⊢
                              refine pure_ (i := 0) (N := some 68) (v := ?_) (a' := ?_) #[true, false, false, false, false, false] rfl rfl (by kernel_rfl) (fun _ _ _ h => h) (Or.inl ⟨by rfl, ?_⟩) ?_ ?_
                              rotate_left
                              · intro w'
                                go_simp
                                with_reducible rfl
                              rotate_left
                              · simp only [Act.put, List.setIfInBounds_toArray, List.set_cons_zero, List.set_cons_succ, i64_w, i32_w]
                                rfl
                              refine pure_ (i := 1) (N := some 69) (v := ?_) (a' := ?_) #[true, true, false, false, false, false] rfl rfl (by kernel_rfl) (fun _ _ _ h => h) (Or.inl ⟨by rfl, ?_⟩) ?_ ?_
                              rotate_left
                              · intro w'
                                go_simp
                                with_reducible rfl
                              rotate_left
                              · simp only [Act.put, List.setIfInBounds_toArray, List.set_cons_zero, List.set_cons_succ, i64_w, i32_w]
                                rfl
                              refine pure_ (i := 3) (N := some 6) (v := ?_) (a' := ?_) #[true, true, false, true, false, false] rfl rfl (by kernel_rfl) (fun _ _ _ h => h) (Or.inl ⟨by rfl, ?_⟩) ?_ ?_
                              rotate_left
                              · intro w'
                                go_simp
                                with_reducible rfl
                              rotate_left
                              · simp only [Act.put, List.setIfInBounds_toArray, List.set_cons_zero, List.set_cons_succ, i64_w, i32_w]
                                rfl
                              refine take_ (i := 2) (N := some 70) (v := ?_) (a' := ?_) #[true, true, true, true, false, false] rfl rfl (by kernel_rfl) (fun _ _ _ h => h) (Or.inl ⟨by rfl, ?_⟩) hHeld ?_ ?_
                              rotate_left
                              · rintro w' ⟨s0, s1⟩
                                go_simp
                                with_reducible rfl
                              rotate_left
                              · simp only [Act.put, List.setIfInBounds_toArray, List.set_cons_zero, List.set_cons_succ, i64_w, i32_w]
                                rfl
                              refine pure_ (i := 4) (N := some 7) (v := ?_) (a' := ?_) #[true, true, true, true, true, false] rfl rfl (by kernel_rfl) (fun _ _ _ h => h) (Or.inl ⟨by rfl, ?_⟩) ?_ ?_
                              rotate_left
                              · intro w'
                                go_simp
                                with_reducible rfl
                              rotate_left
                              · simp only [Act.put, List.setIfInBounds_toArray, List.set_cons_zero, List.set_cons_succ, i64_w, i32_w]
                                rfl
                              refine pure_ (i := 5) (N := some 8) (v := ?_) (a' := ?_) #[true, true, true, true, true, true] rfl rfl (by kernel_rfl) (fun _ _ _ h => h) (Or.inl ⟨by rfl, ?_⟩) ?_ ?_
                              rotate_left
                              · intro w'
                                go_simp
                                with_reducible rfl
                              rotate_left
                              · simp only [Act.put, List.setIfInBounds_toArray, List.set_cons_zero, List.set_cons_succ, i64_w, i32_w]
                                rfl
                              refine done_ (by kernel_rfl) ?_
                              try go_wp2
                              go_ret3
                              exact ⟨er_, hb2_ HB.out GE471.out GE479.out⟩
                            · rw [if_neg c25] at H
                              have c25b0 : decide (a2 ≤ t476) = false := decide_eq_false c25
                              clear c25
                              have H' := Aside0.mk H
                              clear H
                              have hcz34_0 := bc_ BK471.out 0 (.int .i64 a0_0) rfl
                              have hcz34_1 := bc_ BK471.out 1 (.int .i64 a0_1) rfl
                              have hcz34_2 := bc_ BK471.out 2 (.slice A0_2 l0_2.length c0_2) rfl
                              have hfz34_0 := blk_frozen BK471.out 0
                              have hfz34_1 := blk_frozen BK471.out 1
                              have hfz34_2 := blk_frozen BK471.out 2
                              go_wp2_with (first | ((with_reducible refine gate_callee (f := 24) rfl ?_); refine goesL_ (some 48) rfl rfl Try.func24 (by kernel_rfl) rfl #[.agg #[.int .i64 a0_0, .int .i64 a0_1, .slice A0_2 l0_2.length c0_2], .int .i64 x11_3, .int .i64 x10_2] rfl arr_ ?_; (with_reducible refine (spec_Occurrence.calls k3 a0_0 a0_1 _ _ l0_2 x11_3 x10_2 t476 t477 true _ ?side1 ?side2 A21.out).mono ?_); (case side1 => exact kc_ (Kd.C_below HR0_2.out HB.out)); (case side2 => exact HC0_2.out); rintro e w35 ⟨rfl, hb⟩; refine ⟨_, rfl, ?_⟩; have n0_ := Aside0.mk (bb_ BK471.out hb); have n1_ := Aside0.mk (below_step (hb1_ HB.out GE471.out) hb); clear BK471; clear HB; have BK471 := n0_; have HB := n1_; clear n0_ n1_; (try clear hb); (try clear hb2); (try clear hk); (try clear hi)) | ((with_reducible refine gate_dst (N := 12) rfl ?_); refine box_event ?hg (N := 12) ?hd (cs := #[.int .i64 0, .int .i64 0]) (t := 40) ?hr ?_; (case hd => rfl); (case hg => rfl); (case hr => first | (go_simp; done) | (go_simp; rfl)); intro gb479 hg w36 hbox hb; have n0_ := Aside0.mk (bb_ BK471.out hb); have n1_ := Aside0.mk (below_step (hb1_ HB.out GE471.out) hb); have n2_ := Aside0.mk (hbox); have n3_ := Aside0.mk ((by rw [hg]; exact (below_size (hb1_ HB.out GE471.out)) : w.heap.size ≤ gb479)); have n4_ := Aside0.mk ((by rw [hg]; exact (below_size (hb1_ HB.out GE471.out)) : w.heap.size ≤ gb479)); have n5_ := Aside0.mk ((bl_ hg BK471.out : gb471 ≠ gb479)); have n6_ := Aside0.mk ((bg_ hg BK471.out : gb479 ≠ gb471)); clear BK471; clear HB; have BK471 := n0_; have HB := n1_; have BK479 := n2_; have GW479 := n3_; have GE479 := n4_; have NB471_479 := n5_; have NB479_471 := n6_; clear n0_ n1_ n2_ n3_ n4_ n5_ n6_; clear hb hbox hg; have hnb37 := NB479_471.out; have hnc37 := NB471_479.out; have hcz38_0 := bc_ BK479.out 0 (.int .i64 0) rfl; have hcz38_1 := bc_ BK479.out 1 (.int .i64 0) rfl; have hfz38_0 := blk_frozen BK479.out 0; have hfz38_1 := blk_frozen BK479.out 1; have hcz39_0 := bc_ BK471.out 0 (.int .i64 a0_0) rfl; have hcz39_1 := bc_ BK471.out 1 (.int .i64 a0_1) rfl; have hcz39_2 := bc_ BK471.out 2 (.slice A0_2 l0_2.length c0_2) rfl; have hfz39_0 := blk_frozen BK471.out 0; have hfz39_1 := blk_frozen BK471.out 1; have hfz39_2 := blk_frozen BK471.out 2; have p480 : 0 ≤ (x11_3 : Int) := of_decide_eq_true (by first | (with_reducible assumption) | assumption); have q480 : x11_3 < (l0_2.length : Int) := of_decide_eq_true (by first | (with_reducible assumption) | assumption); obtain ⟨ad480, e480, hx480_0, hx480_1⟩ := at_T60 HR0_2.out x11_3 p480 q480; cases e480; have hn480_0 : ad480.block ≠ gb479 := Nat.ne_of_lt (Nat.lt_of_lt_of_le (by have := World.block_lt_of_cell? _ _ hx480_0; first | rwa [add_block] at this | exact this) GW479.out); have hn480_1 : ad480.block ≠ gb479 := Nat.ne_of_lt (Nat.lt_of_lt_of_le (by have := World.block_lt_of_cell? _ _ hx480_0; first | rwa [add_block] at this | exact this) GW479.out); replace hx480_0 := (HB.out.cell (World.block_lt_of_cell? w _ hx480_0)).trans hx480_0; replace hx480_1 := (HB.out.cell (World.block_lt_of_cell? w _ hx480_1)).trans hx480_1; replace hx480_0 := (cell_far (p := ⟨gb479, 0, none⟩) (by first | (rw [add_block]; exact hn480_0) | (show (Addr.add _ _).block ≠ _; rw [add_block]; exact hn480_0) | exact hn480_0) (.int .i64 t476)).trans hx480_0; replace hx480_1 := (cell_far (p := ⟨gb479, 0, none⟩) (by first | (rw [add_block]; exact hn480_0) | (show (Addr.add _ _).block ≠ _; rw [add_block]; exact hn480_0) | exact hn480_0) (.int .i64 t476)).trans hx480_1; replace hx480_0 := (cell_far (p := ⟨gb479, 1, none⟩) (by first | (rw [add_block]; exact hn480_1) | (show (Addr.add _ _).block ≠ _; rw [add_block]; exact hn480_1) | exact hn480_1) (.int .i64 t477)).trans hx480_0; replace hx480_1 := (cell_far (p := ⟨gb479, 1, none⟩) (by first | (rw [add_block]; exact hn480_1) | (show (Addr.add _ _).block ≠ _; rw [add_block]; exact hn480_1) | exact hn480_1) (.int .i64 t477)).trans hx480_1; clear hn480_0; clear hn480_1; replace p480 := eq_true p480; replace q480 := eq_true q480))
                              go_roundg k3
                              case measure => have := HJ3.out; have := HK2.out; have := HK3.out; omega
                              case rel => exact ⟨(wrap64 (x11_3 + 1)), (by first | rfl | (simp; done) | (simp [*]; done)), H', ⟨by have := HJ3.out; have := HK2.out; have := HK3.out; omega⟩, ⟨by (with_reducible repeat (first | refine blk_drewN ?_ _ | refine blk_drew ?_ | refine blk_alloc ?_ _)); refine blk_far ?_ NB471_479.out _; (with_reducible repeat (first | refine blk_drewN ?_ _ | refine blk_drew ?_ | refine blk_alloc ?_ _)); refine blk_far ?_ NB471_479.out _; (with_reducible repeat (first | refine blk_drewN ?_ _ | refine blk_drew ?_ | refine blk_alloc ?_ _)); exact BK471.out⟩, ⟨hb2_ HB.out GE471.out GE479.out⟩⟩
                          · rw [if_neg c24] at H
                            have c24b0 : (((rd_T60 l0_2 x11_3).f0) == a1) = false := beq_eq_false_iff_ne.mpr c24
                            have c24b1 : (((rd_T60 l0_2 x11_3).f0) != a1) = true := bne_iff_ne.mpr c24
                            have H' := Aside0.mk H
                            clear H
                            have hcz40_0 := bc_ BK471.out 0 (.int .i64 a0_0) rfl
                            have hcz40_1 := bc_ BK471.out 1 (.int .i64 a0_1) rfl
                            have hcz40_2 := bc_ BK471.out 2 (.slice A0_2 l0_2.length c0_2) rfl
                            have hfz40_0 := blk_frozen BK471.out 0
                            have hfz40_1 := blk_frozen BK471.out 1
                            have hfz40_2 := blk_frozen BK471.out 2
                            go_wp2_with (first | ((with_reducible refine gate_callee (f := 24) rfl ?_); refine goesL_ (some 48) rfl rfl Try.func24 (by kernel_rfl) rfl #[.agg #[.int .i64 a0_0, .int .i64 a0_1, .slice A0_2 l0_2.length c0_2], .int .i64 x11_3, .int .i64 x10_2] rfl arr_ ?_; (with_reducible refine (spec_Occurrence.calls k3 a0_0 a0_1 _ _ l0_2 x11_3 x10_2 t476 t477 true _ ?side1 ?side2 A21.out).mono ?_); (case side1 => exact kc_ (Kd.C_below HR0_2.out HB.out)); (case side2 => exact HC0_2.out); rintro e w41 ⟨rfl, hb⟩; refine ⟨_, rfl, ?_⟩; have n0_ := Aside0.mk (bb_ BK471.out hb); have n1_ := Aside0.mk (below_step (hb1_ HB.out GE471.out) hb); clear BK471; clear HB; have BK471 := n0_; have HB := n1_; clear n0_ n1_; (try clear hb); (try clear hb2); (try clear hk); (try clear hi)) | ((with_reducible refine gate_dst (N := 12) rfl ?_); refine box_event ?hg (N := 12) ?hd (cs := #[.int .i64 0, .int .i64 0]) (t := 40) ?hr ?_; (case hd => rfl); (case hg => rfl); (case hr => first | (go_simp; done) | (go_simp; rfl)); intro gb479 hg w42 hbox hb; have n0_ := Aside0.mk (bb_ BK471.out hb); have n1_ := Aside0.mk (below_step (hb1_ HB.out GE471.out) hb); have n2_ := Aside0.mk (hbox); have n3_ := Aside0.mk ((by rw [hg]; exact (below_size (hb1_ HB.out GE471.out)) : w.heap.size ≤ gb479)); have n4_ := Aside0.mk ((by rw [hg]; exact (below_size (hb1_ HB.out GE471.out)) : w.heap.size ≤ gb479)); have n5_ := Aside0.mk ((bl_ hg BK471.out : gb471 ≠ gb479)); have n6_ := Aside0.mk ((bg_ hg BK471.out : gb479 ≠ gb471)); clear BK471; clear HB; have BK471 := n0_; have HB := n1_; have BK479 := n2_; have GW479 := n3_; have GE479 := n4_; have NB471_479 := n5_; have NB479_471 := n6_; clear n0_ n1_ n2_ n3_ n4_ n5_ n6_; clear hb hbox hg; have hnb43 := NB479_471.out; have hnc43 := NB471_479.out; have hcz44_0 := bc_ BK479.out 0 (.int .i64 0) rfl; have hcz44_1 := bc_ BK479.out 1 (.int .i64 0) rfl; have hfz44_0 := blk_frozen BK479.out 0; have hfz44_1 := blk_frozen BK479.out 1; have hcz45_0 := bc_ BK471.out 0 (.int .i64 a0_0) rfl; have hcz45_1 := bc_ BK471.out 1 (.int .i64 a0_1) rfl; have hcz45_2 := bc_ BK471.out 2 (.slice A0_2 l0_2.length c0_2) rfl; have hfz45_0 := blk_frozen BK471.out 0; have hfz45_1 := blk_frozen BK471.out 1; have hfz45_2 := blk_frozen BK471.out 2; have p480 : 0 ≤ (x11_3 : Int) := of_decide_eq_true (by first | (with_reducible assumption) | assumption); have q480 : x11_3 < (l0_2.length : Int) := of_decide_eq_true (by first | (with_reducible assumption) | assumption); obtain ⟨ad480, e480, hx480_0, hx480_1⟩ := at_T60 HR0_2.out x11_3 p480 q480; cases e480; have hn480_0 : ad480.block ≠ gb479 := Nat.ne_of_lt (Nat.lt_of_lt_of_le (by have := World.block_lt_of_cell? _ _ hx480_0; first | rwa [add_block] at this | exact this) GW479.out); have hn480_1 : ad480.block ≠ gb479 := Nat.ne_of_lt (Nat.lt_of_lt_of_le (by have := World.block_lt_of_cell? _ _ hx480_0; first | rwa [add_block] at this | exact this) GW479.out); replace hx480_0 := (HB.out.cell (World.block_lt_of_cell? w _ hx480_0)).trans hx480_0; replace hx480_1 := (HB.out.cell (World.block_lt_of_cell? w _ hx480_1)).trans hx480_1; replace hx480_0 := (cell_far (p := ⟨gb479, 0, none⟩) (by first | (rw [add_block]; exact hn480_0) | (show (Addr.add _ _).block ≠ _; rw [add_block]; exact hn480_0) | exact hn480_0) (.int .i64 t476)).trans hx480_0; replace hx480_1 := (cell_far (p := ⟨gb479, 0, none⟩) (by first | (rw [add_block]; exact hn480_0) | (show (Addr.add _ _).block ≠ _; rw [add_block]; exact hn480_0) | exact hn480_0) (.int .i64 t476)).trans hx480_1; replace hx480_0 := (cell_far (p := ⟨gb479, 1, none⟩) (by first | (rw [add_block]; exact hn480_1) | (show (Addr.add _ _).block ≠ _; rw [add_block]; exact hn480_1) | exact hn480_1) (.int .i64 t477)).trans hx480_0; replace hx480_1 := (cell_far (p := ⟨gb479, 1, none⟩) (by first | (rw [add_block]; exact hn480_1) | (show (Addr.add _ _).block ≠ _; rw [add_block]; exact hn480_1) | exact hn480_1) (.int .i64 t477)).trans hx480_1; clear hn480_0; clear hn480_1; replace p480 := eq_true p480; replace q480 := eq_true q480))
                            go_roundg k3
                            case measure => have := HJ3.out; have := HK2.out; have := HK3.out; omega
                            case rel => exact ⟨(wrap64 (x11_3 + 1)), (by first | rfl | (simp; done) | (simp [*]; done)), H', ⟨by have := HJ3.out; have := HK2.out; have := HK3.out; omega⟩, ⟨by (with_reducible repeat (first | refine blk_drewN ?_ _ | refine blk_drew ?_ | refine blk_alloc ?_ _)); refine blk_far ?_ NB471_479.out _; (with_reducible repeat (first | refine blk_drewN ?_ _ | refine blk_drew ?_ | refine blk_alloc ?_ _)); refine blk_far ?_ NB471_479.out _; (with_reducible repeat (first | refine blk_drewN ?_ _ | refine blk_drew ?_ | refine blk_alloc ?_ _)); exact BK471.out⟩, ⟨hb2_ HB.out GE471.out GE479.out⟩⟩
                        · rw [if_neg c23] at H
                          exact absurd H (by simp)
                      · replace c22 := Bool.eq_false_iff.mpr c22
                        subst c22
                        have H1 : (spec_NextOwn.l1 k3 a1 a2 t475 x10_2 (wrap64 (x11_3 + 1)) a0_0 a0_1 l0_2) = some (r1, r2, r3) := by rw [if_neg (show ¬ (false = true) by decide)] at H; exact H
                        clear H
                        have H := H1
                        clear H1
                        have H' := Aside0.mk H
                        clear H
                        have hcz46_0 := bc_ BK471.out 0 (.int .i64 a0_0) rfl
                        have hcz46_1 := bc_ BK471.out 1 (.int .i64 a0_1) rfl
                        have hcz46_2 := bc_ BK471.out 2 (.slice A0_2 l0_2.length c0_2) rfl
                        have hfz46_0 := blk_frozen BK471.out 0
                        have hfz46_1 := blk_frozen BK471.out 1
                        have hfz46_2 := blk_frozen BK471.out 2
                        go_wp2_with (first | ((with_reducible refine gate_callee (f := 24) rfl ?_); refine goesL_ (some 48) rfl rfl Try.func24 (by kernel_rfl) rfl #[.agg #[.int .i64 a0_0, .int .i64 a0_1, .slice A0_2 l0_2.length c0_2], .int .i64 x11_3, .int .i64 x10_2] rfl arr_ ?_; (with_reducible refine (spec_Occurrence.calls k3 a0_0 a0_1 _ _ l0_2 x11_3 x10_2 t476 t477 false _ ?side1 ?side2 A21.out).mono ?_); (case side1 => exact kc_ (Kd.C_below HR0_2.out HB.out)); (case side2 => exact HC0_2.out); rintro e w47 ⟨rfl, hb⟩; refine ⟨_, rfl, ?_⟩; have n0_ := Aside0.mk (bb_ BK471.out hb); have n1_ := Aside0.mk (below_step (hb1_ HB.out GE471.out) hb); clear BK471; clear HB; have BK471 := n0_; have HB := n1_; clear n0_ n1_; (try clear hb); (try clear hb2); (try clear hk); (try clear hi)) | ((with_reducible refine gate_dst (N := 12) rfl ?_); refine box_event ?hg (N := 12) ?hd (cs := #[.int .i64 0, .int .i64 0]) (t := 40) ?hr ?_; (case hd => rfl); (case hg => rfl); (case hr => first | (go_simp; done) | (go_simp; rfl)); intro gb479 hg w48 hbox hb; have n0_ := Aside0.mk (bb_ BK471.out hb); have n1_ := Aside0.mk (below_step (hb1_ HB.out GE471.out) hb); have n2_ := Aside0.mk (hbox); have n3_ := Aside0.mk ((by rw [hg]; exact (below_size (hb1_ HB.out GE471.out)) : w.heap.size ≤ gb479)); have n4_ := Aside0.mk ((by rw [hg]; exact (below_size (hb1_ HB.out GE471.out)) : w.heap.size ≤ gb479)); have n5_ := Aside0.mk ((bl_ hg BK471.out : gb471 ≠ gb479)); have n6_ := Aside0.mk ((bg_ hg BK471.out : gb479 ≠ gb471)); clear BK471; clear HB; have BK471 := n0_; have HB := n1_; have BK479 := n2_; have GW479 := n3_; have GE479 := n4_; have NB471_479 := n5_; have NB479_471 := n6_; clear n0_ n1_ n2_ n3_ n4_ n5_ n6_; clear hb hbox hg; have hnb49 := NB479_471.out; have hnc49 := NB471_479.out; have hcz50_0 := bc_ BK479.out 0 (.int .i64 0) rfl; have hcz50_1 := bc_ BK479.out 1 (.int .i64 0) rfl; have hfz50_0 := blk_frozen BK479.out 0; have hfz50_1 := blk_frozen BK479.out 1))
                        go_roundg k3
                        case measure => have := HJ3.out; have := HK2.out; have := HK3.out; omega
                        case rel => exact ⟨(wrap64 (x11_3 + 1)), (by first | rfl | (simp; done) | (simp [*]; done)), H', ⟨by have := HJ3.out; have := HK2.out; have := HK3.out; omega⟩, ⟨by (with_reducible repeat (first | refine blk_drewN ?_ _ | refine blk_drew ?_ | refine blk_alloc ?_ _)); refine blk_far ?_ NB471_479.out _; (with_reducible repeat (first | refine blk_drewN ?_ _ | refine blk_drew ?_ | refine blk_alloc ?_ _)); refine blk_far ?_ NB471_479.out _; (with_reducible repeat (first | refine blk_drewN ?_ _ | refine blk_drew ?_ | refine blk_alloc ?_ _)); exact BK471.out⟩, ⟨hb2_ HB.out GE471.out GE479.out⟩⟩
                    · rw [if_neg c20] at H
                      have c20b0 : decide (x11_3 < (l0_2.length : Int)) = false := decide_eq_false c20
                      clear c20
                      have H' := Aside0.mk H
                      clear H
                      have hcz51_0 := bc_ BK471.out 0 (.int .i64 a0_0) rfl
                      have hcz51_1 := bc_ BK471.out 1 (.int .i64 a0_1) rfl
                      have hcz51_2 := bc_ BK471.out 2 (.slice A0_2 l0_2.length c0_2) rfl
                      have hfz51_0 := blk_frozen BK471.out 0
                      have hfz51_1 := blk_frozen BK471.out 1
                      have hfz51_2 := blk_frozen BK471.out 2
                      go_wp2
                      go_roundg k3
                      case measure => have := HJ3.out; have := HK2.out; have := HK3.out; omega
                      case rel => exact ⟨(wrap64 (x10_2 + 1)), (by first | rfl | (simp; done) | (simp [*]; done)), H', ⟨by have := HJ3.out; have := HK2.out; have := HK3.out; omega⟩, ⟨bk_ BK471.out⟩, ⟨hb1_ HB.out GE471.out⟩⟩
              · rw [if_neg c19] at H
                have c19b0 : decide (x10_2 ≤ (wrap64 (t475 + 1))) = false := decide_eq_false c19
                clear c19
                simp only [Option.some.injEq, Prod.mk.injEq] at H
                obtain ⟨rfl, rfl, rfl⟩ := H
                go_wp2
                go_ret3
                exact ⟨er_, hb1_ HB.out GE471.out⟩
end Go.Proofs.Ytakcaiigkdglhaa.P

