/- Texts of the seat's proofs, part 8: functions of the program told as plain functions, with their contracts, and what is shown of them. No condition. -/
import Derived.Test.YtakcaiigkdglhaaU
import Derived.Test.YtakcaiigkdglhaaM1
import Derived.Test.YtakcaiigkdglhaaM5
import Derived.Test.YtakcaiigkdglhaaM6
import Derived.Test.YtakcaiigkdglhaaM2
import Derived.Test.YtakcaiigkdglhaaM4
set_option linter.unusedVariables false
set_option linter.unusedSimpArgs false
namespace Go.Proofs.Ytakcaiigkdglhaa.P
open Go.RowKit Go.Proofs.YtakcaiigkdglhaaW.PrintWords Go.Proofs.YtakcaiigkdglhaaW.PrintLast Go.Proofs.YtakcaiigkdglhaaW.PrintMore
attribute [local go_sem] max2_int min2_int max_two min_two max_three min_three max_four min_four
set_option linter.unusedVariables false
set_option linter.unusedSimpArgs false
def laws_FnExactNextOwn.j0 : Nat → Bool → Int → Int → List (S88) → Int → Int → List (S60) → Option (Bool)
  | 0, _, _, _, _, _, _, _ => none
  | k + 1, x51, x492000, x492001, x492002, x507000, x507001, x507002 => if x51 = true then (some false) else ((laws_toPlan.f k x492000 x492001 x492002).bind fun bt510 => ((laws_eqPlan.f k x507000 x507001 x507002 bt510.1 bt510.2.1 bt510.2.2).bind fun t515 => (if t515 = true then (some true) else (some false))))
def laws_FnExactNextOwn.f (k : Nat) (a0_0 : Int) (a0_1 : Int) (l0_2 : List (S88)) (a1 : Int) (a2 : Int) : Option (Bool) := (laws_szPlan.f a0_0 a0_1 l0_2 1048576).bind fun t492 => (if t492 < 0 then (some true) else ((laws_toPlan.f k a0_0 a0_1 l0_2).bind fun bt493 => ((spec_NextOwn.f k bt493.1 bt493.2.1 bt493.2.2 a1 a2).bind fun bt498 => ((laws_toPlan.f k a0_0 a0_1 l0_2).bind fun bt501 => ((impl_NextOwn.f k bt501.1 bt501.2.1 bt501.2.2 a1 a2).bind fun bt507 => (if bt507.1 = bt498.1 then (if bt507.2.1 = bt498.2.1 then (laws_FnExactNextOwn.j0 k (bt507.2.2 != bt498.2.2) a0_0 a0_1 l0_2 bt501.1 bt501.2.1 bt501.2.2) else (laws_FnExactNextOwn.j0 k true a0_0 a0_1 l0_2 bt501.1 bt501.2.1 bt501.2.2)) else (laws_FnExactNextOwn.j0 k true a0_0 a0_1 l0_2 bt501.1 bt501.2.1 bt501.2.2)))))))
theorem laws_FnExactNextOwn.mono_l : ∀ k, (∀ y0 y1 y2 y3 y4 y5 y6, LeO (laws_FnExactNextOwn.j0 k y0 y1 y2 y3 y4 y5 y6) (laws_FnExactNextOwn.j0 (k + 1) y0 y1 y2 y3 y4 y5 y6))
  | 0 => fun _ _ _ _ _ _ _ r h => by simp [laws_FnExactNextOwn.j0] at h
  | k + 1 => by
    have ih0 := laws_FnExactNextOwn.mono_l k
    · intro y0 y1 y2 y3 y4 y5 y6
      unfold laws_FnExactNextOwn.j0
      repeat' first
      | (with_reducible exact ih0 _ _ _ _ _ _ _)
      | (with_reducible exact impl_NextOwn.mono _ _ _ _ _ _)
      | (with_reducible exact laws_eqPlan.mono _ _ _ _ _ _ _)
      | (with_reducible exact laws_toPlan.mono _ _ _ _)
      | (with_reducible exact spec_NextOwn.mono _ _ _ _ _ _)
      | (with_reducible exact LeO.refl _)
      | (with_reducible exact LeO.none _)
      | (with_reducible refine LeO.ite ?_ ?_)
      | (with_reducible refine LeO.bind ?_ (fun _ => ?_))
      | exact ih0 _ _ _ _ _ _ _
      | exact impl_NextOwn.mono _ _ _ _ _ _
      | exact laws_eqPlan.mono _ _ _ _ _ _ _
      | exact laws_toPlan.mono _ _ _ _
      | exact spec_NextOwn.mono _ _ _ _ _ _
      | exact LeO.none _
      | refine LeO.ite ?_ ?_
      | refine LeO.bind ?_ (fun _ => ?_)
theorem laws_FnExactNextOwn.mono : ∀ a0 a1 a2 a3 a4 k, LeO (laws_FnExactNextOwn.f k a0 a1 a2 a3 a4) (laws_FnExactNextOwn.f (k + 1) a0 a1 a2 a3 a4) := by
  intro a0 a1 a2 a3 a4 k
  have ih0 := laws_FnExactNextOwn.mono_l k
  unfold laws_FnExactNextOwn.f
  repeat' first
      | (with_reducible exact ih0 _ _ _ _ _ _ _)
      | (with_reducible exact impl_NextOwn.mono _ _ _ _ _ _)
      | (with_reducible exact laws_eqPlan.mono _ _ _ _ _ _ _)
      | (with_reducible exact laws_toPlan.mono _ _ _ _)
      | (with_reducible exact spec_NextOwn.mono _ _ _ _ _ _)
      | (with_reducible exact LeO.refl _)
      | (with_reducible exact LeO.none _)
      | (with_reducible refine LeO.ite ?_ ?_)
      | (with_reducible refine LeO.bind ?_ (fun _ => ?_))
      | exact ih0 _ _ _ _ _ _ _
      | exact impl_NextOwn.mono _ _ _ _ _ _
      | exact laws_eqPlan.mono _ _ _ _ _ _ _
      | exact laws_toPlan.mono _ _ _ _
      | exact spec_NextOwn.mono _ _ _ _ _ _
      | exact LeO.none _
      | refine LeO.ite ?_ ?_
      | refine LeO.bind ?_ (fun _ => ?_)
set_option maxHeartbeats 8000000 in
set_option maxRecDepth 100000 in
theorem laws_FnExactNextOwn.calls (k : Nat) (a0_0 : Int) (a0_1 : Int) (A0_2 : Option Addr) (c0_2 : Nat) (l0_2 : List (S88)) (a1 : Int) (a2 : Int) (r : Bool) (w : World) (hr0_2 : Kd.C k88 w A0_2 l0_2.length l0_2) (hc0_2 : l0_2.length ≤ c0_2) (hr_ : r = true) (h : laws_FnExactNextOwn.f k a0_0 a0_1 l0_2 a1 a2 = some r) :
    Calls Try.prog 9 #[.agg #[.int .i64 a0_0, .int .i64 a0_1, .slice A0_2 l0_2.length c0_2], .int .i64 a1, .int .i64 a2] w fun e w' => e = .returned (.bool r) ∧ Below w.heap.size w w' := by
  have hu24 := Try.underlying24
  have hu29 := Try.underlying29
  have HR0_2 := Aside0.mk hr0_2
  have HC0_2 := Aside0.mk hc0_2
  clear hr0_2 hc0_2
  have HB := Aside0.mk (Below.refl w.heap.size w)
  have H : ((laws_szPlan.f a0_0 a0_1 l0_2 1048576).bind fun t492 => (if t492 < 0 then (some true) else ((laws_toPlan.f k a0_0 a0_1 l0_2).bind fun bt493 => ((spec_NextOwn.f k bt493.1 bt493.2.1 bt493.2.2 a1 a2).bind fun bt498 => ((laws_toPlan.f k a0_0 a0_1 l0_2).bind fun bt501 => ((impl_NextOwn.f k bt501.1 bt501.2.1 bt501.2.2 a1 a2).bind fun bt507 => (if bt507.1 = bt498.1 then (if bt507.2.1 = bt498.2.1 then (laws_FnExactNextOwn.j0 k (bt507.2.2 != bt498.2.2) a0_0 a0_1 l0_2 bt501.1 bt501.2.1 bt501.2.2) else (laws_FnExactNextOwn.j0 k true a0_0 a0_1 l0_2 bt501.1 bt501.2.1 bt501.2.2)) else (laws_FnExactNextOwn.j0 k true a0_0 a0_1 l0_2 bt501.1 bt501.2.1 bt501.2.2)))))))) = some r := h
  clear h
  replace H := Option.bind_eq_some_iff.mp H
  obtain ⟨t492, A40, H⟩ := H
  replace H : (if t492 < 0 then (some true) else ((laws_toPlan.f k a0_0 a0_1 l0_2).bind fun bt493 => ((spec_NextOwn.f k bt493.1 bt493.2.1 bt493.2.2 a1 a2).bind fun bt498 => ((laws_toPlan.f k a0_0 a0_1 l0_2).bind fun bt501 => ((impl_NextOwn.f k bt501.1 bt501.2.1 bt501.2.2 a1 a2).bind fun bt507 => (if bt507.1 = bt498.1 then (if bt507.2.1 = bt498.2.1 then (laws_FnExactNextOwn.j0 k (bt507.2.2 != bt498.2.2) a0_0 a0_1 l0_2 bt501.1 bt501.2.1 bt501.2.2) else (laws_FnExactNextOwn.j0 k true a0_0 a0_1 l0_2 bt501.1 bt501.2.1 bt501.2.2)) else (laws_FnExactNextOwn.j0 k true a0_0 a0_1 l0_2 bt501.1 bt501.2.1 bt501.2.2))))))) = some r := H
  have A4 := Aside0.mk A40
  clear A40
  by_cases c5 : t492 < 0
  · rw [if_pos c5] at H
    have c5b0 : decide (t492 < 0) = true := decide_eq_true c5
    clear c5
    obtain rfl := Option.some.inj H
    go_enter Try.func9, Try.ntmps9
    go_wp2_with (first | ((with_reducible refine gate_dst (N := 3) rfl ?_); refine box_event ?hg (N := 3) ?hd (cs := #[.int .i64 a0_0, .int .i64 a0_1, .slice A0_2 l0_2.length c0_2]) (t := 24) ?hr ?_; (case hd => rfl); (case hg => rfl); (case hr => first | (go_simp; done) | (go_simp; rfl)); intro gb491 hg w6 hbox hb; have n0_ := Aside0.mk (below_step (hb_ HB.out) hb); have n1_ := Aside0.mk (hbox); have n2_ := Aside0.mk ((by rw [hg]; exact (below_size (hb_ HB.out)) : w.heap.size ≤ gb491)); have n3_ := Aside0.mk ((by rw [hg]; exact (below_size (hb_ HB.out)) : w.heap.size ≤ gb491)); clear HB; have HB := n0_; have BK491 := n1_; have GW491 := n2_; have GE491 := n3_; clear n0_ n1_ n2_ n3_; clear hb hbox hg; have hcz7_0 := bc_ BK491.out 0 (.int .i64 a0_0) rfl; have hcz7_1 := bc_ BK491.out 1 (.int .i64 a0_1) rfl; have hcz7_2 := bc_ BK491.out 2 (.slice A0_2 l0_2.length c0_2) rfl; have hfz7_0 := blk_frozen BK491.out 0; have hfz7_1 := blk_frozen BK491.out 1; have hfz7_2 := blk_frozen BK491.out 2) | ((with_reducible refine gate_callee (f := 13) rfl ?_); refine goesL_ (some 17) rfl rfl Try.func13 (by kernel_rfl) rfl #[.agg #[.int .i64 a0_0, .int .i64 a0_1, .slice A0_2 l0_2.length c0_2], .int .i64 1048576] rfl arr_ ?_; (with_reducible refine (laws_szPlan.calls a0_0 a0_1 _ _ l0_2 1048576 t492 _ ?side1 ?side2 A4.out).mono ?_); (case side1 => exact kc_ (Kd.C_below HR0_2.out HB.out)); (case side2 => exact HC0_2.out); rintro e w8 ⟨rfl, hb⟩; refine ⟨_, rfl, ?_⟩; have n0_ := Aside0.mk (bb_ BK491.out hb); have n1_ := Aside0.mk (below_step (hb1_ HB.out GE491.out) hb); clear BK491; clear HB; have BK491 := n0_; have HB := n1_; clear n0_ n1_; (try clear hb); (try clear hb2); (try clear hk); (try clear hi)))
    go_ret
    exact ⟨er_, hb1_ HB.out GE491.out⟩
  · rw [if_neg c5] at H
    have c5b0 : decide (t492 < 0) = false := decide_eq_false c5
    clear c5
    replace H := Option.bind_eq_some_iff.mp H
    obtain ⟨⟨t493, t494, t495⟩, A90, H⟩ := H
    replace H : ((spec_NextOwn.f k t493 t494 t495 a1 a2).bind fun bt498 => ((laws_toPlan.f k a0_0 a0_1 l0_2).bind fun bt501 => ((impl_NextOwn.f k bt501.1 bt501.2.1 bt501.2.2 a1 a2).bind fun bt507 => (if bt507.1 = bt498.1 then (if bt507.2.1 = bt498.2.1 then (laws_FnExactNextOwn.j0 k (bt507.2.2 != bt498.2.2) a0_0 a0_1 l0_2 bt501.1 bt501.2.1 bt501.2.2) else (laws_FnExactNextOwn.j0 k true a0_0 a0_1 l0_2 bt501.1 bt501.2.1 bt501.2.2)) else (laws_FnExactNextOwn.j0 k true a0_0 a0_1 l0_2 bt501.1 bt501.2.1 bt501.2.2))))) = some r := H
    have A9 := Aside0.mk A90
    clear A90
    replace H := Option.bind_eq_some_iff.mp H
    obtain ⟨⟨t498, t499, t500⟩, A100, H⟩ := H
    replace H : ((laws_toPlan.f k a0_0 a0_1 l0_2).bind fun bt501 => ((impl_NextOwn.f k bt501.1 bt501.2.1 bt501.2.2 a1 a2).bind fun bt507 => (if bt507.1 = t498 then (if bt507.2.1 = t499 then (laws_FnExactNextOwn.j0 k (bt507.2.2 != t500) a0_0 a0_1 l0_2 bt501.1 bt501.2.1 bt501.2.2) else (laws_FnExactNextOwn.j0 k true a0_0 a0_1 l0_2 bt501.1 bt501.2.1 bt501.2.2)) else (laws_FnExactNextOwn.j0 k true a0_0 a0_1 l0_2 bt501.1 bt501.2.1 bt501.2.2)))) = some r := H
    have A10 := Aside0.mk A100
    clear A100
    replace H := Option.bind_eq_some_iff.mp H
    obtain ⟨⟨t501, t502, t503⟩, A110, H⟩ := H
    replace H : ((impl_NextOwn.f k t501 t502 t503 a1 a2).bind fun bt507 => (if bt507.1 = t498 then (if bt507.2.1 = t499 then (laws_FnExactNextOwn.j0 k (bt507.2.2 != t500) a0_0 a0_1 l0_2 t501 t502 t503) else (laws_FnExactNextOwn.j0 k true a0_0 a0_1 l0_2 t501 t502 t503)) else (laws_FnExactNextOwn.j0 k true a0_0 a0_1 l0_2 t501 t502 t503))) = some r := H
    have A11 := Aside0.mk A110
    clear A110
    replace H := Option.bind_eq_some_iff.mp H
    obtain ⟨⟨t507, t508, t509⟩, A120, H⟩ := H
    replace H : (if t507 = t498 then (if t508 = t499 then (laws_FnExactNextOwn.j0 k (t509 != t500) a0_0 a0_1 l0_2 t501 t502 t503) else (laws_FnExactNextOwn.j0 k true a0_0 a0_1 l0_2 t501 t502 t503)) else (laws_FnExactNextOwn.j0 k true a0_0 a0_1 l0_2 t501 t502 t503)) = some r := H
    have A12 := Aside0.mk A120
    clear A120
    have HC13 := Aside0.mk H
    clear H
    go_enter Try.func9, Try.ntmps9
    go_upto_region 8 with (first | ((with_reducible refine gate_dst (N := 3) rfl ?_); refine box_event ?hg (N := 3) ?hd (cs := #[.int .i64 a0_0, .int .i64 a0_1, .slice A0_2 l0_2.length c0_2]) (t := 24) ?hr ?_; (case hd => rfl); (case hg => rfl); (case hr => first | (go_simp; done) | (go_simp; rfl)); intro gb491 hg w14 hbox hb; have n0_ := Aside0.mk (below_step (hb_ HB.out) hb); have n1_ := Aside0.mk (hbox); have n2_ := Aside0.mk ((by rw [hg]; exact (below_size (hb_ HB.out)) : w.heap.size ≤ gb491)); have n3_ := Aside0.mk ((by rw [hg]; exact (below_size (hb_ HB.out)) : w.heap.size ≤ gb491)); clear HB; have HB := n0_; have BK491 := n1_; have GW491 := n2_; have GE491 := n3_; clear n0_ n1_ n2_ n3_; clear hb hbox hg; have hcz15_0 := bc_ BK491.out 0 (.int .i64 a0_0) rfl; have hcz15_1 := bc_ BK491.out 1 (.int .i64 a0_1) rfl; have hcz15_2 := bc_ BK491.out 2 (.slice A0_2 l0_2.length c0_2) rfl; have hfz15_0 := blk_frozen BK491.out 0; have hfz15_1 := blk_frozen BK491.out 1; have hfz15_2 := blk_frozen BK491.out 2) | ((with_reducible refine gate_callee (f := 13) rfl ?_); refine goesL_ (some 17) rfl rfl Try.func13 (by kernel_rfl) rfl #[.agg #[.int .i64 a0_0, .int .i64 a0_1, .slice A0_2 l0_2.length c0_2], .int .i64 1048576] rfl arr_ ?_; (with_reducible refine (laws_szPlan.calls a0_0 a0_1 _ _ l0_2 1048576 t492 _ ?side1 ?side2 A4.out).mono ?_); (case side1 => exact kc_ (Kd.C_below HR0_2.out HB.out)); (case side2 => exact HC0_2.out); rintro e w16 ⟨rfl, hb⟩; refine ⟨_, rfl, ?_⟩; have n0_ := Aside0.mk (bb_ BK491.out hb); have n1_ := Aside0.mk (below_step (hb1_ HB.out GE491.out) hb); clear BK491; clear HB; have BK491 := n0_; have HB := n1_; clear n0_ n1_; (try clear hb); (try clear hb2); (try clear hk); (try clear hi); have hcz17_0 := bc_ BK491.out 0 (.int .i64 a0_0) rfl; have hcz17_1 := bc_ BK491.out 1 (.int .i64 a0_1) rfl; have hcz17_2 := bc_ BK491.out 2 (.slice A0_2 l0_2.length c0_2) rfl; have hfz17_0 := blk_frozen BK491.out 0; have hfz17_1 := blk_frozen BK491.out 1; have hfz17_2 := blk_frozen BK491.out 2) | ((with_reducible refine gate_callee (f := 15) rfl ?_); refine goesL_ (some 22) rfl rfl Try.func15 (by kernel_rfl) rfl #[.agg #[.int .i64 a0_0, .int .i64 a0_1, .slice A0_2 l0_2.length c0_2]] rfl arr_ ?_; (with_reducible refine (laws_toPlan.calls k a0_0 a0_1 _ _ l0_2 t493 t494 t495 _ ?side1 ?side2 A9.out).mono ?_); (case side1 => exact kc_ (Kd.C_below HR0_2.out HB.out)); (case side2 => exact HC0_2.out); rintro e w18 ⟨v496, rfl, ho0, hb⟩; refine ⟨_, rfl, ?_⟩; have n0_ := Aside0.mk (Kd.R_lower ho0 (below_size (hb1_ HB.out GE491.out))); have n1_ := Aside0.mk (bb_ BK491.out hb); have n2_ := Aside0.mk (below_step (hb1_ HB.out GE491.out) hb); clear BK491; clear HB; have HO497 := n0_; have BK491 := n1_; have HB := n2_; clear n0_ n1_ n2_; (try clear hb); (try clear hb2); (try clear hk); (try clear hi); (try clear ho0); obtain ⟨Ao19, co19, eo19⟩ := Kd.R_slice HO497.out; subst eo19) | ((with_reducible refine gate_callee (f := 31) rfl ?_); refine goesL_ (some 25) rfl rfl Try.func31 (by kernel_rfl) rfl #[.agg #[.int .i64 t493, .int .i64 t494, .slice Ao19 t495.length co19], .int .i64 a1, .int .i64 a2] rfl arr_ ?_; (with_reducible refine (spec_NextOwn.calls k t493 t494 _ _ t495 a1 a2 t498 t499 t500 _ ?side1 ?side2 A10.out).mono ?_); (case side1 => repeat (first | exact (Kd.R_reads' HO497.out).2.2 | (with_reducible refine Kd.C_alloc ?_ _) | (with_reducible refine Kd.C_drewN ?_ _) | (with_reducible refine Kd.C_drew ?_))); (case side2 => exact (Kd.R_reads' HO497.out).2.1); rintro e w20 ⟨rfl, hb⟩; refine ⟨_, rfl, ?_⟩; have n0_ := Aside0.mk (Kd.R_below (by (with_reducible repeat (first | apply Kd.R_alloc | apply Kd.R_drewN | apply Kd.R_drew)); exact HO497.out) hb); have n1_ := Aside0.mk (bb_ BK491.out hb); have n2_ := Aside0.mk (below_step (hb1_ HB.out GE491.out) hb); clear HO497; clear BK491; clear HB; have HO497 := n0_; have BK491 := n1_; have HB := n2_; clear n0_ n1_ n2_; (try clear hb); (try clear hb2); (try clear hk); (try clear hi); have hcz21_0 := bc_ BK491.out 0 (.int .i64 a0_0) rfl; have hcz21_1 := bc_ BK491.out 1 (.int .i64 a0_1) rfl; have hcz21_2 := bc_ BK491.out 2 (.slice A0_2 l0_2.length c0_2) rfl; have hfz21_0 := blk_frozen BK491.out 0; have hfz21_1 := blk_frozen BK491.out 1; have hfz21_2 := blk_frozen BK491.out 2) | ((with_reducible refine gate_callee (f := 15) rfl ?_); refine goesL_ (some 30) rfl rfl Try.func15 (by kernel_rfl) rfl #[.agg #[.int .i64 a0_0, .int .i64 a0_1, .slice A0_2 l0_2.length c0_2]] rfl arr_ ?_; (with_reducible refine (laws_toPlan.calls k a0_0 a0_1 _ _ l0_2 t501 t502 t503 _ ?side1 ?side2 A11.out).mono ?_); (case side1 => exact kc_ (Kd.C_below HR0_2.out HB.out)); (case side2 => exact HC0_2.out); rintro e w22 ⟨v504, rfl, ho0, hb⟩; refine ⟨_, rfl, ?_⟩; have n0_ := Aside0.mk (Kd.R_elder' (by (with_reducible repeat (first | apply Kd.R_alloc | apply Kd.R_drewN | apply Kd.R_drew)); exact HO497.out) (Kd.R_base ho0) hb); have n1_ := Aside0.mk (Kd.R_lower (Kd.R_new' ho0 (Kd.R_lt (by (with_reducible repeat (first | apply Kd.R_alloc | apply Kd.R_drewN | apply Kd.R_drew)); exact HO497.out))) (below_size (hb1_ HB.out GE491.out))); have n2_ := Aside0.mk (bb_ BK491.out hb); have n3_ := Aside0.mk (below_step (hb1_ HB.out GE491.out) hb); clear HO497; clear BK491; clear HB; have HO497 := n0_; have HO505 := n1_; have BK491 := n2_; have HB := n3_; clear n0_ n1_ n2_ n3_; (try clear hb); (try clear hb2); (try clear hk); (try clear hi); (try clear ho0)) | ((with_reducible refine gate_dst (N := 11) rfl ?_); refine box_event ?hg (N := 11) ?hd (cs := #[.int .i64 0, .int .i64 0, .slice none 0 0]) (t := 29) ?hr ?_; (case hd => rfl); (case hg => rfl); (case hr => first | (go_simp; done) | (go_simp; rfl)); intro gb506 hg w23 hbox hb; have n0_ := Aside0.mk (Kd.R_below (by (with_reducible repeat (first | apply Kd.R_alloc | apply Kd.R_drewN | apply Kd.R_drew)); exact HO497.out) hb); have n1_ := Aside0.mk (Kd.R_below (by (with_reducible repeat (first | apply Kd.R_alloc | apply Kd.R_drewN | apply Kd.R_drew)); exact HO505.out) hb); have n2_ := Aside0.mk (bb_ BK491.out hb); have n3_ := Aside0.mk (below_step (hb1_ HB.out GE491.out) hb); have n4_ := Aside0.mk (hbox); have n5_ := Aside0.mk ((by rw [hg]; exact (below_size (hb1_ HB.out GE491.out)) : w.heap.size ≤ gb506)); have n6_ := Aside0.mk ((by rw [hg]; exact (below_size (hb1_ HB.out GE491.out)) : w.heap.size ≤ gb506)); have n7_ := Aside0.mk ((bl_ hg BK491.out : gb491 ≠ gb506)); have n8_ := Aside0.mk ((bg_ hg BK491.out : gb506 ≠ gb491)); clear HO497; clear HO505; clear BK491; clear HB; have HO497 := n0_; have HO505 := n1_; have BK491 := n2_; have HB := n3_; have BK506 := n4_; have GW506 := n5_; have GE506 := n6_; have NB491_506 := n7_; have NB506_491 := n8_; clear n0_ n1_ n2_ n3_ n4_ n5_ n6_ n7_ n8_; clear hb hbox hg; have hnb24 := NB506_491.out; have hnc24 := NB491_506.out; have hcz25_0 := bc_ BK506.out 0 (.int .i64 0) rfl; have hcz25_1 := bc_ BK506.out 1 (.int .i64 0) rfl; have hcz25_2 := bc_ BK506.out 2 (.slice none 0 0) rfl; have hfz25_0 := blk_frozen BK506.out 0; have hfz25_1 := blk_frozen BK506.out 1; have hfz25_2 := blk_frozen BK506.out 2; obtain ⟨Ao26, co26, eo26⟩ := Kd.R_slice HO505.out; subst eo26) | ((with_reducible refine gate_callee (f := 32) rfl ?_); refine goesL_ (some 35) rfl rfl Try.func32 (by kernel_rfl) rfl #[.agg #[.int .i64 t501, .int .i64 t502, .slice Ao26 t503.length co26], .int .i64 a1, .int .i64 a2] rfl arr_ ?_; (with_reducible refine (impl_NextOwn.calls k t501 t502 _ _ t503 a1 a2 t507 t508 t509 _ ?side1 ?side2 A12.out).mono ?_); (case side1 => refine (Kd.R_reads' (e := 60) (base := w.heap.size) (ok := fun k_ => (True ∧ some k_ ≠ (.slice Ao19 t495.length co19 : Value).ownBlock)) (n := t503.length) (c := co26) ?_).2.2; exact (by (with_reducible repeat (first | apply Kd.R_alloc | apply Kd.R_drewN | apply Kd.R_drew)); exact (Kd.R_mono (Kd.R_far (p := ⟨gb506, 2, none⟩) (Kd.R_far (p := ⟨gb506, 1, none⟩) (Kd.R_far (p := ⟨gb506, 0, none⟩) (Kd.R_types HO505.out BK506.out (by decide)) (fun _ hk => hk.2) (.int .i64 t501)) (fun _ hk => hk.2) (.int .i64 t502)) (fun _ hk => hk.2) (.slice Ao26 t503.length co26)) (fun _ h_ => h_.1)))); (case side2 => exact (Kd.R_reads' HO505.out).2.1); rintro e w27 ⟨rfl, hb⟩; refine ⟨_, rfl, ?_⟩; have n0_ := Aside0.mk (Kd.R_below (by (with_reducible repeat (first | apply Kd.R_alloc | apply Kd.R_drewN | apply Kd.R_drew)); exact (Kd.R_mono (Kd.R_far (p := ⟨gb506, 2, none⟩) (Kd.R_far (p := ⟨gb506, 1, none⟩) (Kd.R_far (p := ⟨gb506, 0, none⟩) (Kd.R_types HO497.out BK506.out (by decide)) (fun _ hk => hk.2) (.int .i64 t501)) (fun _ hk => hk.2) (.int .i64 t502)) (fun _ hk => hk.2) (.slice Ao26 t503.length co26)) (fun _ h_ => h_.1))) hb); have n1_ := Aside0.mk (Kd.R_below (by (with_reducible repeat (first | apply Kd.R_alloc | apply Kd.R_drewN | apply Kd.R_drew)); exact (Kd.R_mono (Kd.R_far (p := ⟨gb506, 2, none⟩) (Kd.R_far (p := ⟨gb506, 1, none⟩) (Kd.R_far (p := ⟨gb506, 0, none⟩) (Kd.R_types HO505.out BK506.out (by decide)) (fun _ hk => hk.2) (.int .i64 t501)) (fun _ hk => hk.2) (.int .i64 t502)) (fun _ hk => hk.2) (.slice Ao26 t503.length co26)) (fun _ h_ => h_.1))) hb); have n2_ := Aside0.mk (blk_below (g := gb491) (o := .cells #[.int .i64 a0_0, .int .i64 a0_1, .slice A0_2 l0_2.length c0_2] 24 (0, 0)) (by (with_reducible repeat (first | refine blk_drewN ?_ _ | refine blk_drew ?_ | refine blk_alloc ?_ _)); refine blk_far ?_ NB491_506.out _; (with_reducible repeat (first | refine blk_drewN ?_ _ | refine blk_drew ?_ | refine blk_alloc ?_ _)); refine blk_far ?_ NB491_506.out _; (with_reducible repeat (first | refine blk_drewN ?_ _ | refine blk_drew ?_ | refine blk_alloc ?_ _)); refine blk_far ?_ NB491_506.out _; (with_reducible repeat (first | refine blk_drewN ?_ _ | refine blk_drew ?_ | refine blk_alloc ?_ _)); exact BK491.out) hb); have n3_ := Aside0.mk (blk_below (g := gb506) (o := .cells #[.int .i64 t501, .int .i64 t502, .slice Ao26 t503.length co26] 29 (0, 0)) (by (with_reducible repeat (first | refine blk_drewN ?_ _ | refine blk_drew ?_ | refine blk_alloc ?_ _)); refine blk_put (cs := #[.int .i64 t501, .int .i64 t502, .slice none 0 0]) ?_ 2 _ rfl; (with_reducible repeat (first | refine blk_drewN ?_ _ | refine blk_drew ?_ | refine blk_alloc ?_ _)); refine blk_put (cs := #[.int .i64 t501, .int .i64 0, .slice none 0 0]) ?_ 1 _ rfl; (with_reducible repeat (first | refine blk_drewN ?_ _ | refine blk_drew ?_ | refine blk_alloc ?_ _)); refine blk_put (cs := #[.int .i64 0, .int .i64 0, .slice none 0 0]) ?_ 0 _ rfl; (with_reducible repeat (first | refine blk_drewN ?_ _ | refine blk_drew ?_ | refine blk_alloc ?_ _)); exact BK506.out) hb); have n4_ := Aside0.mk (below_step (hb2_ HB.out GE491.out GE506.out) hb); clear HO497; clear HO505; clear BK491; clear BK506; clear HB; have HO497 := n0_; have HO505 := n1_; have BK491 := n2_; have BK506 := n3_; have HB := n4_; clear n0_ n1_ n2_ n3_ n4_; (try clear hb); (try clear hb2); (try clear hk); (try clear hi)))
    (try simp only [Act.put, List.setIfInBounds_toArray, List.set_cons_zero, List.set_cons_succ])
    go_cut [51] (fun v51 wc => ∃ (kq : Nat) (x51_12 : Bool), v51 = .bool x51_12 ∧ Aside0 (laws_FnExactNextOwn.j0 kq x51_12 a0_0 a0_1 l0_2 t501 t502 t503 = some r) ∧ Aside0 (kq ≤ k) ∧ Aside0 (Kd.R k60 60 wc w.heap.size (fun _ => True) (.slice Ao26 t503.length co26) t503) ∧ Aside0 (wc.heap[gb491]? = some (.cells #[.int .i64 a0_0, .int .i64 a0_1, (.slice A0_2 l0_2.length c0_2)] 24 (0, 0))) ∧ Aside0 (wc.heap[gb506]? = some (.cells #[.int .i64 t501, .int .i64 t502, (.slice Ao26 t503.length co26)] 29 (0, 0))) ∧ Aside0 (Below w.heap.size w wc))
    case first =>
      have H := HC13.out
      clear HC13
      by_cases c28 : t507 = t498
      · rw [if_pos c28] at H
        have c28b0 : (t507 == t498) = true := beq_iff_eq.mpr c28
        have c28b1 : (t507 != t498) = false := bne_eq_false_iff_eq.mpr c28
        clear c28
        (first | rw [c28b0] | (simp only [i64_w, i32_w]; rw [c28b0]) | skip)
        by_cases c29 : t508 = t499
        · rw [if_pos c29] at H
          have c29b0 : (t508 == t499) = true := beq_iff_eq.mpr c29
          have c29b1 : (t508 != t499) = false := bne_eq_false_iff_eq.mpr c29
          clear c29
          have H' := Aside0.mk H
          clear H
          go_wp2
          go_meet
          case rel => exact ⟨_, ((t509 != t500)), (by first | rfl | (simp; done) | (simp [*]; done)), H', ⟨by first | omega | exact Nat.le_refl _⟩, ⟨by (with_reducible repeat (first | apply Kd.R_alloc | apply Kd.R_drewN | apply Kd.R_drew)); exact Kd.R_mono HO505.out (fun _ hk => trivial)⟩, ⟨bk_ BK491.out⟩, ⟨bk_ BK506.out⟩, ⟨hb2_ HB.out GE491.out GE506.out⟩⟩
        · rw [if_neg c29] at H
          have c29b0 : (t508 == t499) = false := beq_eq_false_iff_ne.mpr c29
          have c29b1 : (t508 != t499) = true := bne_iff_ne.mpr c29
          have H' := Aside0.mk H
          clear H
          go_wp2
          go_meet
          case rel => exact ⟨_, (true), (by first | rfl | (simp; done) | (simp [*]; done)), H', ⟨by first | omega | exact Nat.le_refl _⟩, ⟨by (with_reducible repeat (first | apply Kd.R_alloc | apply Kd.R_drewN | apply Kd.R_drew)); exact Kd.R_mono HO505.out (fun _ hk => trivial)⟩, ⟨bk_ BK491.out⟩, ⟨bk_ BK506.out⟩, ⟨hb2_ HB.out GE491.out GE506.out⟩⟩
      · rw [if_neg c28] at H
        have c28b0 : (t507 == t498) = false := beq_eq_false_iff_ne.mpr c28
        have c28b1 : (t507 != t498) = true := bne_iff_ne.mpr c28
        (first | rw [c28b0] | (simp only [i64_w, i32_w]; rw [c28b0]) | skip)
        have H' := Aside0.mk H
        clear H
        go_wp2
        go_meet
        case rel => exact ⟨_, (true), (by first | rfl | (simp; done) | (simp [*]; done)), H', ⟨by first | omega | exact Nat.le_refl _⟩, ⟨by (with_reducible repeat (first | apply Kd.R_alloc | apply Kd.R_drewN | apply Kd.R_drew)); exact Kd.R_mono HO505.out (fun _ hk => trivial)⟩, ⟨bk_ BK491.out⟩, ⟨bk_ BK506.out⟩, ⟨hb2_ HB.out GE491.out GE506.out⟩⟩
    case rest =>
      clear HC13
      try clear c1
      try clear c2
      try clear p2
      try clear c3
      try clear c5
      try clear c5b0
      try clear c9
      try clear c13
      try clear c15
      try clear c24
      try clear c28
      try clear c28b0
      try clear c28b1
      try clear c29
      try clear c29b0
      try clear c29b1
      try clear hcz15_0
      try clear hcz15_1
      try clear hcz15_2
      try clear hcz17_0
      try clear hcz17_1
      try clear hcz17_2
      try clear hcz21_0
      try clear hcz21_1
      try clear hcz21_2
      try clear hcz25_0
      try clear hcz25_1
      try clear hcz25_2
      try clear hcz7_0
      try clear hcz7_1
      try clear hcz7_2
      try clear hfz15_0
      try clear hfz15_1
      try clear hfz15_2
      try clear hfz17_0
      try clear hfz17_1
      try clear hfz17_2
      try clear hfz21_0
      try clear hfz21_1
      try clear hfz21_2
      try clear hfz25_0
      try clear hfz25_1
      try clear hfz25_2
      try clear hfz7_0
      try clear hfz7_1
      try clear hfz7_2
      obtain ⟨kq, x51_12, rfl, HA, HJ12, HO_507002, BK491, BK506, HB⟩ := hcut
      cases kq with
      | zero => exact absurd HA.out (by simp [laws_FnExactNextOwn.j0])
      | succ kj12 =>
        have H := HA.out
        clear HA
        simp only [laws_FnExactNextOwn.j0] at H
        by_cases c30 : x51_12 = true
        · subst c30
          have H1 : (some false) = some r := by rw [if_pos rfl] at H; exact H
          clear H
          have H := H1
          clear H1
          obtain rfl := Option.some.inj H
          exact absurd hr_ (by decide)
        · replace c30 := Bool.eq_false_iff.mpr c30
          subst c30
          have H1 : ((laws_toPlan.f kj12 a0_0 a0_1 l0_2).bind fun bt510 => ((laws_eqPlan.f kj12 t501 t502 t503 bt510.1 bt510.2.1 bt510.2.2).bind fun t515 => (if t515 = true then (some true) else (some false)))) = some r := by rw [if_neg (show ¬ (false = true) by decide)] at H; exact H
          clear H
          have H := H1
          clear H1
          replace H := Option.bind_eq_some_iff.mp H
          obtain ⟨⟨t510, t511, t512⟩, A310, H⟩ := H
          replace H : ((laws_eqPlan.f kj12 t501 t502 t503 t510 t511 t512).bind fun t515 => (if t515 = true then (some true) else (some false))) = some r := H
          have A31 := Aside0.mk A310
          clear A310
          replace H := Option.bind_eq_some_iff.mp H
          obtain ⟨t515, A320, H⟩ := H
          replace H : (if t515 = true then (some true) else (some false)) = some r := H
          have A32 := Aside0.mk A320
          clear A320
          by_cases c33 : t515 = true
          · subst c33
            have H1 : (some true) = some r := by rw [if_pos rfl] at H; exact H
            clear H
            have H := H1
            clear H1
            obtain rfl := Option.some.inj H
            try go_wp2
            have n0_ := Aside0.mk (Kd.R_drew HO_507002.out)
            have n1_ := Aside0.mk (blk_drew BK491.out)
            have n2_ := Aside0.mk (blk_drew BK506.out)
            have n3_ := Aside0.mk (below_drew1 HB.out)
            clear HO_507002
            clear BK491
            clear BK506
            clear HB
            have HO_507002 := n0_
            have BK491 := n1_
            have BK506 := n2_
            have HB := n3_
            clear n0_ n1_ n2_ n3_
            refine start_ (n := 5) (S := fun w' => w'.cell? ⟨gb506, 0, none⟩ = some (.int .i64 t501) ∧ w'.cell? ⟨gb506, 1, none⟩ = some (.int .i64 t502) ∧ w'.cell? ⟨gb506, 2, none⟩ = some (.slice Ao26 t503.length co26) ∧ w'.cell? ⟨gb491, 0, none⟩ = some (.int .i64 a0_0) ∧ w'.cell? ⟨gb491, 1, none⟩ = some (.int .i64 a0_1) ∧ w'.cell? ⟨gb491, 2, none⟩ = some (.slice A0_2 l0_2.length c0_2)) (ds := []) #[false, false, false, false, false] (by kernel_rfl) rfl rfl ⟨(blk_cell BK506.out 0).trans rfl, (blk_cell BK506.out 1).trans rfl, (blk_cell BK506.out 2).trans rfl, (blk_cell BK491.out 0).trans rfl, (blk_cell BK491.out 1).trans rfl, (blk_cell BK491.out 2).trans rfl⟩ (fun hHeld => ?_)
            generalize wc.drew = w34 at HO_507002 BK491 BK506 HB hHeld ⊢
            refine take_ (i := 0) (N := some 52) (v := ?_) (a' := ?_) #[true, false, false, false, false] rfl rfl (by kernel_rfl) (fun _ _ _ h => h) (Or.inl ⟨by rfl, ?_⟩) hHeld ?_ ?_
            rotate_left
            · rintro w' ⟨s0, s1, s2, s3, s4, s5⟩
              go_simp
              with_reducible rfl
            rotate_left
            · simp only [Act.put, List.setIfInBounds_toArray, List.set_cons_zero, List.set_cons_succ, i64_w, i32_w]
              rfl
            refine take_ (i := 1) (N := some 53) (v := ?_) (a' := ?_) #[true, true, false, false, false] rfl rfl (by kernel_rfl) (fun _ _ _ h => h) (Or.inl ⟨by rfl, ?_⟩) hHeld ?_ ?_
            rotate_left
            · rintro w' ⟨s0, s1, s2, s3, s4, s5⟩
              go_simp
              with_reducible rfl
            rotate_left
            · simp only [Act.put, List.setIfInBounds_toArray, List.set_cons_zero, List.set_cons_succ, i64_w, i32_w]
              rfl
            refine one_ (i := 2) (N := some 54) #[true, true, true, false, false] rfl rfl (by kernel_rfl) (by decide) (fun K hK => ?_)
            refine goes_ Try.func15 (by kernel_rfl) rfl #[.agg #[.int .i64 a0_0, .int .i64 a0_1, .slice A0_2 l0_2.length c0_2]] (by rfl) rfl rfl arr_ ?_
            with_reducible refine (laws_toPlan.calls kj12 a0_0 a0_1 _ _ l0_2 t510 t511 t512 _ ?side1 ?side2 A31.out).mono ?_
            (case side1 => exact kc_ (Kd.C_below HR0_2.out HB.out))
            (case side2 => exact HC0_2.out)
            rintro e w35 ⟨v513, rfl, ho0, hb⟩
            refine ⟨_, rfl, ?_⟩
            have n0_ := Aside0.mk (Kd.R_elder' (by (with_reducible repeat (first | apply Kd.R_alloc | apply Kd.R_drewN | apply Kd.R_drew)); exact HO_507002.out) (Kd.R_base ho0) hb)
            have n1_ := Aside0.mk (Kd.R_lower (Kd.R_new' ho0 (Kd.R_lt (by (with_reducible repeat (first | apply Kd.R_alloc | apply Kd.R_drewN | apply Kd.R_drew)); exact HO_507002.out))) (below_size (hb2_ HB.out GE491.out GE506.out)))
            have n2_ := Aside0.mk (bb_ BK491.out hb)
            have n3_ := Aside0.mk (bb_ BK506.out hb)
            have n4_ := Aside0.mk (below_step (hb2_ HB.out GE491.out GE506.out) hb)
            clear HO_507002
            clear BK491
            clear BK506
            clear HB
            have HO_507002 := n0_
            have HO514 := n1_
            have BK491 := n2_
            have BK506 := n3_
            have HB := n4_
            clear n0_ n1_ n2_ n3_ n4_
            (try clear hb)
            (try clear hb2)
            (try clear hk)
            (try clear hi)
            (try clear ho0)
            obtain ⟨Ao36, co36, eo36⟩ := Kd.R_slice HO514.out
            (first | subst eo36 | (injection eo36 with f1_ f2_ f3_; have f4_ := f1_.symm; have f5_ := f3_.symm; clear f1_ f2_ f3_; subst f4_; subst f5_))
            refine hK.out _ _ ⟨(blk_cell BK506.out 0).trans rfl, (blk_cell BK506.out 1).trans rfl, (blk_cell BK506.out 2).trans rfl, (blk_cell BK491.out 0).trans rfl, (blk_cell BK491.out 1).trans rfl, (blk_cell BK491.out 2).trans rfl⟩ (fun hHeld => ?_)
            clear hK K
            refine norm_ (a' := ?_) ?_ ?_
            rotate_left
            · show Act.put _ (some 54) _ = _
              simp only [Act.put, List.setIfInBounds_toArray, List.set_cons_zero, List.set_cons_succ, i64_w, i32_w]
              rfl
            refine one_ (i := 3) (N := some 55) #[true, true, true, true, false] rfl rfl (by kernel_rfl) (by decide) (fun K hK => ?_)
            refine goes_ Try.func17 (by kernel_rfl) rfl #[.agg #[.int .i64 t501, .int .i64 t502, .slice Ao26 t503.length co26], .agg #[.int .i64 t510, .int .i64 t511, .slice Ao36 t512.length co36]] (by rfl) rfl rfl arr_ ?_
            with_reducible refine (laws_eqPlan.calls kj12 t501 t502 _ _ t503 t510 t511 _ _ t512 true _ ?side1 ?side2 ?side3 ?side4 A32.out).mono ?_
            (case side1 => repeat (first | exact (Kd.R_reads' HO_507002.out).2.2 | (with_reducible refine Kd.C_alloc ?_ _) | (with_reducible refine Kd.C_drewN ?_ _) | (with_reducible refine Kd.C_drew ?_)))
            (case side2 => exact (Kd.R_reads' HO_507002.out).2.1)
            (case side3 => repeat (first | exact (Kd.R_reads' HO514.out).2.2 | (with_reducible refine Kd.C_alloc ?_ _) | (with_reducible refine Kd.C_drewN ?_ _) | (with_reducible refine Kd.C_drew ?_)))
            (case side4 => exact (Kd.R_reads' HO514.out).2.1)
            rintro e w37 ⟨rfl, hb⟩
            refine ⟨_, rfl, ?_⟩
            have n0_ := Aside0.mk (Kd.R_below (by (with_reducible repeat (first | apply Kd.R_alloc | apply Kd.R_drewN | apply Kd.R_drew)); exact HO_507002.out) hb)
            have n1_ := Aside0.mk (Kd.R_below (by (with_reducible repeat (first | apply Kd.R_alloc | apply Kd.R_drewN | apply Kd.R_drew)); exact HO514.out) hb)
            have n2_ := Aside0.mk (bb_ BK491.out hb)
            have n3_ := Aside0.mk (bb_ BK506.out hb)
            have n4_ := Aside0.mk (below_step (hb2_ HB.out GE491.out GE506.out) hb)
            clear HO_507002
            clear HO514
            clear BK491
            clear BK506
            clear HB
            have HO_507002 := n0_
            have HO514 := n1_
            have BK491 := n2_
            have BK506 := n3_
            have HB := n4_
            clear n0_ n1_ n2_ n3_ n4_
            (try clear hb)
            (try clear hb2)
            (try clear hk)
            (try clear hi)
            refine hK.out _ _ ⟨(blk_cell BK506.out 0).trans rfl, (blk_cell BK506.out 1).trans rfl, (blk_cell BK506.out 2).trans rfl, (blk_cell BK491.out 0).trans rfl, (blk_cell BK491.out 1).trans rfl, (blk_cell BK491.out 2).trans rfl⟩ (fun hHeld => ?_)
            clear hK K
            refine norm_ (a' := ?_) ?_ ?_
            rotate_left
            · show Act.put _ (some 55) _ = _
              simp only [Act.put, List.setIfInBounds_toArray, List.set_cons_zero, List.set_cons_succ, i64_w, i32_w]
              rfl
            refine pure_ (i := 4) (N := some 56) (v := ?_) (a' := ?_) #[true, true, true, true, true] rfl rfl (by kernel_rfl) (fun _ _ _ h => h) (Or.inl ⟨by rfl, ?_⟩) ?_ ?_
            rotate_left
            · intro w'
              go_simp
              with_reducible rfl
            rotate_left
            · simp only [Act.put, List.setIfInBounds_toArray, List.set_cons_zero, List.set_cons_succ, i64_w, i32_w]
              rfl
            refine done_ (by kernel_rfl) ?_
            try go_wp2
            go_ret
            exact ⟨er_, hb2_ HB.out GE491.out GE506.out⟩
          · replace c33 := Bool.eq_false_iff.mpr c33
            subst c33
            have H1 : (some false) = some r := by rw [if_neg (show ¬ (false = true) by decide)] at H; exact H
            clear H
            have H := H1
            clear H1
            obtain rfl := Option.some.inj H
            exact absurd hr_ (by decide)
def spec_l11Size.f (a0 : Int) : Option (Bool) := (spec_l1In.f a0 (-4000000000000) 4000000000000).bind fun t516 => (some t516)
set_option maxHeartbeats 8000000 in
set_option maxRecDepth 100000 in
theorem spec_l11Size.calls (a0 : Int) (r : Bool) (w : World) (h : spec_l11Size.f a0 = some r) :
    Calls Try.prog 77 #[.int .i64 a0] w fun e w' => e = .returned (.bool r) ∧ Drawn0 w w' := by
  have H : ((spec_l1In.f a0 (-4000000000000) 4000000000000).bind fun t516 => (some t516)) = some r := h
  clear h
  replace H := Option.bind_eq_some_iff.mp H
  obtain ⟨t516, A20, H⟩ := H
  replace H : (some t516) = some r := H
  have A2 := Aside0.mk A20
  clear A20
  obtain rfl := Option.some.inj H
  go_enter Try.func77, Try.ntmps77
  go_wp2_with (first | ((with_reducible refine gate_callee (f := 50) rfl ?_); refine goesL_ (some 4) rfl rfl Try.func50 (by kernel_rfl) rfl #[.int .i64 a0, .int .i64 (-4000000000000), .int .i64 4000000000000] rfl arr_ ?_; (with_reducible refine (spec_l1In.calls a0 (-4000000000000) 4000000000000 t516 _ A2.out).mono ?_); rintro e w' ⟨rfl, ⟨nd, rfl⟩⟩; refine ⟨_, rfl, ?_⟩))
  go_ret
  exact ⟨by first | rfl | (simp; done) | (simp [*]; done), by repeat (first | exact Drawn0.refl _ | apply Drawn0.step)⟩
def spec_l11Gcd.l0 : Nat → Int → Int → Option (Int)
  | 0, _, _ => none
  | k + 1, x0, x1 => if x1 = 0 then (if x0 < 0 then (some (wrap64 (-x0))) else (some x0)) else (spec_l11Gcd.l0 k x1 (Int.tmod x0 x1))
def spec_l11Gcd.f (k : Nat) (a0 : Int) (a1 : Int) : Option (Int) := spec_l11Gcd.l0 k a0 a1
theorem spec_l11Gcd.mono_l : ∀ k, (∀ y0 y1, LeO (spec_l11Gcd.l0 k y0 y1) (spec_l11Gcd.l0 (k + 1) y0 y1))
  | 0 => fun _ _ r h => by simp [spec_l11Gcd.l0] at h
  | k + 1 => by
    have ih0 := spec_l11Gcd.mono_l k
    · intro y0 y1
      unfold spec_l11Gcd.l0
      repeat' first
      | (with_reducible exact ih0 _ _)
      | (with_reducible exact LeO.refl _)
      | (with_reducible exact LeO.none _)
      | (with_reducible refine LeO.ite ?_ ?_)
      | (with_reducible refine LeO.bind ?_ (fun _ => ?_))
      | exact ih0 _ _
      | exact LeO.none _
      | refine LeO.ite ?_ ?_
      | refine LeO.bind ?_ (fun _ => ?_)
theorem spec_l11Gcd.mono : ∀ a0 a1 k, LeO (spec_l11Gcd.f k a0 a1) (spec_l11Gcd.f (k + 1) a0 a1) := by
  intro a0 a1 k
  have ih0 := spec_l11Gcd.mono_l k
  unfold spec_l11Gcd.f
  repeat' first
      | (with_reducible exact ih0 _ _)
      | (with_reducible exact LeO.refl _)
      | (with_reducible exact LeO.none _)
      | (with_reducible refine LeO.ite ?_ ?_)
      | (with_reducible refine LeO.bind ?_ (fun _ => ?_))
      | exact ih0 _ _
      | exact LeO.none _
      | refine LeO.ite ?_ ?_
      | refine LeO.bind ?_ (fun _ => ?_)
set_option maxHeartbeats 8000000 in
set_option maxRecDepth 100000 in
theorem spec_l11Gcd.calls (k : Nat) (a0 : Int) (a1 : Int) (r : Int) (w : World) (h : spec_l11Gcd.f k a0 a1 = some r) :
    Calls Try.prog 78 #[.int .i64 a0, .int .i64 a1] w fun e w' => e = .returned (.int .i64 r) ∧ Drawn0 w w' := by
  have H : (spec_l11Gcd.l0 k a0 a1) = some r := h
  clear h
  have H' := Aside0.mk H
  clear H
  go_enter Try.func78, Try.ntmps78
  go_wp2
  go_loopg [0, 1] k (fun kq v0 v1 w' => ∃ (x0_1 : Int) (x1_1 : Int), v0 = .int .i64 x0_1 ∧ v1 = .int .i64 x1_1 ∧ Aside0 (spec_l11Gcd.l0 kq x0_1 x1_1 = some r) ∧ Aside0 (kq ≤ k) ∧ Drawn0 w w')
  case atStart => exact ⟨(a0), (a1), (by first | rfl | (simp; done) | (simp [*]; done)), (by first | rfl | (simp; done) | (simp [*]; done)), H', ⟨Nat.le_refl _⟩, by repeat (first | exact Drawn0.refl _ | apply Drawn0.step)⟩
  case round =>
    clear H'
    try clear p2
    obtain ⟨x0_1, x1_1, rfl, rfl, HA, HK1, ⟨m1, rfl⟩⟩ := hrel
    cases gk with
    | zero => exact absurd HA.out (by simp [spec_l11Gcd.l0])
    | succ k1 =>
      have H := HA.out
      clear HA
      simp only [spec_l11Gcd.l0] at H
      by_cases c3 : x1_1 = 0
      · rw [if_pos c3] at H
        have c3b0 : (x1_1 == 0) = true := beq_iff_eq.mpr c3
        have c3b1 : (x1_1 != 0) = false := bne_eq_false_iff_eq.mpr c3
        clear c3
        by_cases c4 : x0_1 < 0
        · rw [if_pos c4] at H
          have c4b0 : decide (x0_1 < 0) = true := decide_eq_true c4
          clear c4
          obtain rfl := Option.some.inj H
          go_wp2
          go_ret
          exact ⟨by first | rfl | (simp; done) | (simp [*]; done), by repeat (first | exact Drawn0.refl _ | apply Drawn0.step)⟩
        · rw [if_neg c4] at H
          have c4b0 : decide (x0_1 < 0) = false := decide_eq_false c4
          clear c4
          obtain rfl := Option.some.inj H
          go_wp2
          go_ret
          exact ⟨by first | rfl | (simp; done) | (simp [*]; done), by repeat (first | exact Drawn0.refl _ | apply Drawn0.step)⟩
      · rw [if_neg c3] at H
        have c3b0 : (x1_1 == 0) = false := beq_eq_false_iff_ne.mpr c3
        have c3b1 : (x1_1 != 0) = true := bne_iff_ne.mpr c3
        have H' := Aside0.mk H
        clear H
        go_wp2
        go_roundg k1
        case measure => have := HK1.out; omega
        case rel => exact ⟨(x1_1), (Int.tmod x0_1 x1_1), (by first | rfl | (simp; done) | (simp [*]; done)), (by first | rfl | (simp; done) | (simp [*]; done)), H', ⟨by have := HK1.out; omega⟩, by repeat (first | exact Drawn0.refl _ | apply Drawn0.step)⟩
def spec_FracOf.j0 : Nat → Int → Int → Bool → Option (Int × Int × Bool)
  | 0, _, _, _ => none
  | k + 1, x0, x1, x18 => if x18 = true then (some (0, 0, false)) else ((spec_l11Gcd.f k x0 x1).bind fun t520 => (if x1 < 0 then (if (wrap64 (-t520)) = 0 then (none) else (some (wrap64 (Int.tdiv x0 (wrap64 (-t520))), wrap64 (Int.tdiv x1 (wrap64 (-t520))), true))) else (if t520 = 0 then (none) else (some (wrap64 (Int.tdiv x0 t520), wrap64 (Int.tdiv x1 t520), true)))))
def spec_FracOf.f (k : Nat) (a0 : Int) (a1 : Int) : Option (Int × Int × Bool) := if a1 = 0 then (spec_FracOf.j0 k a0 a1 true) else ((spec_l11Size.f a0).bind fun t518 => (if t518 = true then ((spec_l11Size.f a1).bind fun t519 => (spec_FracOf.j0 k a0 a1 (!t519))) else (spec_FracOf.j0 k a0 a1 true)))
theorem spec_FracOf.mono_l : ∀ k, (∀ y0 y1 y2, LeO (spec_FracOf.j0 k y0 y1 y2) (spec_FracOf.j0 (k + 1) y0 y1 y2))
  | 0 => fun _ _ _ r h => by simp [spec_FracOf.j0] at h
  | k + 1 => by
    have ih0 := spec_FracOf.mono_l k
    · intro y0 y1 y2
      unfold spec_FracOf.j0
      repeat' first
      | (with_reducible exact ih0 _ _ _)
      | (with_reducible exact spec_l11Gcd.mono _ _ _)
      | (with_reducible exact LeO.refl _)
      | (with_reducible exact LeO.none _)
      | (with_reducible refine LeO.ite ?_ ?_)
      | (with_reducible refine LeO.bind ?_ (fun _ => ?_))
      | exact ih0 _ _ _
      | exact spec_l11Gcd.mono _ _ _
      | exact LeO.none _
      | refine LeO.ite ?_ ?_
      | refine LeO.bind ?_ (fun _ => ?_)
theorem spec_FracOf.mono : ∀ a0 a1 k, LeO (spec_FracOf.f k a0 a1) (spec_FracOf.f (k + 1) a0 a1) := by
  intro a0 a1 k
  have ih0 := spec_FracOf.mono_l k
  unfold spec_FracOf.f
  repeat' first
      | (with_reducible exact ih0 _ _ _)
      | (with_reducible exact spec_l11Gcd.mono _ _ _)
      | (with_reducible exact LeO.refl _)
      | (with_reducible exact LeO.none _)
      | (with_reducible refine LeO.ite ?_ ?_)
      | (with_reducible refine LeO.bind ?_ (fun _ => ?_))
      | exact ih0 _ _ _
      | exact spec_l11Gcd.mono _ _ _
      | exact LeO.none _
      | refine LeO.ite ?_ ?_
      | refine LeO.bind ?_ (fun _ => ?_)
def spec_FracOf.T6 : Bool × List (List Nat × List Nat) := (true, [([], []), ([], []), ([0, 1], [0, 1]), ([], []), ([], []), ([3, 4], [3, 4]), ([2, 5], [2, 5]), ([6, 0, 1, 2, 3, 4, 5, 6], [6]), ([7, 0, 1, 2, 3, 4, 5, 6, 7], [])])
def spec_FracOf.B6 : List Nat := [0, 0, 3, 0, 0, 24, 63, 127, 255]
theorem spec_FracOf.tab6 : rtab .any (opsOf Try.f61 6) = spec_FracOf.T6 := by kernel_rfl
theorem spec_FracOf.bits6 : waitsOk spec_FracOf.T6.2 spec_FracOf.B6 = true := by kernel_rfl
set_option maxHeartbeats 8000000 in
set_option maxRecDepth 100000 in
theorem spec_FracOf.calls (k : Nat) (a0 : Int) (a1 : Int) (r1 : Int) (r2 : Int) (r3 : Bool) (w : World) (h : spec_FracOf.f k a0 a1 = some (r1, r2, r3)) :
    Calls Try.prog 61 #[.int .i64 a0, .int .i64 a1] w fun e w' => e = .returned (.tuple #[.agg #[.int .i64 r1, .int .i64 r2], .bool r3]) ∧ Below w.heap.size w w' := by
  have hu51 := Try.underlying51
  have HB := Aside0.mk (Below.refl w.heap.size w)
  have H : (if a1 = 0 then (spec_FracOf.j0 k a0 a1 true) else ((spec_l11Size.f a0).bind fun t518 => (if t518 = true then ((spec_l11Size.f a1).bind fun t519 => (spec_FracOf.j0 k a0 a1 (!t519))) else (spec_FracOf.j0 k a0 a1 true)))) = some (r1, r2, r3) := h
  clear h
  have HC3 := Aside0.mk H
  clear H
  go_enter Try.func61, Try.ntmps61
  go_upto_region 1 with (first | ((with_reducible refine gate_dst (N := 4) rfl ?_); refine box_event ?hg (N := 4) ?hd (cs := #[.int .i64 0, .int .i64 0]) (t := 51) ?hr ?_; (case hd => rfl); (case hg => rfl); (case hr => first | (go_simp; done) | (go_simp; rfl)); intro gb517 hg w4 hbox hb; have n0_ := Aside0.mk (below_step (hb_ HB.out) hb); have n1_ := Aside0.mk (hbox); have n2_ := Aside0.mk ((by rw [hg]; exact (below_size (hb_ HB.out)) : w.heap.size ≤ gb517)); have n3_ := Aside0.mk ((by rw [hg]; exact (below_size (hb_ HB.out)) : w.heap.size ≤ gb517)); clear HB; have HB := n0_; have BK517 := n1_; have GW517 := n2_; have GE517 := n3_; clear n0_ n1_ n2_ n3_; clear hb hbox hg))
  (try simp only [Act.put, List.setIfInBounds_toArray, List.set_cons_zero, List.set_cons_succ])
  go_cut [18] (fun v18 wc => ∃ (kq : Nat) (x18_2 : Bool), v18 = .bool x18_2 ∧ Aside0 (spec_FracOf.j0 kq a0 a1 x18_2 = some (r1, r2, r3)) ∧ Aside0 (kq ≤ k) ∧ Aside0 (wc.heap[gb517]? = some (.cells #[.int .i64 0, .int .i64 0] 51 (0, 0))) ∧ Aside0 (Below w.heap.size w wc))
  case first =>
    have H := HC3.out
    clear HC3
    by_cases c5 : a1 = 0
    · rw [if_pos c5] at H
      have c5b0 : (a1 == 0) = true := beq_iff_eq.mpr c5
      have c5b1 : (a1 != 0) = false := bne_eq_false_iff_eq.mpr c5
      clear c5
      (first | rw [c5b0] | (simp only [i64_w, i32_w]; rw [c5b0]) | skip)
      have H' := Aside0.mk H
      clear H
      go_wp2
      go_meet
      case rel => exact ⟨_, (true), (by first | rfl | (simp; done) | (simp [*]; done)), H', ⟨by first | omega | exact Nat.le_refl _⟩, ⟨bk_ BK517.out⟩, ⟨hb1_ HB.out GE517.out⟩⟩
    · rw [if_neg c5] at H
      have c5b0 : (a1 == 0) = false := beq_eq_false_iff_ne.mpr c5
      have c5b1 : (a1 != 0) = true := bne_iff_ne.mpr c5
      (first | rw [c5b0] | (simp only [i64_w, i32_w]; rw [c5b0]) | skip)
      replace H := Option.bind_eq_some_iff.mp H
      obtain ⟨t518, A60, H⟩ := H
      replace H : (if t518 = true then ((spec_l11Size.f a1).bind fun t519 => (spec_FracOf.j0 k a0 a1 (!t519))) else (spec_FracOf.j0 k a0 a1 true)) = some (r1, r2, r3) := H
      have A6 := Aside0.mk A60
      clear A60
      by_cases c7 : t518 = true
      · subst c7
        have H1 : ((spec_l11Size.f a1).bind fun t519 => (spec_FracOf.j0 k a0 a1 (!t519))) = some (r1, r2, r3) := by rw [if_pos rfl] at H; exact H
        clear H
        have H := H1
        clear H1
        replace H := Option.bind_eq_some_iff.mp H
        obtain ⟨t519, A80, H⟩ := H
        replace H : (spec_FracOf.j0 k a0 a1 (!t519)) = some (r1, r2, r3) := H
        have A8 := Aside0.mk A80
        clear A80
        have H' := Aside0.mk H
        clear H
        go_wp2_with (first | (go_at_call 77; (with_reducible refine (spec_l11Size.calls a0 true _ A6.out).mono ?_); rintro e w' ⟨rfl, ⟨nd, rfl⟩⟩) | (go_at_call 77; (with_reducible refine (spec_l11Size.calls a1 t519 _ A8.out).mono ?_); rintro e w' ⟨rfl, ⟨nd, rfl⟩⟩))
        go_meet
        case rel => exact ⟨_, (!t519), (by first | rfl | (simp; done) | (simp [*]; done)), H', ⟨by first | omega | exact Nat.le_refl _⟩, ⟨bk_ BK517.out⟩, ⟨hb1_ HB.out GE517.out⟩⟩
      · replace c7 := Bool.eq_false_iff.mpr c7
        subst c7
        have H1 : (spec_FracOf.j0 k a0 a1 true) = some (r1, r2, r3) := by rw [if_neg (show ¬ (false = true) by decide)] at H; exact H
        clear H
        have H := H1
        clear H1
        have H' := Aside0.mk H
        clear H
        go_wp2_with (first | (go_at_call 77; (with_reducible refine (spec_l11Size.calls a0 false _ A6.out).mono ?_); rintro e w' ⟨rfl, ⟨nd, rfl⟩⟩))
        go_meet
        case rel => exact ⟨_, (true), (by first | rfl | (simp; done) | (simp [*]; done)), H', ⟨by first | omega | exact Nat.le_refl _⟩, ⟨bk_ BK517.out⟩, ⟨hb1_ HB.out GE517.out⟩⟩
  case rest =>
    clear HC3
    try clear p2
    try clear c5
    try clear c5b0
    try clear c5b1
    try clear c6
    try clear c7
    obtain ⟨kq, x18_2, rfl, HA, HJ2, BK517, HB⟩ := hcut
    cases kq with
    | zero => exact absurd HA.out (by simp [spec_FracOf.j0])
    | succ kj2 =>
      have H := HA.out
      clear HA
      simp only [spec_FracOf.j0] at H
      by_cases c9 : x18_2 = true
      · subst c9
        have H1 : (some (0, 0, false)) = some (r1, r2, r3) := by rw [if_pos rfl] at H; exact H
        clear H
        have H := H1
        clear H1
        simp only [Option.some.injEq, Prod.mk.injEq] at H
        obtain ⟨rfl, rfl, rfl⟩ := H
        have hcz10_0 := bc_ BK517.out 0 (.int .i64 0) rfl
        have hcz10_1 := bc_ BK517.out 1 (.int .i64 0) rfl
        have hfz10_0 := blk_frozen BK517.out 0
        have hfz10_1 := blk_frozen BK517.out 1
        go_wp2
        refine bodyPost_ret (results_ct rfl _ _ gb517 51 #[.int .i64 0, .int .i64 0] (0, 0) _ rfl (by (with_reducible repeat (first | refine blk_drewN ?_ _ | refine blk_drew ?_ | refine blk_alloc ?_ _)); refine blk_put (cs := #[.int .i64 0, .int .i64 0]) ?_ 1 _ rfl; (with_reducible repeat (first | refine blk_drewN ?_ _ | refine blk_drew ?_ | refine blk_alloc ?_ _)); refine blk_put (cs := #[.int .i64 0, .int .i64 0]) ?_ 0 _ rfl; (with_reducible repeat (first | refine blk_drewN ?_ _ | refine blk_drew ?_ | refine blk_alloc ?_ _)); exact BK517.out) Try.underlying51 rfl (by kernel_rfl)) rfl ?_
        exact ⟨er_, hb1_ HB.out GE517.out⟩
      · replace c9 := Bool.eq_false_iff.mpr c9
        subst c9
        have H1 : ((spec_l11Gcd.f kj2 a0 a1).bind fun t520 => (if a1 < 0 then (if (wrap64 (-t520)) = 0 then (none) else (some (wrap64 (Int.tdiv a0 (wrap64 (-t520))), wrap64 (Int.tdiv a1 (wrap64 (-t520))), true))) else (if t520 = 0 then (none) else (some (wrap64 (Int.tdiv a0 t520), wrap64 (Int.tdiv a1 t520), true))))) = some (r1, r2, r3) := by rw [if_neg (show ¬ (false = true) by decide)] at H; exact H
        clear H
        have H := H1
        clear H1
        replace H := Option.bind_eq_some_iff.mp H
        obtain ⟨t520, A110, H⟩ := H
        replace H : (if a1 < 0 then (if (wrap64 (-t520)) = 0 then (none) else (some (wrap64 (Int.tdiv a0 (wrap64 (-t520))), wrap64 (Int.tdiv a1 (wrap64 (-t520))), true))) else (if t520 = 0 then (none) else (some (wrap64 (Int.tdiv a0 t520), wrap64 (Int.tdiv a1 t520), true)))) = some (r1, r2, r3) := H
        have A11 := Aside0.mk A110
        clear A110
        by_cases c12 : a1 < 0
        · rw [if_pos c12] at H
          have c12b0 : decide (a1 < 0) = true := decide_eq_true c12
          clear c12
          by_cases c13 : (wrap64 (-t520)) = 0
          · rw [if_pos c13] at H
            exact absurd H (by simp)
          · rw [if_neg c13] at H
            have c13b0 : ((wrap64 (-t520)) == 0) = false := beq_eq_false_iff_ne.mpr c13
            have c13b1 : ((wrap64 (-t520)) != 0) = true := bne_iff_ne.mpr c13
            simp only [Option.some.injEq, Prod.mk.injEq] at H
            obtain ⟨rfl, rfl, rfl⟩ := H
            try go_wp2_with (first | ((with_reducible refine gate_callee (f := 78) rfl ?_); refine goesL_ (some 22) rfl rfl Try.func78 (by kernel_rfl) rfl #[.int .i64 a0, .int .i64 a1] rfl arr_ ?_; (with_reducible refine (spec_l11Gcd.calls kj2 a0 a1 t520 _ A11.out).mono ?_); rintro e w' ⟨rfl, ⟨nd, rfl⟩⟩; refine ⟨_, rfl, ?_⟩; (try (rw [drewN_self wc]; generalize hq_ : World.drewN wc _ = wc; have n0_ : Aside0 (wc.heap[gb517]? = some (.cells #[.int .i64 0, .int .i64 0] 51 (0, 0))) := ⟨by rw [← hq_]; exact (bk_ BK517.out)⟩; have n1_ : Aside0 (Below w.heap.size w wc) := ⟨by rw [← hq_]; exact (hb1_ HB.out GE517.out)⟩; clear BK517 HB hq_; have BK517 := n0_; have HB := n1_; clear n0_ n1_))))
            have n0_ := Aside0.mk (blk_drew BK517.out)
            have n1_ := Aside0.mk (below_drew1 HB.out)
            clear BK517
            clear HB
            have BK517 := n0_
            have HB := n1_
            clear n0_ n1_
            refine start_ (n := 9) (S := fun w' => True) (ds := []) #[false, false, false, false, false, false, false, false, false] (by kernel_rfl) rfl rfl trivial (fun hHeld => ?_); refine with_tabW spec_FracOf.tab6 spec_FracOf.bits6 (fun HT_ HW_ => ?_)
            generalize wc.drew = w14 at BK517 HB hHeld ⊢
            refine pure_ (i := 0) (N := some 27) (v := ?_) (a' := ?_) #[true, false, false, false, false, false, false, false, false] rfl rfl (any_of HT_.out (by kernel_rfl)) (fun _ _ _ h => h) (Or.inl ⟨by rfl, ?_⟩) ?_ ?_
            rotate_left
            · intro w'
              go_simp
              with_reducible rfl
            rotate_left
            · simp only [Act.put, List.setIfInBounds_toArray, List.set_cons_zero, List.set_cons_succ, i64_w, i32_w]
              rfl
            refine pure_ (i := 1) (N := some 28) (v := ?_) (a' := ?_) #[true, true, false, false, false, false, false, false, false] rfl rfl (any_of HT_.out (by kernel_rfl)) (fun _ _ _ h => h) (Or.inl ⟨by rfl, ?_⟩) ?_ ?_
            rotate_left
            · intro w'
              go_simp
              with_reducible rfl
            rotate_left
            · simp only [Act.put, List.setIfInBounds_toArray, List.set_cons_zero, List.set_cons_succ, i64_w, i32_w]
              rfl
            refine pure_ (i := 2) (N := some 29) (v := ?_) (a' := ?_) #[true, true, true, false, false, false, false, false, false] rfl rfl (any_of HT_.out (by kernel_rfl)) (fun _ _ _ h => h) (Or.inl ⟨by rfl, ?_⟩) ?_ ?_
            rotate_left
            · intro w'
              go_simp
              with_reducible rfl
            rotate_left
            · simp only [Act.put, List.setIfInBounds_toArray, List.set_cons_zero, List.set_cons_succ, i64_w, i32_w]
              rfl
            refine pure_ (i := 3) (N := some 30) (v := ?_) (a' := ?_) #[true, true, true, true, false, false, false, false, false] rfl rfl (any_of HT_.out (by kernel_rfl)) (fun _ _ _ h => h) (Or.inl ⟨by rfl, ?_⟩) ?_ ?_
            rotate_left
            · intro w'
              go_simp
              with_reducible rfl
            rotate_left
            · simp only [Act.put, List.setIfInBounds_toArray, List.set_cons_zero, List.set_cons_succ, i64_w, i32_w]
              rfl
            refine pure_ (i := 4) (N := some 31) (v := ?_) (a' := ?_) #[true, true, true, true, true, false, false, false, false] rfl rfl (any_of HT_.out (by kernel_rfl)) (fun _ _ _ h => h) (Or.inl ⟨by rfl, ?_⟩) ?_ ?_
            rotate_left
            · intro w'
              go_simp
              with_reducible rfl
            rotate_left
            · simp only [Act.put, List.setIfInBounds_toArray, List.set_cons_zero, List.set_cons_succ, i64_w, i32_w]
              rfl
            refine pure_ (i := 5) (N := some 32) (v := ?_) (a' := ?_) #[true, true, true, true, true, true, false, false, false] rfl rfl (any_of HT_.out (by kernel_rfl)) (fun _ _ _ h => h) (Or.inl ⟨by rfl, ?_⟩) ?_ ?_
            rotate_left
            · intro w'
              go_simp
              with_reducible rfl
            rotate_left
            · simp only [Act.put, List.setIfInBounds_toArray, List.set_cons_zero, List.set_cons_succ, i64_w, i32_w]
              rfl
            refine pure_ (i := 6) (N := some 33) (v := ?_) (a' := ?_) #[true, true, true, true, true, true, true, false, false] rfl rfl (any_of HT_.out (by kernel_rfl)) (fun _ _ _ h => h) (Or.inl ⟨by rfl, ?_⟩) ?_ ?_
            rotate_left
            · intro w'
              go_simp
              with_reducible rfl
            rotate_left
            · simp only [Act.put, List.setIfInBounds_toArray, List.set_cons_zero, List.set_cons_succ, i64_w, i32_w]
              rfl
            refine one_ (i := 7) (N := none) #[true, true, true, true, true, true, true, true, false] rfl rfl (one_of HT_.out (by kernel_rfl)) (by decide) (fun K hK => ?_)
            have hs15 : w14.cell? ⟨gb517, 0, none⟩ = some (.int .i64 0) := (blk_cell BK517.out 0).trans rfl
            have hfs15 := blk_frozen BK517.out 0
            have hs16 : w14.cell? ⟨gb517, 1, none⟩ = some (.int .i64 0) := (blk_cell BK517.out 1).trans rfl
            have hfs16 := blk_frozen BK517.out 1
            refine skip_ (w1 := ?_) (by rfl) rfl ?_ ?_
            rotate_left
            · go_simp
              rfl
            refine hK.out _ _ trivial (fun hHeld => ?_)
            clear hK K
            refine pure_ (i := 8) (N := some 5) (v := ?_) (a' := ?_) #[true, true, true, true, true, true, true, true, true] rfl rfl (any_of HT_.out (by kernel_rfl)) (fun _ _ _ h => h) (Or.inl ⟨by rfl, ?_⟩) ?_ ?_
            rotate_left
            · intro w'
              go_simp
              with_reducible rfl
            rotate_left
            · simp only [Act.put, List.setIfInBounds_toArray, List.set_cons_zero, List.set_cons_succ, i64_w, i32_w]
              rfl
            refine done_ (done_of HT_.out (by kernel_rfl)) ?_
            try go_wp2
            refine bodyPost_ret (results_ct rfl _ _ gb517 51 #[.int .i64 (wrap64 (Int.tdiv a0 (wrap64 (-t520)))), .int .i64 (wrap64 (Int.tdiv a1 (wrap64 (-t520))))] (0, 0) _ rfl (by (with_reducible repeat (first | refine blk_drewN ?_ _ | refine blk_drew ?_ | refine blk_alloc ?_ _)); refine blk_put (cs := #[.int .i64 (wrap64 (Int.tdiv a0 (wrap64 (-t520)))), .int .i64 0]) ?_ 1 _ rfl; (with_reducible repeat (first | refine blk_drewN ?_ _ | refine blk_drew ?_ | refine blk_alloc ?_ _)); refine blk_put (cs := #[.int .i64 0, .int .i64 0]) ?_ 0 _ rfl; (with_reducible repeat (first | refine blk_drewN ?_ _ | refine blk_drew ?_ | refine blk_alloc ?_ _)); exact BK517.out) Try.underlying51 rfl (by kernel_rfl)) rfl ?_
            exact ⟨er_, hb1_ HB.out GE517.out⟩
        · rw [if_neg c12] at H
          have c12b0 : decide (a1 < 0) = false := decide_eq_false c12
          clear c12
          by_cases c17 : t520 = 0
          · rw [if_pos c17] at H
            exact absurd H (by simp)
          · rw [if_neg c17] at H
            have c17b0 : (t520 == 0) = false := beq_eq_false_iff_ne.mpr c17
            have c17b1 : (t520 != 0) = true := bne_iff_ne.mpr c17
            simp only [Option.some.injEq, Prod.mk.injEq] at H
            obtain ⟨rfl, rfl, rfl⟩ := H
            try go_wp2_with (first | ((with_reducible refine gate_callee (f := 78) rfl ?_); refine goesL_ (some 22) rfl rfl Try.func78 (by kernel_rfl) rfl #[.int .i64 a0, .int .i64 a1] rfl arr_ ?_; (with_reducible refine (spec_l11Gcd.calls kj2 a0 a1 t520 _ A11.out).mono ?_); rintro e w' ⟨rfl, ⟨nd, rfl⟩⟩; refine ⟨_, rfl, ?_⟩; (try (rw [drewN_self wc]; generalize hq_ : World.drewN wc _ = wc; have n0_ : Aside0 (wc.heap[gb517]? = some (.cells #[.int .i64 0, .int .i64 0] 51 (0, 0))) := ⟨by rw [← hq_]; exact (bk_ BK517.out)⟩; have n1_ : Aside0 (Below w.heap.size w wc) := ⟨by rw [← hq_]; exact (hb1_ HB.out GE517.out)⟩; clear BK517 HB hq_; have BK517 := n0_; have HB := n1_; clear n0_ n1_))))
            have n0_ := Aside0.mk (blk_drew BK517.out)
            have n1_ := Aside0.mk (below_drew1 HB.out)
            clear BK517
            clear HB
            have BK517 := n0_
            have HB := n1_
            clear n0_ n1_
            refine start_ (n := 9) (S := fun w' => True) (ds := []) #[false, false, false, false, false, false, false, false, false] (by kernel_rfl) rfl rfl trivial (fun hHeld => ?_); refine with_tabW spec_FracOf.tab6 spec_FracOf.bits6 (fun HT_ HW_ => ?_)
            generalize wc.drew = w18 at BK517 HB hHeld ⊢
            refine pure_ (i := 0) (N := some 27) (v := ?_) (a' := ?_) #[true, false, false, false, false, false, false, false, false] rfl rfl (any_of HT_.out (by kernel_rfl)) (fun _ _ _ h => h) (Or.inl ⟨by rfl, ?_⟩) ?_ ?_
            rotate_left
            · intro w'
              go_simp
              with_reducible rfl
            rotate_left
            · simp only [Act.put, List.setIfInBounds_toArray, List.set_cons_zero, List.set_cons_succ, i64_w, i32_w]
              rfl
            refine pure_ (i := 1) (N := some 28) (v := ?_) (a' := ?_) #[true, true, false, false, false, false, false, false, false] rfl rfl (any_of HT_.out (by kernel_rfl)) (fun _ _ _ h => h) (Or.inl ⟨by rfl, ?_⟩) ?_ ?_
            rotate_left
            · intro w'
              go_simp
              with_reducible rfl
            rotate_left
            · simp only [Act.put, List.setIfInBounds_toArray, List.set_cons_zero, List.set_cons_succ, i64_w, i32_w]
              rfl
            refine pure_ (i := 2) (N := some 29) (v := ?_) (a' := ?_) #[true, true, true, false, false, false, false, false, false] rfl rfl (any_of HT_.out (by kernel_rfl)) (fun _ _ _ h => h) (Or.inl ⟨by rfl, ?_⟩) ?_ ?_
            rotate_left
            · intro w'
              go_simp
              with_reducible rfl
            rotate_left
            · simp only [Act.put, List.setIfInBounds_toArray, List.set_cons_zero, List.set_cons_succ, i64_w, i32_w]
              rfl
            refine pure_ (i := 3) (N := some 30) (v := ?_) (a' := ?_) #[true, true, true, true, false, false, false, false, false] rfl rfl (any_of HT_.out (by kernel_rfl)) (fun _ _ _ h => h) (Or.inl ⟨by rfl, ?_⟩) ?_ ?_
            rotate_left
            · intro w'
              go_simp
              with_reducible rfl
            rotate_left
            · simp only [Act.put, List.setIfInBounds_toArray, List.set_cons_zero, List.set_cons_succ, i64_w, i32_w]
              rfl
            refine pure_ (i := 4) (N := some 31) (v := ?_) (a' := ?_) #[true, true, true, true, true, false, false, false, false] rfl rfl (any_of HT_.out (by kernel_rfl)) (fun _ _ _ h => h) (Or.inl ⟨by rfl, ?_⟩) ?_ ?_
            rotate_left
            · intro w'
              go_simp
              with_reducible rfl
            rotate_left
            · simp only [Act.put, List.setIfInBounds_toArray, List.set_cons_zero, List.set_cons_succ, i64_w, i32_w]
              rfl
            refine pure_ (i := 5) (N := some 32) (v := ?_) (a' := ?_) #[true, true, true, true, true, true, false, false, false] rfl rfl (any_of HT_.out (by kernel_rfl)) (fun _ _ _ h => h) (Or.inl ⟨by rfl, ?_⟩) ?_ ?_
            rotate_left
            · intro w'
              go_simp
              with_reducible rfl
            rotate_left
            · simp only [Act.put, List.setIfInBounds_toArray, List.set_cons_zero, List.set_cons_succ, i64_w, i32_w]
              rfl
            refine pure_ (i := 6) (N := some 33) (v := ?_) (a' := ?_) #[true, true, true, true, true, true, true, false, false] rfl rfl (any_of HT_.out (by kernel_rfl)) (fun _ _ _ h => h) (Or.inl ⟨by rfl, ?_⟩) ?_ ?_
            rotate_left
            · intro w'
              go_simp
              with_reducible rfl
            rotate_left
            · simp only [Act.put, List.setIfInBounds_toArray, List.set_cons_zero, List.set_cons_succ, i64_w, i32_w]
              rfl
            refine one_ (i := 7) (N := none) #[true, true, true, true, true, true, true, true, false] rfl rfl (one_of HT_.out (by kernel_rfl)) (by decide) (fun K hK => ?_)
            have hs19 : w18.cell? ⟨gb517, 0, none⟩ = some (.int .i64 0) := (blk_cell BK517.out 0).trans rfl
            have hfs19 := blk_frozen BK517.out 0
            have hs20 : w18.cell? ⟨gb517, 1, none⟩ = some (.int .i64 0) := (blk_cell BK517.out 1).trans rfl
            have hfs20 := blk_frozen BK517.out 1
            refine skip_ (w1 := ?_) (by rfl) rfl ?_ ?_
            rotate_left
            · go_simp
              rfl
            refine hK.out _ _ trivial (fun hHeld => ?_)
            clear hK K
            refine pure_ (i := 8) (N := some 5) (v := ?_) (a' := ?_) #[true, true, true, true, true, true, true, true, true] rfl rfl (any_of HT_.out (by kernel_rfl)) (fun _ _ _ h => h) (Or.inl ⟨by rfl, ?_⟩) ?_ ?_
            rotate_left
            · intro w'
              go_simp
              with_reducible rfl
            rotate_left
            · simp only [Act.put, List.setIfInBounds_toArray, List.set_cons_zero, List.set_cons_succ, i64_w, i32_w]
              rfl
            refine done_ (done_of HT_.out (by kernel_rfl)) ?_
            try go_wp2
            refine bodyPost_ret (results_ct rfl _ _ gb517 51 #[.int .i64 (wrap64 (Int.tdiv a0 t520)), .int .i64 (wrap64 (Int.tdiv a1 t520))] (0, 0) _ rfl (by (with_reducible repeat (first | refine blk_drewN ?_ _ | refine blk_drew ?_ | refine blk_alloc ?_ _)); refine blk_put (cs := #[.int .i64 (wrap64 (Int.tdiv a0 t520)), .int .i64 0]) ?_ 1 _ rfl; (with_reducible repeat (first | refine blk_drewN ?_ _ | refine blk_drew ?_ | refine blk_alloc ?_ _)); refine blk_put (cs := #[.int .i64 0, .int .i64 0]) ?_ 0 _ rfl; (with_reducible repeat (first | refine blk_drewN ?_ _ | refine blk_drew ?_ | refine blk_alloc ?_ _)); exact BK517.out) Try.underlying51 rfl (by kernel_rfl)) rfl ?_
            exact ⟨er_, hb1_ HB.out GE517.out⟩
def spec_ShareOf.l0 : Nat → Int → Int → Int → Int → Int → List (S60) → Option (Int × Int × Bool)
  | 0, _, _, _, _, _, _ => none
  | k + 1, x1, x6, x7, x522000, x522001, x522002 => if x7 < (x522002.length : Int) then (if 0 ≤ x7 then (if ((rd_T60 x522002 x7).f0) = x1 then (spec_ShareOf.l0 k x1 (wrap64 (x6 + ((rd_T60 x522002 x7).f1))) (wrap64 (x7 + 1)) x522000 x522001 x522002) else (spec_ShareOf.l0 k x1 x6 (wrap64 (x7 + 1)) x522000 x522001 x522002)) else (none)) else ((spec_RoundOf.f k x522000 x522001 x522002).bind fun t526 => ((spec_FracOf.f k x6 t526).bind fun bt527 => (some (bt527.1, bt527.2.1, bt527.2.2))))
def spec_ShareOf.f (k : Nat) (a0_0 : Int) (a0_1 : Int) (l0_2 : List (S60)) (a1 : Int) : Option (Int × Int × Bool) := (spec_PlanOk.f k a0_0 a0_1 l0_2).bind fun t523 => (if t523 = true then (spec_ShareOf.l0 k a1 0 0 a0_0 a0_1 l0_2) else (some (0, 0, false)))
theorem spec_ShareOf.mono_l : ∀ k, (∀ y0 y1 y2 y3 y4 y5, LeO (spec_ShareOf.l0 k y0 y1 y2 y3 y4 y5) (spec_ShareOf.l0 (k + 1) y0 y1 y2 y3 y4 y5))
  | 0 => fun _ _ _ _ _ _ r h => by simp [spec_ShareOf.l0] at h
  | k + 1 => by
    have ih0 := spec_ShareOf.mono_l k
    · intro y0 y1 y2 y3 y4 y5
      unfold spec_ShareOf.l0
      repeat' first
      | (with_reducible exact ih0 _ _ _ _ _ _)
      | (with_reducible exact spec_FracOf.mono _ _ _)
      | (with_reducible exact spec_PlanOk.mono _ _ _ _)
      | (with_reducible exact spec_RoundOf.mono _ _ _ _)
      | (with_reducible exact LeO.refl _)
      | (with_reducible exact LeO.none _)
      | (with_reducible refine LeO.ite ?_ ?_)
      | (with_reducible refine LeO.bind ?_ (fun _ => ?_))
      | exact ih0 _ _ _ _ _ _
      | exact spec_FracOf.mono _ _ _
      | exact spec_PlanOk.mono _ _ _ _
      | exact spec_RoundOf.mono _ _ _ _
      | exact LeO.none _
      | refine LeO.ite ?_ ?_
      | refine LeO.bind ?_ (fun _ => ?_)
theorem spec_ShareOf.mono : ∀ a0 a1 a2 a3 k, LeO (spec_ShareOf.f k a0 a1 a2 a3) (spec_ShareOf.f (k + 1) a0 a1 a2 a3) := by
  intro a0 a1 a2 a3 k
  have ih0 := spec_ShareOf.mono_l k
  unfold spec_ShareOf.f
  repeat' first
      | (with_reducible exact ih0 _ _ _ _ _ _)
      | (with_reducible exact spec_FracOf.mono _ _ _)
      | (with_reducible exact spec_PlanOk.mono _ _ _ _)
      | (with_reducible exact spec_RoundOf.mono _ _ _ _)
      | (with_reducible exact LeO.refl _)
      | (with_reducible exact LeO.none _)
      | (with_reducible refine LeO.ite ?_ ?_)
      | (with_reducible refine LeO.bind ?_ (fun _ => ?_))
      | exact ih0 _ _ _ _ _ _
      | exact spec_FracOf.mono _ _ _
      | exact spec_PlanOk.mono _ _ _ _
      | exact spec_RoundOf.mono _ _ _ _
      | exact LeO.none _
      | refine LeO.ite ?_ ?_
      | refine LeO.bind ?_ (fun _ => ?_)
set_option maxHeartbeats 8000000 in
set_option maxRecDepth 100000 in
theorem spec_ShareOf.calls (k : Nat) (a0_0 : Int) (a0_1 : Int) (A0_2 : Option Addr) (c0_2 : Nat) (l0_2 : List (S60)) (a1 : Int) (r1 : Int) (r2 : Int) (r3 : Bool) (w : World) (hr0_2 : Kd.C k60 w A0_2 l0_2.length l0_2) (hc0_2 : l0_2.length ≤ c0_2) (h : spec_ShareOf.f k a0_0 a0_1 l0_2 a1 = some (r1, r2, r3)) :
    Calls Try.prog 33 #[.agg #[.int .i64 a0_0, .int .i64 a0_1, .slice A0_2 l0_2.length c0_2], .int .i64 a1] w fun e w' => e = .returned (.tuple #[.agg #[.int .i64 r1, .int .i64 r2], .bool r3]) ∧ Below w.heap.size w w' := by
  have hu29 := Try.underlying29
  have hu51 := Try.underlying51
  have HR0_2 := Aside0.mk hr0_2
  have HC0_2 := Aside0.mk hc0_2
  clear hr0_2 hc0_2
  have HB := Aside0.mk (Below.refl w.heap.size w)
  have H : ((spec_PlanOk.f k a0_0 a0_1 l0_2).bind fun t523 => (if t523 = true then (spec_ShareOf.l0 k a1 0 0 a0_0 a0_1 l0_2) else (some (0, 0, false)))) = some (r1, r2, r3) := h
  clear h
  replace H := Option.bind_eq_some_iff.mp H
  obtain ⟨t523, A30, H⟩ := H
  replace H : (if t523 = true then (spec_ShareOf.l0 k a1 0 0 a0_0 a0_1 l0_2) else (some (0, 0, false))) = some (r1, r2, r3) := H
  have A3 := Aside0.mk A30
  clear A30
  by_cases c4 : t523 = true
  · subst c4
    have H1 : (spec_ShareOf.l0 k a1 0 0 a0_0 a0_1 l0_2) = some (r1, r2, r3) := by rw [if_pos rfl] at H; exact H
    clear H
    have H := H1
    clear H1
    have H' := Aside0.mk H
    clear H
    go_enter Try.func33, Try.ntmps33
    go_wp2_with (first | ((with_reducible refine gate_dst (N := 2) rfl ?_); refine box_event ?hg (N := 2) ?hd (cs := #[.int .i64 a0_0, .int .i64 a0_1, .slice A0_2 l0_2.length c0_2]) (t := 29) ?hr ?_; (case hd => rfl); (case hg => rfl); (case hr => first | (go_simp; done) | (go_simp; rfl)); intro gb521 hg w5 hbox hb; have n0_ := Aside0.mk (below_step (hb_ HB.out) hb); have n1_ := Aside0.mk (hbox); have n2_ := Aside0.mk ((by rw [hg]; exact (below_size (hb_ HB.out)) : w.heap.size ≤ gb521)); have n3_ := Aside0.mk ((by rw [hg]; exact (below_size (hb_ HB.out)) : w.heap.size ≤ gb521)); clear HB; have HB := n0_; have BK521 := n1_; have GW521 := n2_; have GE521 := n3_; clear n0_ n1_ n2_ n3_; clear hb hbox hg) | ((with_reducible refine gate_dst (N := 4) rfl ?_); refine box_event ?hg (N := 4) ?hd (cs := #[.int .i64 0, .int .i64 0]) (t := 51) ?hr ?_; (case hd => rfl); (case hg => rfl); (case hr => first | (go_simp; done) | (go_simp; rfl)); intro gb522 hg w6 hbox hb; have n0_ := Aside0.mk (bb_ BK521.out hb); have n1_ := Aside0.mk (below_step (hb1_ HB.out GE521.out) hb); have n2_ := Aside0.mk (hbox); have n3_ := Aside0.mk ((by rw [hg]; exact (below_size (hb1_ HB.out GE521.out)) : w.heap.size ≤ gb522)); have n4_ := Aside0.mk ((by rw [hg]; exact (below_size (hb1_ HB.out GE521.out)) : w.heap.size ≤ gb522)); have n5_ := Aside0.mk ((bl_ hg BK521.out : gb521 ≠ gb522)); have n6_ := Aside0.mk ((bg_ hg BK521.out : gb522 ≠ gb521)); clear BK521; clear HB; have BK521 := n0_; have HB := n1_; have BK522 := n2_; have GW522 := n3_; have GE522 := n4_; have NB521_522 := n5_; have NB522_521 := n6_; clear n0_ n1_ n2_ n3_ n4_ n5_ n6_; clear hb hbox hg; have hnb7 := NB521_522.out; have hnc7 := NB522_521.out; have hcz8_0 := bc_ BK521.out 0 (.int .i64 a0_0) rfl; have hcz8_1 := bc_ BK521.out 1 (.int .i64 a0_1) rfl; have hcz8_2 := bc_ BK521.out 2 (.slice A0_2 l0_2.length c0_2) rfl; have hfz8_0 := blk_frozen BK521.out 0; have hfz8_1 := blk_frozen BK521.out 1; have hfz8_2 := blk_frozen BK521.out 2) | ((with_reducible refine gate_callee (f := 42) rfl ?_); refine goesL_ (some 9) rfl rfl Try.func42 (by kernel_rfl) rfl #[.agg #[.int .i64 a0_0, .int .i64 a0_1, .slice A0_2 l0_2.length c0_2]] rfl arr_ ?_; (with_reducible refine (spec_PlanOk.calls k a0_0 a0_1 _ _ l0_2 true _ ?side1 ?side2 A3.out).mono ?_); (case side1 => exact kc_ (Kd.C_below HR0_2.out HB.out)); (case side2 => exact HC0_2.out); rintro e w9 ⟨rfl, hb⟩; refine ⟨_, rfl, ?_⟩; have n0_ := Aside0.mk (bb_ BK521.out hb); have n1_ := Aside0.mk (bb_ BK522.out hb); have n2_ := Aside0.mk (below_step (hb2_ HB.out GE521.out GE522.out) hb); clear BK521; clear BK522; clear HB; have BK521 := n0_; have BK522 := n1_; have HB := n2_; clear n0_ n1_ n2_; (try clear hb); (try clear hb2); (try clear hk); (try clear hi)))
    go_loopg [6, 7] k (fun kq v6 v7 w' => ∃ (x6_1 : Int) (x7_1 : Int), v6 = .int .i64 x6_1 ∧ v7 = .int .i64 x7_1 ∧ Aside0 (spec_ShareOf.l0 kq a1 x6_1 x7_1 a0_0 a0_1 l0_2 = some (r1, r2, r3)) ∧ Aside0 (kq ≤ k) ∧ Aside0 (w'.heap[gb521]? = some (.cells #[.int .i64 a0_0, .int .i64 a0_1, (.slice A0_2 l0_2.length c0_2)] 29 (0, 0))) ∧ Aside0 (w'.heap[gb522]? = some (.cells #[.int .i64 0, .int .i64 0] 51 (0, 0))) ∧ Aside0 (Below w.heap.size w w'))
    case atStart => exact ⟨(0), (0), (by first | rfl | (simp; done) | (simp [*]; done)), (by first | rfl | (simp; done) | (simp [*]; done)), H', ⟨Nat.le_refl _⟩, ⟨bk_ BK521.out⟩, ⟨bk_ BK522.out⟩, ⟨hb2_ HB.out GE521.out GE522.out⟩⟩
    case round =>
      clear H'
      try clear p2
      try clear c3
      try clear c4
      try clear c7
      try clear hcz8_0
      try clear hcz8_1
      try clear hcz8_2
      try clear hfz8_0
      try clear hfz8_1
      try clear hfz8_2
      obtain ⟨x6_1, x7_1, rfl, rfl, HA, HK1, BK521, BK522, HB⟩ := hrel
      cases gk with
      | zero => exact absurd HA.out (by simp [spec_ShareOf.l0])
      | succ k1 =>
        have H := HA.out
        clear HA
        simp only [spec_ShareOf.l0] at H
        by_cases c10 : x7_1 < (l0_2.length : Int)
        · rw [if_pos c10] at H
          have c10b0 : decide (x7_1 < (l0_2.length : Int)) = true := decide_eq_true c10
          clear c10
          by_cases c11 : 0 ≤ x7_1
          · rw [if_pos c11] at H
            have c11b0 : decide (0 ≤ x7_1) = true := decide_eq_true c11
            clear c11
            by_cases c12 : ((rd_T60 l0_2 x7_1).f0) = a1
            · rw [if_pos c12] at H
              have c12b0 : (((rd_T60 l0_2 x7_1).f0) == a1) = true := beq_iff_eq.mpr c12
              have c12b1 : (((rd_T60 l0_2 x7_1).f0) != a1) = false := bne_eq_false_iff_eq.mpr c12
              clear c12
              have H' := Aside0.mk H
              clear H
              have hnb13 := NB521_522.out
              have hnc13 := NB522_521.out
              have hcz14_0 := bc_ BK521.out 0 (.int .i64 a0_0) rfl
              have hcz14_1 := bc_ BK521.out 1 (.int .i64 a0_1) rfl
              have hcz14_2 := bc_ BK521.out 2 (.slice A0_2 l0_2.length c0_2) rfl
              have hfz14_0 := blk_frozen BK521.out 0
              have hfz14_1 := blk_frozen BK521.out 1
              have hfz14_2 := blk_frozen BK521.out 2
              have p524 : 0 ≤ (x7_1 : Int) := of_decide_eq_true (by first | (with_reducible assumption) | assumption)
              have q524 : x7_1 < (l0_2.length : Int) := of_decide_eq_true (by first | (with_reducible assumption) | assumption)
              obtain ⟨ad524, e524, hx524_0, hx524_1⟩ := at_T60 HR0_2.out x7_1 p524 q524
              cases e524
              replace hx524_0 := (HB.out.cell (World.block_lt_of_cell? w _ hx524_0)).trans hx524_0
              replace hx524_1 := (HB.out.cell (World.block_lt_of_cell? w _ hx524_1)).trans hx524_1
              replace p524 := eq_true p524
              replace q524 := eq_true q524
              have p525 : 0 ≤ (x7_1 : Int) := of_decide_eq_true (by first | (with_reducible assumption) | assumption)
              have q525 : x7_1 < (l0_2.length : Int) := of_decide_eq_true (by first | (with_reducible assumption) | assumption)
              obtain ⟨ad525, e525, hx525_0, hx525_1⟩ := at_T60 HR0_2.out x7_1 p525 q525
              obtain rfl : ad524 = ad525 := (by injection e525)
              replace hx525_0 := (HB.out.cell (World.block_lt_of_cell? w _ hx525_0)).trans hx525_0
              replace hx525_1 := (HB.out.cell (World.block_lt_of_cell? w _ hx525_1)).trans hx525_1
              replace p525 := eq_true p525
              replace q525 := eq_true q525
              go_wp2
              go_roundg k1
              case measure => have := HK1.out; omega
              case rel => exact ⟨(wrap64 (x6_1 + ((rd_T60 l0_2 x7_1).f1))), (wrap64 (x7_1 + 1)), (by first | rfl | (simp; done) | (simp [*]; done)), (by first | rfl | (simp; done) | (simp [*]; done)), H', ⟨by have := HK1.out; omega⟩, ⟨bk_ BK521.out⟩, ⟨bk_ BK522.out⟩, ⟨hb2_ HB.out GE521.out GE522.out⟩⟩
            · rw [if_neg c12] at H
              have c12b0 : (((rd_T60 l0_2 x7_1).f0) == a1) = false := beq_eq_false_iff_ne.mpr c12
              have c12b1 : (((rd_T60 l0_2 x7_1).f0) != a1) = true := bne_iff_ne.mpr c12
              have H' := Aside0.mk H
              clear H
              have hnb15 := NB521_522.out
              have hnc15 := NB522_521.out
              have hcz16_0 := bc_ BK521.out 0 (.int .i64 a0_0) rfl
              have hcz16_1 := bc_ BK521.out 1 (.int .i64 a0_1) rfl
              have hcz16_2 := bc_ BK521.out 2 (.slice A0_2 l0_2.length c0_2) rfl
              have hfz16_0 := blk_frozen BK521.out 0
              have hfz16_1 := blk_frozen BK521.out 1
              have hfz16_2 := blk_frozen BK521.out 2
              have p524 : 0 ≤ (x7_1 : Int) := of_decide_eq_true (by first | (with_reducible assumption) | assumption)
              have q524 : x7_1 < (l0_2.length : Int) := of_decide_eq_true (by first | (with_reducible assumption) | assumption)
              obtain ⟨ad524, e524, hx524_0, hx524_1⟩ := at_T60 HR0_2.out x7_1 p524 q524
              cases e524
              replace hx524_0 := (HB.out.cell (World.block_lt_of_cell? w _ hx524_0)).trans hx524_0
              replace hx524_1 := (HB.out.cell (World.block_lt_of_cell? w _ hx524_1)).trans hx524_1
              replace p524 := eq_true p524
              replace q524 := eq_true q524
              go_wp2
              go_roundg k1
              case measure => have := HK1.out; omega
              case rel => exact ⟨(x6_1), (wrap64 (x7_1 + 1)), (by first | rfl | (simp; done) | (simp [*]; done)), (by first | rfl | (simp; done) | (simp [*]; done)), H', ⟨by have := HK1.out; omega⟩, ⟨bk_ BK521.out⟩, ⟨bk_ BK522.out⟩, ⟨hb2_ HB.out GE521.out GE522.out⟩⟩
          · rw [if_neg c11] at H
            exact absurd H (by simp)
        · rw [if_neg c10] at H
          have c10b0 : decide (x7_1 < (l0_2.length : Int)) = false := decide_eq_false c10
          clear c10
          replace H := Option.bind_eq_some_iff.mp H
          obtain ⟨t526, A170, H⟩ := H
          replace H : ((spec_FracOf.f k1 x6_1 t526).bind fun bt527 => (some (bt527.1, bt527.2.1, bt527.2.2))) = some (r1, r2, r3) := H
          have A17 := Aside0.mk A170
          clear A170
          replace H := Option.bind_eq_some_iff.mp H
          obtain ⟨⟨t527, t528, t529⟩, A180, H⟩ := H
          replace H : (some (t527, t528, t529)) = some (r1, r2, r3) := H
          have A18 := Aside0.mk A180
          clear A180
          simp only [Option.some.injEq, Prod.mk.injEq] at H
          obtain ⟨rfl, rfl, rfl⟩ := H
          have hnb19 := NB521_522.out
          have hnc19 := NB522_521.out
          have hcz20_0 := bc_ BK521.out 0 (.int .i64 a0_0) rfl
          have hcz20_1 := bc_ BK521.out 1 (.int .i64 a0_1) rfl
          have hcz20_2 := bc_ BK521.out 2 (.slice A0_2 l0_2.length c0_2) rfl
          have hfz20_0 := blk_frozen BK521.out 0
          have hfz20_1 := blk_frozen BK521.out 1
          have hfz20_2 := blk_frozen BK521.out 2
          go_wp2_with (first | ((with_reducible refine gate_callee (f := 14) rfl ?_); refine goesL_ (some 37) rfl rfl Try.func14 (by kernel_rfl) rfl #[.agg #[.int .i64 a0_0, .int .i64 a0_1, .slice A0_2 l0_2.length c0_2]] rfl arr_ ?_; (with_reducible refine (spec_RoundOf.calls k1 a0_0 a0_1 _ _ l0_2 t526 _ ?side1 ?side2 A17.out).mono ?_); (case side1 => exact kc_ (Kd.C_below HR0_2.out HB.out)); (case side2 => exact HC0_2.out); rintro e w21 ⟨rfl, hb⟩; refine ⟨_, rfl, ?_⟩; have n0_ := Aside0.mk (bb_ BK521.out hb); have n1_ := Aside0.mk (bb_ BK522.out hb); have n2_ := Aside0.mk (below_step (hb2_ HB.out GE521.out GE522.out) hb); clear BK521; clear BK522; clear HB; have BK521 := n0_; have BK522 := n1_; have HB := n2_; clear n0_ n1_ n2_; (try clear hb); (try clear hb2); (try clear hk); (try clear hi)) | ((with_reducible refine gate_callee (f := 61) rfl ?_); refine goesL_ (some 38) rfl rfl Try.func61 (by kernel_rfl) rfl #[.int .i64 x6_1, .int .i64 t526] rfl arr_ ?_; (with_reducible refine (spec_FracOf.calls k1 x6_1 t526 t527 t528 t529 _ A18.out).mono ?_); rintro e w22 ⟨rfl, hb⟩; refine ⟨_, rfl, ?_⟩; have n0_ := Aside0.mk (bb_ BK521.out hb); have n1_ := Aside0.mk (bb_ BK522.out hb); have n2_ := Aside0.mk (below_step (hb2_ HB.out GE521.out GE522.out) hb); clear BK521; clear BK522; clear HB; have BK521 := n0_; have BK522 := n1_; have HB := n2_; clear n0_ n1_ n2_; (try clear hb); (try clear hb2); (try clear hk); (try clear hi); have hcz23_0 := bc_ BK522.out 0 (.int .i64 0) rfl; have hcz23_1 := bc_ BK522.out 1 (.int .i64 0) rfl; have hfz23_0 := blk_frozen BK522.out 0; have hfz23_1 := blk_frozen BK522.out 1))
          refine bodyPost_ret (results_ct rfl _ _ gb522 51 #[.int .i64 t527, .int .i64 t528] (0, 0) _ rfl (by (with_reducible repeat (first | refine blk_drewN ?_ _ | refine blk_drew ?_ | refine blk_alloc ?_ _)); refine blk_put (cs := #[.int .i64 t527, .int .i64 0]) ?_ 1 _ rfl; (with_reducible repeat (first | refine blk_drewN ?_ _ | refine blk_drew ?_ | refine blk_alloc ?_ _)); refine blk_put (cs := #[.int .i64 0, .int .i64 0]) ?_ 0 _ rfl; (with_reducible repeat (first | refine blk_drewN ?_ _ | refine blk_drew ?_ | refine blk_alloc ?_ _)); exact BK522.out) Try.underlying51 rfl (by kernel_rfl)) rfl ?_
          exact ⟨er_, hb2_ HB.out GE521.out GE522.out⟩
  · replace c4 := Bool.eq_false_iff.mpr c4
    subst c4
    have H1 : (some (0, 0, false)) = some (r1, r2, r3) := by rw [if_neg (show ¬ (false = true) by decide)] at H; exact H
    clear H
    have H := H1
    clear H1
    simp only [Option.some.injEq, Prod.mk.injEq] at H
    obtain ⟨rfl, rfl, rfl⟩ := H
    go_enter Try.func33, Try.ntmps33
    go_wp2_with (first | ((with_reducible refine gate_dst (N := 2) rfl ?_); refine box_event ?hg (N := 2) ?hd (cs := #[.int .i64 a0_0, .int .i64 a0_1, .slice A0_2 l0_2.length c0_2]) (t := 29) ?hr ?_; (case hd => rfl); (case hg => rfl); (case hr => first | (go_simp; done) | (go_simp; rfl)); intro gb521 hg w24 hbox hb; have n0_ := Aside0.mk (below_step (hb_ HB.out) hb); have n1_ := Aside0.mk (hbox); have n2_ := Aside0.mk ((by rw [hg]; exact (below_size (hb_ HB.out)) : w.heap.size ≤ gb521)); have n3_ := Aside0.mk ((by rw [hg]; exact (below_size (hb_ HB.out)) : w.heap.size ≤ gb521)); clear HB; have HB := n0_; have BK521 := n1_; have GW521 := n2_; have GE521 := n3_; clear n0_ n1_ n2_ n3_; clear hb hbox hg) | ((with_reducible refine gate_dst (N := 4) rfl ?_); refine box_event ?hg (N := 4) ?hd (cs := #[.int .i64 0, .int .i64 0]) (t := 51) ?hr ?_; (case hd => rfl); (case hg => rfl); (case hr => first | (go_simp; done) | (go_simp; rfl)); intro gb522 hg w25 hbox hb; have n0_ := Aside0.mk (bb_ BK521.out hb); have n1_ := Aside0.mk (below_step (hb1_ HB.out GE521.out) hb); have n2_ := Aside0.mk (hbox); have n3_ := Aside0.mk ((by rw [hg]; exact (below_size (hb1_ HB.out GE521.out)) : w.heap.size ≤ gb522)); have n4_ := Aside0.mk ((by rw [hg]; exact (below_size (hb1_ HB.out GE521.out)) : w.heap.size ≤ gb522)); have n5_ := Aside0.mk ((bl_ hg BK521.out : gb521 ≠ gb522)); have n6_ := Aside0.mk ((bg_ hg BK521.out : gb522 ≠ gb521)); clear BK521; clear HB; have BK521 := n0_; have HB := n1_; have BK522 := n2_; have GW522 := n3_; have GE522 := n4_; have NB521_522 := n5_; have NB522_521 := n6_; clear n0_ n1_ n2_ n3_ n4_ n5_ n6_; clear hb hbox hg; have hnb26 := NB521_522.out; have hnc26 := NB522_521.out; have hcz27_0 := bc_ BK521.out 0 (.int .i64 a0_0) rfl; have hcz27_1 := bc_ BK521.out 1 (.int .i64 a0_1) rfl; have hcz27_2 := bc_ BK521.out 2 (.slice A0_2 l0_2.length c0_2) rfl; have hfz27_0 := blk_frozen BK521.out 0; have hfz27_1 := blk_frozen BK521.out 1; have hfz27_2 := blk_frozen BK521.out 2) | ((with_reducible refine gate_callee (f := 42) rfl ?_); refine goesL_ (some 9) rfl rfl Try.func42 (by kernel_rfl) rfl #[.agg #[.int .i64 a0_0, .int .i64 a0_1, .slice A0_2 l0_2.length c0_2]] rfl arr_ ?_; (with_reducible refine (spec_PlanOk.calls k a0_0 a0_1 _ _ l0_2 false _ ?side1 ?side2 A3.out).mono ?_); (case side1 => exact kc_ (Kd.C_below HR0_2.out HB.out)); (case side2 => exact HC0_2.out); rintro e w28 ⟨rfl, hb⟩; refine ⟨_, rfl, ?_⟩; have n0_ := Aside0.mk (bb_ BK521.out hb); have n1_ := Aside0.mk (bb_ BK522.out hb); have n2_ := Aside0.mk (below_step (hb2_ HB.out GE521.out GE522.out) hb); clear BK521; clear BK522; clear HB; have BK521 := n0_; have BK522 := n1_; have HB := n2_; clear n0_ n1_ n2_; (try clear hb); (try clear hb2); (try clear hk); (try clear hi); have hcz29_0 := bc_ BK522.out 0 (.int .i64 0) rfl; have hcz29_1 := bc_ BK522.out 1 (.int .i64 0) rfl; have hfz29_0 := blk_frozen BK522.out 0; have hfz29_1 := blk_frozen BK522.out 1))
    refine bodyPost_ret (results_ct rfl _ _ gb522 51 #[.int .i64 0, .int .i64 0] (0, 0) _ rfl (by (with_reducible repeat (first | refine blk_drewN ?_ _ | refine blk_drew ?_ | refine blk_alloc ?_ _)); refine blk_put (cs := #[.int .i64 0, .int .i64 0]) ?_ 1 _ rfl; (with_reducible repeat (first | refine blk_drewN ?_ _ | refine blk_drew ?_ | refine blk_alloc ?_ _)); refine blk_put (cs := #[.int .i64 0, .int .i64 0]) ?_ 0 _ rfl; (with_reducible repeat (first | refine blk_drewN ?_ _ | refine blk_drew ?_ | refine blk_alloc ?_ _)); exact BK522.out) Try.underlying51 rfl (by kernel_rfl)) rfl ?_
    exact ⟨er_, hb2_ HB.out GE521.out GE522.out⟩
def impl_gcd.l0 : Nat → Int → Int → Option (Int)
  | 0, _, _ => none
  | k + 1, x0, x1 => if x1 = 0 then (some x0) else (impl_gcd.l0 k x1 (Int.tmod x0 x1))
def impl_gcd.f (k : Nat) (a0 : Int) (a1 : Int) : Option (Int) := impl_gcd.l0 k a0 a1
theorem impl_gcd.mono_l : ∀ k, (∀ y0 y1, LeO (impl_gcd.l0 k y0 y1) (impl_gcd.l0 (k + 1) y0 y1))
  | 0 => fun _ _ r h => by simp [impl_gcd.l0] at h
  | k + 1 => by
    have ih0 := impl_gcd.mono_l k
    · intro y0 y1
      unfold impl_gcd.l0
      repeat' first
      | (with_reducible exact ih0 _ _)
      | (with_reducible exact LeO.refl _)
      | (with_reducible exact LeO.none _)
      | (with_reducible refine LeO.ite ?_ ?_)
      | (with_reducible refine LeO.bind ?_ (fun _ => ?_))
      | exact ih0 _ _
      | exact LeO.none _
      | refine LeO.ite ?_ ?_
      | refine LeO.bind ?_ (fun _ => ?_)
theorem impl_gcd.mono : ∀ a0 a1 k, LeO (impl_gcd.f k a0 a1) (impl_gcd.f (k + 1) a0 a1) := by
  intro a0 a1 k
  have ih0 := impl_gcd.mono_l k
  unfold impl_gcd.f
  repeat' first
      | (with_reducible exact ih0 _ _)
      | (with_reducible exact LeO.refl _)
      | (with_reducible exact LeO.none _)
      | (with_reducible refine LeO.ite ?_ ?_)
      | (with_reducible refine LeO.bind ?_ (fun _ => ?_))
      | exact ih0 _ _
      | exact LeO.none _
      | refine LeO.ite ?_ ?_
      | refine LeO.bind ?_ (fun _ => ?_)
set_option maxHeartbeats 8000000 in
set_option maxRecDepth 100000 in
theorem impl_gcd.calls (k : Nat) (a0 : Int) (a1 : Int) (r : Int) (w : World) (h : impl_gcd.f k a0 a1 = some r) :
    Calls Try.prog 79 #[.int .i64 a0, .int .i64 a1] w fun e w' => e = .returned (.int .i64 r) ∧ Drawn0 w w' := by
  have H : (impl_gcd.l0 k a0 a1) = some r := h
  clear h
  have H' := Aside0.mk H
  clear H
  go_enter Try.func79, Try.ntmps79
  go_wp2
  repeat (go_quiet (fail); try go_wp2)
  go_loopg [0, 1] k (fun kq v0 v1 w' => ∃ (x0_1 : Int) (x1_1 : Int), v0 = .int .i64 x0_1 ∧ v1 = .int .i64 x1_1 ∧ Aside0 (impl_gcd.l0 kq x0_1 x1_1 = some r) ∧ Aside0 (kq ≤ k) ∧ Drawn0 w w')
  case atStart => exact ⟨(a0), (a1), (by first | rfl | (simp; done) | (simp [*]; done)), (by first | rfl | (simp; done) | (simp [*]; done)), H', ⟨Nat.le_refl _⟩, by repeat (first | exact Drawn0.refl _ | apply Drawn0.step)⟩
  case round =>
    clear H'
    try clear p2
    obtain ⟨x0_1, x1_1, rfl, rfl, HA, HK1, ⟨m1, rfl⟩⟩ := hrel
    cases gk with
    | zero => exact absurd HA.out (by simp [impl_gcd.l0])
    | succ k1 =>
      have H := HA.out
      clear HA
      simp only [impl_gcd.l0] at H
      by_cases c3 : x1_1 = 0
      · rw [if_pos c3] at H
        have c3b0 : (x1_1 == 0) = true := beq_iff_eq.mpr c3
        have c3b1 : (x1_1 != 0) = false := bne_eq_false_iff_eq.mpr c3
        clear c3
        obtain rfl := Option.some.inj H
        go_wp2
        repeat (go_quiet (fail); try go_wp2)
        go_ret
        exact ⟨by first | rfl | (simp; done) | (simp [*]; done), by repeat (first | exact Drawn0.refl _ | apply Drawn0.step)⟩
      · rw [if_neg c3] at H
        have c3b0 : (x1_1 == 0) = false := beq_eq_false_iff_ne.mpr c3
        have c3b1 : (x1_1 != 0) = true := bne_iff_ne.mpr c3
        have H' := Aside0.mk H
        clear H
        go_wp2
        repeat (go_quiet (fail); try go_wp2)
        go_roundg k1
        case measure => have := HK1.out; omega
        case rel => exact ⟨(x1_1), (Int.tmod x0_1 x1_1), (by first | rfl | (simp; done) | (simp [*]; done)), (by first | rfl | (simp; done) | (simp [*]; done)), H', ⟨by have := HK1.out; omega⟩, by repeat (first | exact Drawn0.refl _ | apply Drawn0.step)⟩
def impl_size.f (a0 : Int) : Option (Int) := some (mx a0 (wrap64 (-a0)))
set_option maxHeartbeats 8000000 in
set_option maxRecDepth 100000 in
theorem impl_size.calls (a0 : Int) (r : Int) (w : World) (h : impl_size.f a0 = some r) :
    Calls Try.prog 80 #[.int .i64 a0] w fun e w' => e = .returned (.int .i64 r) ∧ Below w.heap.size w w' := by
  have HB := Aside0.mk (Below.refl w.heap.size w)
  have H : (some (mx a0 (wrap64 (-a0)))) = some r := h
  clear h
  obtain ⟨ji2, hji2⟩ : ∃ j_ : Int, (mx a0 (wrap64 (-a0))) = j_ := ⟨_, rfl⟩
  replace H : (some ji2) = some r := by first | (rw [hji2] at H; exact H) | (simp only [hji2] at H ⊢; exact H)
  have hji2_ : (if a0 < (wrap64 (-a0)) then (wrap64 (-a0)) else a0) = ji2 := hji2
  obtain rfl := Option.some.inj H
  go_enter Try.func80, Try.ntmps80
  go_wp2
  go_ret
  exact ⟨by first | rfl | (simp [errW_none, errW_some] <;> rfl) | (simp only [← hji2]; first | rfl | (simp [errW_none, errW_some] <;> rfl)) | (simp [*, errW_none, errW_some] <;> rfl), hb_ HB.out⟩
def impl_FracOf.j0 : Nat → Int → Int → Bool → Option (Int × Int × Bool)
  | 0, _, _, _ => none
  | k + 1, x0, x1, x18 => if x18 = true then (some (0, 0, false)) else (if x1 < 0 then ((impl_size.f (wrap64 (-x0))).bind fun t533 => ((impl_gcd.f k t533 (wrap64 (-x1))).bind fun t534 => (if t534 = 0 then (none) else (some (wrap64 (Int.tdiv (wrap64 (-x0)) t534), wrap64 (Int.tdiv (wrap64 (-x1)) t534), true))))) else ((impl_size.f x0).bind fun t535 => ((impl_gcd.f k t535 x1).bind fun t536 => (if t536 = 0 then (none) else (some (wrap64 (Int.tdiv x0 t536), wrap64 (Int.tdiv x1 t536), true))))))
def impl_FracOf.f (k : Nat) (a0 : Int) (a1 : Int) : Option (Int × Int × Bool) := if a1 = 0 then (impl_FracOf.j0 k a0 a1 true) else ((impl_in.f a0 (-4000000000000) 4000000000000).bind fun t531 => (if t531 = true then ((impl_in.f a1 (-4000000000000) 4000000000000).bind fun t532 => (impl_FracOf.j0 k a0 a1 (!t532))) else (impl_FracOf.j0 k a0 a1 true)))
theorem impl_FracOf.mono_l : ∀ k, (∀ y0 y1 y2, LeO (impl_FracOf.j0 k y0 y1 y2) (impl_FracOf.j0 (k + 1) y0 y1 y2))
  | 0 => fun _ _ _ r h => by simp [impl_FracOf.j0] at h
  | k + 1 => by
    have ih0 := impl_FracOf.mono_l k
    · intro y0 y1 y2
      unfold impl_FracOf.j0
      repeat' first
      | (with_reducible exact ih0 _ _ _)
      | (with_reducible exact impl_gcd.mono _ _ _)
      | (with_reducible exact LeO.refl _)
      | (with_reducible exact LeO.none _)
      | (with_reducible refine LeO.ite ?_ ?_)
      | (with_reducible refine LeO.bind ?_ (fun _ => ?_))
      | exact ih0 _ _ _
      | exact impl_gcd.mono _ _ _
      | exact LeO.none _
      | refine LeO.ite ?_ ?_
      | refine LeO.bind ?_ (fun _ => ?_)
theorem impl_FracOf.mono : ∀ a0 a1 k, LeO (impl_FracOf.f k a0 a1) (impl_FracOf.f (k + 1) a0 a1) := by
  intro a0 a1 k
  have ih0 := impl_FracOf.mono_l k
  unfold impl_FracOf.f
  repeat' first
      | (with_reducible exact ih0 _ _ _)
      | (with_reducible exact impl_gcd.mono _ _ _)
      | (with_reducible exact LeO.refl _)
      | (with_reducible exact LeO.none _)
      | (with_reducible refine LeO.ite ?_ ?_)
      | (with_reducible refine LeO.bind ?_ (fun _ => ?_))
      | exact ih0 _ _ _
      | exact impl_gcd.mono _ _ _
      | exact LeO.none _
      | refine LeO.ite ?_ ?_
      | refine LeO.bind ?_ (fun _ => ?_)
def impl_FracOf.T6 : Bool × List (List Nat × List Nat) := (true, [([], []), ([], []), ([0, 1], [0, 1]), ([], []), ([], []), ([3, 4], [3, 4]), ([2, 5], [2, 5]), ([6, 0, 1, 2, 3, 4, 5, 6], [6]), ([7, 0, 1, 2, 3, 4, 5, 6, 7], [])])
def impl_FracOf.B6 : List Nat := [0, 0, 3, 0, 0, 24, 63, 127, 255]
theorem impl_FracOf.tab6 : rtab .any (opsOf Try.f62 6) = impl_FracOf.T6 := by kernel_rfl
theorem impl_FracOf.bits6 : waitsOk impl_FracOf.T6.2 impl_FracOf.B6 = true := by kernel_rfl
set_option maxHeartbeats 8000000 in
set_option maxRecDepth 100000 in
theorem impl_FracOf.calls (k : Nat) (a0 : Int) (a1 : Int) (r1 : Int) (r2 : Int) (r3 : Bool) (w : World) (h : impl_FracOf.f k a0 a1 = some (r1, r2, r3)) :
    Calls Try.prog 62 #[.int .i64 a0, .int .i64 a1] w fun e w' => e = .returned (.tuple #[.agg #[.int .i64 r1, .int .i64 r2], .bool r3]) ∧ Below w.heap.size w w' := by
  have hu51 := Try.underlying51
  have HB := Aside0.mk (Below.refl w.heap.size w)
  have H : (if a1 = 0 then (impl_FracOf.j0 k a0 a1 true) else ((impl_in.f a0 (-4000000000000) 4000000000000).bind fun t531 => (if t531 = true then ((impl_in.f a1 (-4000000000000) 4000000000000).bind fun t532 => (impl_FracOf.j0 k a0 a1 (!t532))) else (impl_FracOf.j0 k a0 a1 true)))) = some (r1, r2, r3) := h
  clear h
  have HC3 := Aside0.mk H
  clear H
  go_enter Try.func62, Try.ntmps62
  go_upto_region 1 with (first | ((with_reducible refine gate_dst (N := 4) rfl ?_); refine box_event ?hg (N := 4) ?hd (cs := #[.int .i64 0, .int .i64 0]) (t := 51) ?hr ?_; (case hd => rfl); (case hg => rfl); (case hr => first | (go_simp; done) | (go_simp; rfl)); intro gb530 hg w4 hbox hb; have n0_ := Aside0.mk (below_step (hb_ HB.out) hb); have n1_ := Aside0.mk (hbox); have n2_ := Aside0.mk ((by rw [hg]; exact (below_size (hb_ HB.out)) : w.heap.size ≤ gb530)); have n3_ := Aside0.mk ((by rw [hg]; exact (below_size (hb_ HB.out)) : w.heap.size ≤ gb530)); clear HB; have HB := n0_; have BK530 := n1_; have GW530 := n2_; have GE530 := n3_; clear n0_ n1_ n2_ n3_; clear hb hbox hg))
  (try simp only [Act.put, List.setIfInBounds_toArray, List.set_cons_zero, List.set_cons_succ])
  go_cut [18] (fun v18 wc => ∃ (kq : Nat) (x18_2 : Bool), v18 = .bool x18_2 ∧ Aside0 (impl_FracOf.j0 kq a0 a1 x18_2 = some (r1, r2, r3)) ∧ Aside0 (kq ≤ k) ∧ Aside0 (wc.heap[gb530]? = some (.cells #[.int .i64 0, .int .i64 0] 51 (0, 0))) ∧ Aside0 (Below w.heap.size w wc))
  case first =>
    have H := HC3.out
    clear HC3
    by_cases c5 : a1 = 0
    · rw [if_pos c5] at H
      have c5b0 : (a1 == 0) = true := beq_iff_eq.mpr c5
      have c5b1 : (a1 != 0) = false := bne_eq_false_iff_eq.mpr c5
      clear c5
      (first | rw [c5b0] | (simp only [i64_w, i32_w]; rw [c5b0]) | skip)
      have H' := Aside0.mk H
      clear H
      go_wp2
      go_meet
      case rel => exact ⟨_, (true), (by first | rfl | (simp; done) | (simp [*]; done)), H', ⟨by first | omega | exact Nat.le_refl _⟩, ⟨bk_ BK530.out⟩, ⟨hb1_ HB.out GE530.out⟩⟩
    · rw [if_neg c5] at H
      have c5b0 : (a1 == 0) = false := beq_eq_false_iff_ne.mpr c5
      have c5b1 : (a1 != 0) = true := bne_iff_ne.mpr c5
      (first | rw [c5b0] | (simp only [i64_w, i32_w]; rw [c5b0]) | skip)
      replace H := Option.bind_eq_some_iff.mp H
      obtain ⟨t531, A60, H⟩ := H
      replace H : (if t531 = true then ((impl_in.f a1 (-4000000000000) 4000000000000).bind fun t532 => (impl_FracOf.j0 k a0 a1 (!t532))) else (impl_FracOf.j0 k a0 a1 true)) = some (r1, r2, r3) := H
      have A6 := Aside0.mk A60
      clear A60
      by_cases c7 : t531 = true
      · subst c7
        have H1 : ((impl_in.f a1 (-4000000000000) 4000000000000).bind fun t532 => (impl_FracOf.j0 k a0 a1 (!t532))) = some (r1, r2, r3) := by rw [if_pos rfl] at H; exact H
        clear H
        have H := H1
        clear H1
        replace H := Option.bind_eq_some_iff.mp H
        obtain ⟨t532, A80, H⟩ := H
        replace H : (impl_FracOf.j0 k a0 a1 (!t532)) = some (r1, r2, r3) := H
        have A8 := Aside0.mk A80
        clear A80
        have H' := Aside0.mk H
        clear H
        go_wp2_with (first | (go_at_call 52; (with_reducible refine (impl_in.calls a0 (-4000000000000) 4000000000000 true _ A6.out).mono ?_); rintro e w' ⟨rfl, ⟨nd, rfl⟩⟩) | (go_at_call 52; (with_reducible refine (impl_in.calls a1 (-4000000000000) 4000000000000 t532 _ A8.out).mono ?_); rintro e w' ⟨rfl, ⟨nd, rfl⟩⟩))
        go_meet
        case rel => exact ⟨_, (!t532), (by first | rfl | (simp; done) | (simp [*]; done)), H', ⟨by first | omega | exact Nat.le_refl _⟩, ⟨bk_ BK530.out⟩, ⟨hb1_ HB.out GE530.out⟩⟩
      · replace c7 := Bool.eq_false_iff.mpr c7
        subst c7
        have H1 : (impl_FracOf.j0 k a0 a1 true) = some (r1, r2, r3) := by rw [if_neg (show ¬ (false = true) by decide)] at H; exact H
        clear H
        have H := H1
        clear H1
        have H' := Aside0.mk H
        clear H
        go_wp2_with (first | (go_at_call 52; (with_reducible refine (impl_in.calls a0 (-4000000000000) 4000000000000 false _ A6.out).mono ?_); rintro e w' ⟨rfl, ⟨nd, rfl⟩⟩))
        go_meet
        case rel => exact ⟨_, (true), (by first | rfl | (simp; done) | (simp [*]; done)), H', ⟨by first | omega | exact Nat.le_refl _⟩, ⟨bk_ BK530.out⟩, ⟨hb1_ HB.out GE530.out⟩⟩
  case rest =>
    clear HC3
    try clear p2
    try clear c5
    try clear c5b0
    try clear c5b1
    try clear c6
    try clear c7
    obtain ⟨kq, x18_2, rfl, HA, HJ2, BK530, HB⟩ := hcut
    cases kq with
    | zero => exact absurd HA.out (by simp [impl_FracOf.j0])
    | succ kj2 =>
      have H := HA.out
      clear HA
      simp only [impl_FracOf.j0] at H
      by_cases c9 : x18_2 = true
      · subst c9
        have H1 : (some (0, 0, false)) = some (r1, r2, r3) := by rw [if_pos rfl] at H; exact H
        clear H
        have H := H1
        clear H1
        simp only [Option.some.injEq, Prod.mk.injEq] at H
        obtain ⟨rfl, rfl, rfl⟩ := H
        have hcz10_0 := bc_ BK530.out 0 (.int .i64 0) rfl
        have hcz10_1 := bc_ BK530.out 1 (.int .i64 0) rfl
        have hfz10_0 := blk_frozen BK530.out 0
        have hfz10_1 := blk_frozen BK530.out 1
        go_wp2
        refine bodyPost_ret (results_ct rfl _ _ gb530 51 #[.int .i64 0, .int .i64 0] (0, 0) _ rfl (by (with_reducible repeat (first | refine blk_drewN ?_ _ | refine blk_drew ?_ | refine blk_alloc ?_ _)); refine blk_put (cs := #[.int .i64 0, .int .i64 0]) ?_ 1 _ rfl; (with_reducible repeat (first | refine blk_drewN ?_ _ | refine blk_drew ?_ | refine blk_alloc ?_ _)); refine blk_put (cs := #[.int .i64 0, .int .i64 0]) ?_ 0 _ rfl; (with_reducible repeat (first | refine blk_drewN ?_ _ | refine blk_drew ?_ | refine blk_alloc ?_ _)); exact BK530.out) Try.underlying51 rfl (by kernel_rfl)) rfl ?_
        exact ⟨er_, hb1_ HB.out GE530.out⟩
      · replace c9 := Bool.eq_false_iff.mpr c9
        subst c9
        have H1 : (if a1 < 0 then ((impl_size.f (wrap64 (-a0))).bind fun t533 => ((impl_gcd.f kj2 t533 (wrap64 (-a1))).bind fun t534 => (if t534 = 0 then (none) else (some (wrap64 (Int.tdiv (wrap64 (-a0)) t534), wrap64 (Int.tdiv (wrap64 (-a1)) t534), true))))) else ((impl_size.f a0).bind fun t535 => ((impl_gcd.f kj2 t535 a1).bind fun t536 => (if t536 = 0 then (none) else (some (wrap64 (Int.tdiv a0 t536), wrap64 (Int.tdiv a1 t536), true)))))) = some (r1, r2, r3) := by rw [if_neg (show ¬ (false = true) by decide)] at H; exact H
        clear H
        have H := H1
        clear H1
        by_cases c11 : a1 < 0
        · rw [if_pos c11] at H
          have c11b0 : decide (a1 < 0) = true := decide_eq_true c11
          clear c11
          replace H := Option.bind_eq_some_iff.mp H
          obtain ⟨t533, A120, H⟩ := H
          replace H : ((impl_gcd.f kj2 t533 (wrap64 (-a1))).bind fun t534 => (if t534 = 0 then (none) else (some (wrap64 (Int.tdiv (wrap64 (-a0)) t534), wrap64 (Int.tdiv (wrap64 (-a1)) t534), true)))) = some (r1, r2, r3) := H
          have A12 := Aside0.mk A120
          clear A120
          replace H := Option.bind_eq_some_iff.mp H
          obtain ⟨t534, A130, H⟩ := H
          replace H : (if t534 = 0 then (none) else (some (wrap64 (Int.tdiv (wrap64 (-a0)) t534), wrap64 (Int.tdiv (wrap64 (-a1)) t534), true))) = some (r1, r2, r3) := H
          have A13 := Aside0.mk A130
          clear A130
          by_cases c14 : t534 = 0
          · rw [if_pos c14] at H
            exact absurd H (by simp)
          · rw [if_neg c14] at H
            have c14b0 : (t534 == 0) = false := beq_eq_false_iff_ne.mpr c14
            have c14b1 : (t534 != 0) = true := bne_iff_ne.mpr c14
            simp only [Option.some.injEq, Prod.mk.injEq] at H
            obtain ⟨rfl, rfl, rfl⟩ := H
            try go_wp2_with (first | ((with_reducible refine gate_callee (f := 80) rfl ?_); refine goesL_ (some 27) rfl rfl Try.func80 (by kernel_rfl) rfl #[.int .i64 (wrap64 (-a0))] rfl arr_ ?_; (with_reducible refine (impl_size.calls (wrap64 (-a0)) t533 _ A12.out).mono ?_); rintro e w15 ⟨rfl, hb⟩; refine ⟨_, rfl, ?_⟩; have n0_ := Aside0.mk (bb_ BK530.out hb); have n1_ := Aside0.mk (below_step (hb1_ HB.out GE530.out) hb); clear BK530; clear HB; have BK530 := n0_; have HB := n1_; clear n0_ n1_; (try clear hb); (try clear hb2); (try clear hk); (try clear hi)) | ((with_reducible refine gate_callee (f := 79) rfl ?_); refine goesL_ (some 29) rfl rfl Try.func79 (by kernel_rfl) rfl #[.int .i64 t533, .int .i64 (wrap64 (-a1))] rfl arr_ ?_; (with_reducible refine (impl_gcd.calls kj2 t533 (wrap64 (-a1)) t534 _ A13.out).mono ?_); rintro e w' ⟨rfl, ⟨nd, rfl⟩⟩; refine ⟨_, rfl, ?_⟩; (try (rw [drewN_self w15]; generalize hq_ : World.drewN w15 _ = w15; have n0_ : Aside0 (w15.heap[gb530]? = some (.cells #[.int .i64 0, .int .i64 0] 51 (0, 0))) := ⟨by rw [← hq_]; exact (bk_ BK530.out)⟩; have n1_ : Aside0 (Below w.heap.size w w15) := ⟨by rw [← hq_]; exact (hb1_ HB.out GE530.out)⟩; clear BK530 HB hq_; have BK530 := n0_; have HB := n1_; clear n0_ n1_))))
            have n0_ := Aside0.mk (blk_drew BK530.out)
            have n1_ := Aside0.mk (below_drew1 HB.out)
            clear BK530
            clear HB
            have BK530 := n0_
            have HB := n1_
            clear n0_ n1_
            refine start_ (n := 9) (S := fun w' => True) (ds := []) #[false, false, false, false, false, false, false, false, false] (by kernel_rfl) rfl rfl trivial (fun hHeld => ?_); refine with_tabW impl_FracOf.tab6 impl_FracOf.bits6 (fun HT_ HW_ => ?_)
            generalize w15.drew = w16 at BK530 HB hHeld ⊢
            refine pure_ (i := 0) (N := some 30) (v := ?_) (a' := ?_) #[true, false, false, false, false, false, false, false, false] rfl rfl (any_of HT_.out (by kernel_rfl)) (fun _ _ _ h => h) (Or.inl ⟨by rfl, ?_⟩) ?_ ?_
            rotate_left
            · intro w'
              go_simp
              with_reducible rfl
            rotate_left
            · simp only [Act.put, List.setIfInBounds_toArray, List.set_cons_zero, List.set_cons_succ, i64_w, i32_w]
              rfl
            refine pure_ (i := 1) (N := some 31) (v := ?_) (a' := ?_) #[true, true, false, false, false, false, false, false, false] rfl rfl (any_of HT_.out (by kernel_rfl)) (fun _ _ _ h => h) (Or.inl ⟨by rfl, ?_⟩) ?_ ?_
            rotate_left
            · intro w'
              go_simp
              with_reducible rfl
            rotate_left
            · simp only [Act.put, List.setIfInBounds_toArray, List.set_cons_zero, List.set_cons_succ, i64_w, i32_w]
              rfl
            refine pure_ (i := 2) (N := some 32) (v := ?_) (a' := ?_) #[true, true, true, false, false, false, false, false, false] rfl rfl (any_of HT_.out (by kernel_rfl)) (fun _ _ _ h => h) (Or.inl ⟨by rfl, ?_⟩) ?_ ?_
            rotate_left
            · intro w'
              go_simp
              with_reducible rfl
            rotate_left
            · simp only [Act.put, List.setIfInBounds_toArray, List.set_cons_zero, List.set_cons_succ, i64_w, i32_w]
              rfl
            refine pure_ (i := 3) (N := some 33) (v := ?_) (a' := ?_) #[true, true, true, true, false, false, false, false, false] rfl rfl (any_of HT_.out (by kernel_rfl)) (fun _ _ _ h => h) (Or.inl ⟨by rfl, ?_⟩) ?_ ?_
            rotate_left
            · intro w'
              go_simp
              with_reducible rfl
            rotate_left
            · simp only [Act.put, List.setIfInBounds_toArray, List.set_cons_zero, List.set_cons_succ, i64_w, i32_w]
              rfl
            refine pure_ (i := 4) (N := some 34) (v := ?_) (a' := ?_) #[true, true, true, true, true, false, false, false, false] rfl rfl (any_of HT_.out (by kernel_rfl)) (fun _ _ _ h => h) (Or.inl ⟨by rfl, ?_⟩) ?_ ?_
            rotate_left
            · intro w'
              go_simp
              with_reducible rfl
            rotate_left
            · simp only [Act.put, List.setIfInBounds_toArray, List.set_cons_zero, List.set_cons_succ, i64_w, i32_w]
              rfl
            refine pure_ (i := 5) (N := some 35) (v := ?_) (a' := ?_) #[true, true, true, true, true, true, false, false, false] rfl rfl (any_of HT_.out (by kernel_rfl)) (fun _ _ _ h => h) (Or.inl ⟨by rfl, ?_⟩) ?_ ?_
            rotate_left
            · intro w'
              go_simp
              with_reducible rfl
            rotate_left
            · simp only [Act.put, List.setIfInBounds_toArray, List.set_cons_zero, List.set_cons_succ, i64_w, i32_w]
              rfl
            refine pure_ (i := 6) (N := some 36) (v := ?_) (a' := ?_) #[true, true, true, true, true, true, true, false, false] rfl rfl (any_of HT_.out (by kernel_rfl)) (fun _ _ _ h => h) (Or.inl ⟨by rfl, ?_⟩) ?_ ?_
            rotate_left
            · intro w'
              go_simp
              with_reducible rfl
            rotate_left
            · simp only [Act.put, List.setIfInBounds_toArray, List.set_cons_zero, List.set_cons_succ, i64_w, i32_w]
              rfl
            refine one_ (i := 7) (N := none) #[true, true, true, true, true, true, true, true, false] rfl rfl (one_of HT_.out (by kernel_rfl)) (by decide) (fun K hK => ?_)
            have hs17 : w16.cell? ⟨gb530, 0, none⟩ = some (.int .i64 0) := (blk_cell BK530.out 0).trans rfl
            have hfs17 := blk_frozen BK530.out 0
            have hs18 : w16.cell? ⟨gb530, 1, none⟩ = some (.int .i64 0) := (blk_cell BK530.out 1).trans rfl
            have hfs18 := blk_frozen BK530.out 1
            refine skip_ (w1 := ?_) (by rfl) rfl ?_ ?_
            rotate_left
            · go_simp
              rfl
            refine hK.out _ _ trivial (fun hHeld => ?_)
            clear hK K
            refine pure_ (i := 8) (N := some 5) (v := ?_) (a' := ?_) #[true, true, true, true, true, true, true, true, true] rfl rfl (any_of HT_.out (by kernel_rfl)) (fun _ _ _ h => h) (Or.inl ⟨by rfl, ?_⟩) ?_ ?_
            rotate_left
            · intro w'
              go_simp
              with_reducible rfl
            rotate_left
            · simp only [Act.put, List.setIfInBounds_toArray, List.set_cons_zero, List.set_cons_succ, i64_w, i32_w]
              rfl
            refine done_ (done_of HT_.out (by kernel_rfl)) ?_
            try go_wp2
            refine bodyPost_ret (results_ct rfl _ _ gb530 51 #[.int .i64 (wrap64 (Int.tdiv (wrap64 (-a0)) t534)), .int .i64 (wrap64 (Int.tdiv (wrap64 (-a1)) t534))] (0, 0) _ rfl (by (with_reducible repeat (first | refine blk_drewN ?_ _ | refine blk_drew ?_ | refine blk_alloc ?_ _)); refine blk_put (cs := #[.int .i64 (wrap64 (Int.tdiv (wrap64 (-a0)) t534)), .int .i64 0]) ?_ 1 _ rfl; (with_reducible repeat (first | refine blk_drewN ?_ _ | refine blk_drew ?_ | refine blk_alloc ?_ _)); refine blk_put (cs := #[.int .i64 0, .int .i64 0]) ?_ 0 _ rfl; (with_reducible repeat (first | refine blk_drewN ?_ _ | refine blk_drew ?_ | refine blk_alloc ?_ _)); exact BK530.out) Try.underlying51 rfl (by kernel_rfl)) rfl ?_
            exact ⟨er_, hb1_ HB.out GE530.out⟩
        · rw [if_neg c11] at H
          have c11b0 : decide (a1 < 0) = false := decide_eq_false c11
          clear c11
          replace H := Option.bind_eq_some_iff.mp H
          obtain ⟨t535, A190, H⟩ := H
          replace H : ((impl_gcd.f kj2 t535 a1).bind fun t536 => (if t536 = 0 then (none) else (some (wrap64 (Int.tdiv a0 t536), wrap64 (Int.tdiv a1 t536), true)))) = some (r1, r2, r3) := H
          have A19 := Aside0.mk A190
          clear A190
          replace H := Option.bind_eq_some_iff.mp H
          obtain ⟨t536, A200, H⟩ := H
          replace H : (if t536 = 0 then (none) else (some (wrap64 (Int.tdiv a0 t536), wrap64 (Int.tdiv a1 t536), true))) = some (r1, r2, r3) := H
          have A20 := Aside0.mk A200
          clear A200
          by_cases c21 : t536 = 0
          · rw [if_pos c21] at H
            exact absurd H (by simp)
          · rw [if_neg c21] at H
            have c21b0 : (t536 == 0) = false := beq_eq_false_iff_ne.mpr c21
            have c21b1 : (t536 != 0) = true := bne_iff_ne.mpr c21
            simp only [Option.some.injEq, Prod.mk.injEq] at H
            obtain ⟨rfl, rfl, rfl⟩ := H
            try go_wp2_with (first | ((with_reducible refine gate_callee (f := 80) rfl ?_); refine goesL_ (some 27) rfl rfl Try.func80 (by kernel_rfl) rfl #[.int .i64 a0] rfl arr_ ?_; (with_reducible refine (impl_size.calls a0 t535 _ A19.out).mono ?_); rintro e w22 ⟨rfl, hb⟩; refine ⟨_, rfl, ?_⟩; have n0_ := Aside0.mk (bb_ BK530.out hb); have n1_ := Aside0.mk (below_step (hb1_ HB.out GE530.out) hb); clear BK530; clear HB; have BK530 := n0_; have HB := n1_; clear n0_ n1_; (try clear hb); (try clear hb2); (try clear hk); (try clear hi)) | ((with_reducible refine gate_callee (f := 79) rfl ?_); refine goesL_ (some 29) rfl rfl Try.func79 (by kernel_rfl) rfl #[.int .i64 t535, .int .i64 a1] rfl arr_ ?_; (with_reducible refine (impl_gcd.calls kj2 t535 a1 t536 _ A20.out).mono ?_); rintro e w' ⟨rfl, ⟨nd, rfl⟩⟩; refine ⟨_, rfl, ?_⟩; (try (rw [drewN_self w22]; generalize hq_ : World.drewN w22 _ = w22; have n0_ : Aside0 (w22.heap[gb530]? = some (.cells #[.int .i64 0, .int .i64 0] 51 (0, 0))) := ⟨by rw [← hq_]; exact (bk_ BK530.out)⟩; have n1_ : Aside0 (Below w.heap.size w w22) := ⟨by rw [← hq_]; exact (hb1_ HB.out GE530.out)⟩; clear BK530 HB hq_; have BK530 := n0_; have HB := n1_; clear n0_ n1_))))
            have n0_ := Aside0.mk (blk_drew BK530.out)
            have n1_ := Aside0.mk (below_drew1 HB.out)
            clear BK530
            clear HB
            have BK530 := n0_
            have HB := n1_
            clear n0_ n1_
            refine start_ (n := 9) (S := fun w' => True) (ds := []) #[false, false, false, false, false, false, false, false, false] (by kernel_rfl) rfl rfl trivial (fun hHeld => ?_); refine with_tabW impl_FracOf.tab6 impl_FracOf.bits6 (fun HT_ HW_ => ?_)
            generalize w22.drew = w23 at BK530 HB hHeld ⊢
            refine pure_ (i := 0) (N := some 30) (v := ?_) (a' := ?_) #[true, false, false, false, false, false, false, false, false] rfl rfl (any_of HT_.out (by kernel_rfl)) (fun _ _ _ h => h) (Or.inl ⟨by rfl, ?_⟩) ?_ ?_
            rotate_left
            · intro w'
              go_simp
              with_reducible rfl
            rotate_left
            · simp only [Act.put, List.setIfInBounds_toArray, List.set_cons_zero, List.set_cons_succ, i64_w, i32_w]
              rfl
            refine pure_ (i := 1) (N := some 31) (v := ?_) (a' := ?_) #[true, true, false, false, false, false, false, false, false] rfl rfl (any_of HT_.out (by kernel_rfl)) (fun _ _ _ h => h) (Or.inl ⟨by rfl, ?_⟩) ?_ ?_
            rotate_left
            · intro w'
              go_simp
              with_reducible rfl
            rotate_left
            · simp only [Act.put, List.setIfInBounds_toArray, List.set_cons_zero, List.set_cons_succ, i64_w, i32_w]
              rfl
            refine pure_ (i := 2) (N := some 32) (v := ?_) (a' := ?_) #[true, true, true, false, false, false, false, false, false] rfl rfl (any_of HT_.out (by kernel_rfl)) (fun _ _ _ h => h) (Or.inl ⟨by rfl, ?_⟩) ?_ ?_
            rotate_left
            · intro w'
              go_simp
              with_reducible rfl
            rotate_left
            · simp only [Act.put, List.setIfInBounds_toArray, List.set_cons_zero, List.set_cons_succ, i64_w, i32_w]
              rfl
            refine pure_ (i := 3) (N := some 33) (v := ?_) (a' := ?_) #[true, true, true, true, false, false, false, false, false] rfl rfl (any_of HT_.out (by kernel_rfl)) (fun _ _ _ h => h) (Or.inl ⟨by rfl, ?_⟩) ?_ ?_
            rotate_left
            · intro w'
              go_simp
              with_reducible rfl
            rotate_left
            · simp only [Act.put, List.setIfInBounds_toArray, List.set_cons_zero, List.set_cons_succ, i64_w, i32_w]
              rfl
            refine pure_ (i := 4) (N := some 34) (v := ?_) (a' := ?_) #[true, true, true, true, true, false, false, false, false] rfl rfl (any_of HT_.out (by kernel_rfl)) (fun _ _ _ h => h) (Or.inl ⟨by rfl, ?_⟩) ?_ ?_
            rotate_left
            · intro w'
              go_simp
              with_reducible rfl
            rotate_left
            · simp only [Act.put, List.setIfInBounds_toArray, List.set_cons_zero, List.set_cons_succ, i64_w, i32_w]
              rfl
            refine pure_ (i := 5) (N := some 35) (v := ?_) (a' := ?_) #[true, true, true, true, true, true, false, false, false] rfl rfl (any_of HT_.out (by kernel_rfl)) (fun _ _ _ h => h) (Or.inl ⟨by rfl, ?_⟩) ?_ ?_
            rotate_left
            · intro w'
              go_simp
              with_reducible rfl
            rotate_left
            · simp only [Act.put, List.setIfInBounds_toArray, List.set_cons_zero, List.set_cons_succ, i64_w, i32_w]
              rfl
            refine pure_ (i := 6) (N := some 36) (v := ?_) (a' := ?_) #[true, true, true, true, true, true, true, false, false] rfl rfl (any_of HT_.out (by kernel_rfl)) (fun _ _ _ h => h) (Or.inl ⟨by rfl, ?_⟩) ?_ ?_
            rotate_left
            · intro w'
              go_simp
              with_reducible rfl
            rotate_left
            · simp only [Act.put, List.setIfInBounds_toArray, List.set_cons_zero, List.set_cons_succ, i64_w, i32_w]
              rfl
            refine one_ (i := 7) (N := none) #[true, true, true, true, true, true, true, true, false] rfl rfl (one_of HT_.out (by kernel_rfl)) (by decide) (fun K hK => ?_)
            have hs24 : w23.cell? ⟨gb530, 0, none⟩ = some (.int .i64 0) := (blk_cell BK530.out 0).trans rfl
            have hfs24 := blk_frozen BK530.out 0
            have hs25 : w23.cell? ⟨gb530, 1, none⟩ = some (.int .i64 0) := (blk_cell BK530.out 1).trans rfl
            have hfs25 := blk_frozen BK530.out 1
            refine skip_ (w1 := ?_) (by rfl) rfl ?_ ?_
            rotate_left
            · go_simp
              rfl
            refine hK.out _ _ trivial (fun hHeld => ?_)
            clear hK K
            refine pure_ (i := 8) (N := some 5) (v := ?_) (a' := ?_) #[true, true, true, true, true, true, true, true, true] rfl rfl (any_of HT_.out (by kernel_rfl)) (fun _ _ _ h => h) (Or.inl ⟨by rfl, ?_⟩) ?_ ?_
            rotate_left
            · intro w'
              go_simp
              with_reducible rfl
            rotate_left
            · simp only [Act.put, List.setIfInBounds_toArray, List.set_cons_zero, List.set_cons_succ, i64_w, i32_w]
              rfl
            refine done_ (done_of HT_.out (by kernel_rfl)) ?_
            try go_wp2
            refine bodyPost_ret (results_ct rfl _ _ gb530 51 #[.int .i64 (wrap64 (Int.tdiv a0 t536)), .int .i64 (wrap64 (Int.tdiv a1 t536))] (0, 0) _ rfl (by (with_reducible repeat (first | refine blk_drewN ?_ _ | refine blk_drew ?_ | refine blk_alloc ?_ _)); refine blk_put (cs := #[.int .i64 (wrap64 (Int.tdiv a0 t536)), .int .i64 0]) ?_ 1 _ rfl; (with_reducible repeat (first | refine blk_drewN ?_ _ | refine blk_drew ?_ | refine blk_alloc ?_ _)); refine blk_put (cs := #[.int .i64 0, .int .i64 0]) ?_ 0 _ rfl; (with_reducible repeat (first | refine blk_drewN ?_ _ | refine blk_drew ?_ | refine blk_alloc ?_ _)); exact BK530.out) Try.underlying51 rfl (by kernel_rfl)) rfl ?_
            exact ⟨er_, hb1_ HB.out GE530.out⟩
def impl_ShareOf.l0 : Nat → Int → Int → List (S60) → Int → Int → Int → Int → List (S60) → Option (Int × Int × Bool)
  | 0, _, _, _, _, _, _, _, _ => none
  | k + 1, x1, x6, x14, x15, x16, x538000, x538001, x538002 => if x16 < x15 then (if 0 ≤ x16 then (if x16 < (x14.length : Int) then (if ((rd_T60 x14 x16).f0) = x1 then (impl_ShareOf.l0 k x1 (wrap64 (x6 + ((rd_T60 x14 x16).f1))) x14 x15 (wrap64 (x16 + 1)) x538000 x538001 x538002) else (impl_ShareOf.l0 k x1 x6 x14 x15 (wrap64 (x16 + 1)) x538000 x538001 x538002)) else (none)) else (none)) else ((impl_Plan_round.f k x538000 x538001 x538002).bind fun t542 => ((impl_FracOf.f k x6 t542).bind fun bt543 => (some (bt543.1, bt543.2.1, bt543.2.2))))
def impl_ShareOf.f (k : Nat) (a0_0 : Int) (a0_1 : Int) (l0_2 : List (S60)) (a1 : Int) : Option (Int × Int × Bool) := (impl_PlanOk.f k a0_0 a0_1 l0_2).bind fun t539 => (if t539 = true then (impl_ShareOf.l0 k a1 0 l0_2 (l0_2.length : Int) 0 a0_0 a0_1 l0_2) else (some (0, 0, false)))
theorem impl_ShareOf.mono_l : ∀ k, (∀ y0 y1 y2 y3 y4 y5 y6 y7, LeO (impl_ShareOf.l0 k y0 y1 y2 y3 y4 y5 y6 y7) (impl_ShareOf.l0 (k + 1) y0 y1 y2 y3 y4 y5 y6 y7))
  | 0 => fun _ _ _ _ _ _ _ _ r h => by simp [impl_ShareOf.l0] at h
  | k + 1 => by
    have ih0 := impl_ShareOf.mono_l k
    · intro y0 y1 y2 y3 y4 y5 y6 y7
      unfold impl_ShareOf.l0
      repeat' first
      | (with_reducible exact ih0 _ _ _ _ _ _ _ _)
      | (with_reducible exact impl_FracOf.mono _ _ _)
      | (with_reducible exact impl_PlanOk.mono _ _ _ _)
      | (with_reducible exact impl_Plan_round.mono _ _ _ _)
      | (with_reducible exact LeO.refl _)
      | (with_reducible exact LeO.none _)
      | (with_reducible refine LeO.ite ?_ ?_)
      | (with_reducible refine LeO.bind ?_ (fun _ => ?_))
      | exact ih0 _ _ _ _ _ _ _ _
      | exact impl_FracOf.mono _ _ _
      | exact impl_PlanOk.mono _ _ _ _
      | exact impl_Plan_round.mono _ _ _ _
      | exact LeO.none _
      | refine LeO.ite ?_ ?_
      | refine LeO.bind ?_ (fun _ => ?_)
theorem impl_ShareOf.mono : ∀ a0 a1 a2 a3 k, LeO (impl_ShareOf.f k a0 a1 a2 a3) (impl_ShareOf.f (k + 1) a0 a1 a2 a3) := by
  intro a0 a1 a2 a3 k
  have ih0 := impl_ShareOf.mono_l k
  unfold impl_ShareOf.f
  repeat' first
      | (with_reducible exact ih0 _ _ _ _ _ _ _ _)
      | (with_reducible exact impl_FracOf.mono _ _ _)
      | (with_reducible exact impl_PlanOk.mono _ _ _ _)
      | (with_reducible exact impl_Plan_round.mono _ _ _ _)
      | (with_reducible exact LeO.refl _)
      | (with_reducible exact LeO.none _)
      | (with_reducible refine LeO.ite ?_ ?_)
      | (with_reducible refine LeO.bind ?_ (fun _ => ?_))
      | exact ih0 _ _ _ _ _ _ _ _
      | exact impl_FracOf.mono _ _ _
      | exact impl_PlanOk.mono _ _ _ _
      | exact impl_Plan_round.mono _ _ _ _
      | exact LeO.none _
      | refine LeO.ite ?_ ?_
      | refine LeO.bind ?_ (fun _ => ?_)
set_option maxHeartbeats 8000000 in
set_option maxRecDepth 100000 in
theorem impl_ShareOf.calls (k : Nat) (a0_0 : Int) (a0_1 : Int) (A0_2 : Option Addr) (c0_2 : Nat) (l0_2 : List (S60)) (a1 : Int) (r1 : Int) (r2 : Int) (r3 : Bool) (w : World) (hr0_2 : Kd.C k60 w A0_2 l0_2.length l0_2) (hc0_2 : l0_2.length ≤ c0_2) (h : impl_ShareOf.f k a0_0 a0_1 l0_2 a1 = some (r1, r2, r3)) :
    Calls Try.prog 34 #[.agg #[.int .i64 a0_0, .int .i64 a0_1, .slice A0_2 l0_2.length c0_2], .int .i64 a1] w fun e w' => e = .returned (.tuple #[.agg #[.int .i64 r1, .int .i64 r2], .bool r3]) ∧ Below w.heap.size w w' := by
  have hu29 := Try.underlying29
  have hu51 := Try.underlying51
  have hu60 := Try.underlying60
  have HR0_2 := Aside0.mk hr0_2
  have HC0_2 := Aside0.mk hc0_2
  clear hr0_2 hc0_2
  have HB := Aside0.mk (Below.refl w.heap.size w)
  have H : ((impl_PlanOk.f k a0_0 a0_1 l0_2).bind fun t539 => (if t539 = true then (impl_ShareOf.l0 k a1 0 l0_2 (l0_2.length : Int) 0 a0_0 a0_1 l0_2) else (some (0, 0, false)))) = some (r1, r2, r3) := h
  clear h
  replace H := Option.bind_eq_some_iff.mp H
  obtain ⟨t539, A30, H⟩ := H
  replace H : (if t539 = true then (impl_ShareOf.l0 k a1 0 l0_2 (l0_2.length : Int) 0 a0_0 a0_1 l0_2) else (some (0, 0, false))) = some (r1, r2, r3) := H
  have A3 := Aside0.mk A30
  clear A30
  by_cases c4 : t539 = true
  · subst c4
    have H1 : (impl_ShareOf.l0 k a1 0 l0_2 (l0_2.length : Int) 0 a0_0 a0_1 l0_2) = some (r1, r2, r3) := by rw [if_pos rfl] at H; exact H
    clear H
    have H := H1
    clear H1
    have H' := Aside0.mk H
    clear H
    go_enter Try.func34, Try.ntmps34
    go_wp2_with (first | ((with_reducible refine gate_dst (N := 2) rfl ?_); refine box_event ?hg (N := 2) ?hd (cs := #[.int .i64 a0_0, .int .i64 a0_1, .slice A0_2 l0_2.length c0_2]) (t := 29) ?hr ?_; (case hd => rfl); (case hg => rfl); (case hr => first | (go_simp; done) | (go_simp; rfl)); intro gb537 hg w5 hbox hb; have n0_ := Aside0.mk (below_step (hb_ HB.out) hb); have n1_ := Aside0.mk (hbox); have n2_ := Aside0.mk ((by rw [hg]; exact (below_size (hb_ HB.out)) : w.heap.size ≤ gb537)); have n3_ := Aside0.mk ((by rw [hg]; exact (below_size (hb_ HB.out)) : w.heap.size ≤ gb537)); clear HB; have HB := n0_; have BK537 := n1_; have GW537 := n2_; have GE537 := n3_; clear n0_ n1_ n2_ n3_; clear hb hbox hg) | ((with_reducible refine gate_dst (N := 4) rfl ?_); refine box_event ?hg (N := 4) ?hd (cs := #[.int .i64 0, .int .i64 0]) (t := 51) ?hr ?_; (case hd => rfl); (case hg => rfl); (case hr => first | (go_simp; done) | (go_simp; rfl)); intro gb538 hg w6 hbox hb; have n0_ := Aside0.mk (bb_ BK537.out hb); have n1_ := Aside0.mk (below_step (hb1_ HB.out GE537.out) hb); have n2_ := Aside0.mk (hbox); have n3_ := Aside0.mk ((by rw [hg]; exact (below_size (hb1_ HB.out GE537.out)) : w.heap.size ≤ gb538)); have n4_ := Aside0.mk ((by rw [hg]; exact (below_size (hb1_ HB.out GE537.out)) : w.heap.size ≤ gb538)); have n5_ := Aside0.mk ((bl_ hg BK537.out : gb537 ≠ gb538)); have n6_ := Aside0.mk ((bg_ hg BK537.out : gb538 ≠ gb537)); clear BK537; clear HB; have BK537 := n0_; have HB := n1_; have BK538 := n2_; have GW538 := n3_; have GE538 := n4_; have NB537_538 := n5_; have NB538_537 := n6_; clear n0_ n1_ n2_ n3_ n4_ n5_ n6_; clear hb hbox hg; have hnb7 := NB537_538.out; have hnc7 := NB538_537.out; have hcz8_0 := bc_ BK537.out 0 (.int .i64 a0_0) rfl; have hcz8_1 := bc_ BK537.out 1 (.int .i64 a0_1) rfl; have hcz8_2 := bc_ BK537.out 2 (.slice A0_2 l0_2.length c0_2) rfl; have hfz8_0 := blk_frozen BK537.out 0; have hfz8_1 := blk_frozen BK537.out 1; have hfz8_2 := blk_frozen BK537.out 2) | ((with_reducible refine gate_callee (f := 40) rfl ?_); refine goesL_ (some 10) rfl rfl Try.func40 (by kernel_rfl) rfl #[.agg #[.int .i64 a0_0, .int .i64 a0_1, .slice A0_2 l0_2.length c0_2]] rfl arr_ ?_; (with_reducible refine (impl_PlanOk.calls k a0_0 a0_1 _ _ l0_2 true _ ?side1 ?side2 A3.out).mono ?_); (case side1 => exact kc_ (Kd.C_below HR0_2.out HB.out)); (case side2 => exact HC0_2.out); rintro e w9 ⟨rfl, hb⟩; refine ⟨_, rfl, ?_⟩; have n0_ := Aside0.mk (bb_ BK537.out hb); have n1_ := Aside0.mk (bb_ BK538.out hb); have n2_ := Aside0.mk (below_step (hb2_ HB.out GE537.out GE538.out) hb); clear BK537; clear BK538; clear HB; have BK537 := n0_; have BK538 := n1_; have HB := n2_; clear n0_ n1_ n2_; (try clear hb); (try clear hb2); (try clear hk); (try clear hi); have hcz10_0 := bc_ BK537.out 0 (.int .i64 a0_0) rfl; have hcz10_1 := bc_ BK537.out 1 (.int .i64 a0_1) rfl; have hcz10_2 := bc_ BK537.out 2 (.slice A0_2 l0_2.length c0_2) rfl; have hfz10_0 := blk_frozen BK537.out 0; have hfz10_1 := blk_frozen BK537.out 1; have hfz10_2 := blk_frozen BK537.out 2))
    go_loopg [6, 16] k (fun kq v6 v16 w' => ∃ (x6_1 : Int) (x16_1 : Int), v6 = .int .i64 x6_1 ∧ v16 = .int .i64 x16_1 ∧ Aside0 (impl_ShareOf.l0 kq a1 x6_1 l0_2 (l0_2.length : Int) x16_1 a0_0 a0_1 l0_2 = some (r1, r2, r3)) ∧ Aside0 (kq ≤ k) ∧ Aside0 (w'.heap[gb537]? = some (.cells #[.int .i64 a0_0, .int .i64 a0_1, (.slice A0_2 l0_2.length c0_2)] 29 (0, 0))) ∧ Aside0 (w'.heap[gb538]? = some (.cells #[.int .i64 0, .int .i64 0] 51 (0, 0))) ∧ Aside0 (Below w.heap.size w w'))
    case atStart => exact ⟨(0), (0), (by first | rfl | (simp; done) | (simp [*]; done)), (by first | rfl | (simp; done) | (simp [*]; done)), H', ⟨Nat.le_refl _⟩, ⟨bk_ BK537.out⟩, ⟨bk_ BK538.out⟩, ⟨hb2_ HB.out GE537.out GE538.out⟩⟩
    case round =>
      clear H'
      try clear p2
      try clear c3
      try clear c4
      try clear c7
      try clear hcz10_0
      try clear hcz10_1
      try clear hcz10_2
      try clear hcz8_0
      try clear hcz8_1
      try clear hcz8_2
      try clear hfz10_0
      try clear hfz10_1
      try clear hfz10_2
      try clear hfz8_0
      try clear hfz8_1
      try clear hfz8_2
      obtain ⟨x6_1, x16_1, rfl, rfl, HA, HK1, BK537, BK538, HB⟩ := hrel
      cases gk with
      | zero => exact absurd HA.out (by simp [impl_ShareOf.l0])
      | succ k1 =>
        have H := HA.out
        clear HA
        simp only [impl_ShareOf.l0] at H
        by_cases c11 : x16_1 < (l0_2.length : Int)
        · rw [if_pos c11] at H
          have c11b0 : decide (x16_1 < (l0_2.length : Int)) = true := decide_eq_true c11
          clear c11
          by_cases c12 : 0 ≤ x16_1
          · rw [if_pos c12] at H
            have c12b0 : decide (0 ≤ x16_1) = true := decide_eq_true c12
            clear c12
            by_cases c13 : x16_1 < (l0_2.length : Int)
            · rw [if_pos c13] at H
              have c13b0 : decide (x16_1 < (l0_2.length : Int)) = true := decide_eq_true c13
              clear c13
              by_cases c14 : ((rd_T60 l0_2 x16_1).f0) = a1
              · rw [if_pos c14] at H
                have c14b0 : (((rd_T60 l0_2 x16_1).f0) == a1) = true := beq_iff_eq.mpr c14
                have c14b1 : (((rd_T60 l0_2 x16_1).f0) != a1) = false := bne_eq_false_iff_eq.mpr c14
                clear c14
                have H' := Aside0.mk H
                clear H
                have p540 : 0 ≤ (x16_1 : Int) := of_decide_eq_true (by first | (with_reducible assumption) | assumption)
                have q540 : x16_1 < (l0_2.length : Int) := of_decide_eq_true (by first | (with_reducible assumption) | assumption)
                obtain ⟨ad540, e540, hx540_0, hx540_1⟩ := at_T60 HR0_2.out x16_1 p540 q540
                cases e540
                replace hx540_0 := (HB.out.cell (World.block_lt_of_cell? w _ hx540_0)).trans hx540_0
                replace hx540_1 := (HB.out.cell (World.block_lt_of_cell? w _ hx540_1)).trans hx540_1
                replace p540 := eq_true p540
                replace q540 := eq_true q540
                go_wp2_with (first | ((with_reducible refine gate_dst (N := 8) rfl ?_); refine box_event ?hg (N := 8) ?hd (cs := #[.int .i64 0, .int .i64 0]) (t := 60) ?hr ?_; (case hd => rfl); (case hg => rfl); (case hr => first | (go_simp; done) | (go_simp; rfl)); intro gb541 hg w15 hbox hb; have n0_ := Aside0.mk (bb_ BK537.out hb); have n1_ := Aside0.mk (bb_ BK538.out hb); have n2_ := Aside0.mk (below_step (hb2_ HB.out GE537.out GE538.out) hb); have n3_ := Aside0.mk (hbox); have n4_ := Aside0.mk ((by rw [hg]; exact (below_size (hb2_ HB.out GE537.out GE538.out)) : w.heap.size ≤ gb541)); have n5_ := Aside0.mk ((by rw [hg]; exact (below_size (hb2_ HB.out GE537.out GE538.out)) : w.heap.size ≤ gb541)); have n6_ := Aside0.mk ((bl_ hg BK537.out : gb537 ≠ gb541)); have n7_ := Aside0.mk ((bg_ hg BK537.out : gb541 ≠ gb537)); have n8_ := Aside0.mk ((bl_ hg BK538.out : gb538 ≠ gb541)); have n9_ := Aside0.mk ((bg_ hg BK538.out : gb541 ≠ gb538)); clear BK537; clear BK538; clear HB; have BK537 := n0_; have BK538 := n1_; have HB := n2_; have BK541 := n3_; have GW541 := n4_; have GE541 := n5_; have NB537_541 := n6_; have NB541_537 := n7_; have NB538_541 := n8_; have NB541_538 := n9_; clear n0_ n1_ n2_ n3_ n4_ n5_ n6_ n7_ n8_ n9_; clear hb hbox hg; have hnb16 := NB541_537.out; have hnc16 := NB537_541.out; have hnb17 := NB541_538.out; have hnc17 := NB538_541.out; have hcz18_0 := bc_ BK541.out 0 (.int .i64 0) rfl; have hcz18_1 := bc_ BK541.out 1 (.int .i64 0) rfl; have hfz18_0 := blk_frozen BK541.out 0; have hfz18_1 := blk_frozen BK541.out 1))
                go_roundg k1
                case measure => have := HK1.out; omega
                case rel => exact ⟨(wrap64 (x6_1 + ((rd_T60 l0_2 x16_1).f1))), (wrap64 (x16_1 + 1)), (by first | rfl | (simp; done) | (simp [*]; done)), (by first | rfl | (simp; done) | (simp [*]; done)), H', ⟨by have := HK1.out; omega⟩, ⟨by (with_reducible repeat (first | refine blk_drewN ?_ _ | refine blk_drew ?_ | refine blk_alloc ?_ _)); refine blk_far ?_ NB537_541.out _; (with_reducible repeat (first | refine blk_drewN ?_ _ | refine blk_drew ?_ | refine blk_alloc ?_ _)); refine blk_far ?_ NB537_541.out _; (with_reducible repeat (first | refine blk_drewN ?_ _ | refine blk_drew ?_ | refine blk_alloc ?_ _)); exact BK537.out⟩, ⟨by (with_reducible repeat (first | refine blk_drewN ?_ _ | refine blk_drew ?_ | refine blk_alloc ?_ _)); refine blk_far ?_ NB538_541.out _; (with_reducible repeat (first | refine blk_drewN ?_ _ | refine blk_drew ?_ | refine blk_alloc ?_ _)); refine blk_far ?_ NB538_541.out _; (with_reducible repeat (first | refine blk_drewN ?_ _ | refine blk_drew ?_ | refine blk_alloc ?_ _)); exact BK538.out⟩, ⟨hb3_ HB.out GE537.out GE538.out GE541.out⟩⟩
              · rw [if_neg c14] at H
                have c14b0 : (((rd_T60 l0_2 x16_1).f0) == a1) = false := beq_eq_false_iff_ne.mpr c14
                have c14b1 : (((rd_T60 l0_2 x16_1).f0) != a1) = true := bne_iff_ne.mpr c14
                have H' := Aside0.mk H
                clear H
                have p540 : 0 ≤ (x16_1 : Int) := of_decide_eq_true (by first | (with_reducible assumption) | assumption)
                have q540 : x16_1 < (l0_2.length : Int) := of_decide_eq_true (by first | (with_reducible assumption) | assumption)
                obtain ⟨ad540, e540, hx540_0, hx540_1⟩ := at_T60 HR0_2.out x16_1 p540 q540
                cases e540
                replace hx540_0 := (HB.out.cell (World.block_lt_of_cell? w _ hx540_0)).trans hx540_0
                replace hx540_1 := (HB.out.cell (World.block_lt_of_cell? w _ hx540_1)).trans hx540_1
                replace p540 := eq_true p540
                replace q540 := eq_true q540
                go_wp2_with (first | ((with_reducible refine gate_dst (N := 8) rfl ?_); refine box_event ?hg (N := 8) ?hd (cs := #[.int .i64 0, .int .i64 0]) (t := 60) ?hr ?_; (case hd => rfl); (case hg => rfl); (case hr => first | (go_simp; done) | (go_simp; rfl)); intro gb541 hg w19 hbox hb; have n0_ := Aside0.mk (bb_ BK537.out hb); have n1_ := Aside0.mk (bb_ BK538.out hb); have n2_ := Aside0.mk (below_step (hb2_ HB.out GE537.out GE538.out) hb); have n3_ := Aside0.mk (hbox); have n4_ := Aside0.mk ((by rw [hg]; exact (below_size (hb2_ HB.out GE537.out GE538.out)) : w.heap.size ≤ gb541)); have n5_ := Aside0.mk ((by rw [hg]; exact (below_size (hb2_ HB.out GE537.out GE538.out)) : w.heap.size ≤ gb541)); have n6_ := Aside0.mk ((bl_ hg BK537.out : gb537 ≠ gb541)); have n7_ := Aside0.mk ((bg_ hg BK537.out : gb541 ≠ gb537)); have n8_ := Aside0.mk ((bl_ hg BK538.out : gb538 ≠ gb541)); have n9_ := Aside0.mk ((bg_ hg BK538.out : gb541 ≠ gb538)); clear BK537; clear BK538; clear HB; have BK537 := n0_; have BK538 := n1_; have HB := n2_; have BK541 := n3_; have GW541 := n4_; have GE541 := n5_; have NB537_541 := n6_; have NB541_537 := n7_; have NB538_541 := n8_; have NB541_538 := n9_; clear n0_ n1_ n2_ n3_ n4_ n5_ n6_ n7_ n8_ n9_; clear hb hbox hg; have hnb20 := NB541_537.out; have hnc20 := NB537_541.out; have hnb21 := NB541_538.out; have hnc21 := NB538_541.out; have hcz22_0 := bc_ BK541.out 0 (.int .i64 0) rfl; have hcz22_1 := bc_ BK541.out 1 (.int .i64 0) rfl; have hfz22_0 := blk_frozen BK541.out 0; have hfz22_1 := blk_frozen BK541.out 1))
                go_roundg k1
                case measure => have := HK1.out; omega
                case rel => exact ⟨(x6_1), (wrap64 (x16_1 + 1)), (by first | rfl | (simp; done) | (simp [*]; done)), (by first | rfl | (simp; done) | (simp [*]; done)), H', ⟨by have := HK1.out; omega⟩, ⟨by (with_reducible repeat (first | refine blk_drewN ?_ _ | refine blk_drew ?_ | refine blk_alloc ?_ _)); refine blk_far ?_ NB537_541.out _; (with_reducible repeat (first | refine blk_drewN ?_ _ | refine blk_drew ?_ | refine blk_alloc ?_ _)); refine blk_far ?_ NB537_541.out _; (with_reducible repeat (first | refine blk_drewN ?_ _ | refine blk_drew ?_ | refine blk_alloc ?_ _)); exact BK537.out⟩, ⟨by (with_reducible repeat (first | refine blk_drewN ?_ _ | refine blk_drew ?_ | refine blk_alloc ?_ _)); refine blk_far ?_ NB538_541.out _; (with_reducible repeat (first | refine blk_drewN ?_ _ | refine blk_drew ?_ | refine blk_alloc ?_ _)); refine blk_far ?_ NB538_541.out _; (with_reducible repeat (first | refine blk_drewN ?_ _ | refine blk_drew ?_ | refine blk_alloc ?_ _)); exact BK538.out⟩, ⟨hb3_ HB.out GE537.out GE538.out GE541.out⟩⟩
            · rw [if_neg c13] at H
              exact absurd H (by simp)
          · rw [if_neg c12] at H
            exact absurd H (by simp)
        · rw [if_neg c11] at H
          have c11b0 : decide (x16_1 < (l0_2.length : Int)) = false := decide_eq_false c11
          clear c11
          replace H := Option.bind_eq_some_iff.mp H
          obtain ⟨t542, A230, H⟩ := H
          replace H : ((impl_FracOf.f k1 x6_1 t542).bind fun bt543 => (some (bt543.1, bt543.2.1, bt543.2.2))) = some (r1, r2, r3) := H
          have A23 := Aside0.mk A230
          clear A230
          replace H := Option.bind_eq_some_iff.mp H
          obtain ⟨⟨t543, t544, t545⟩, A240, H⟩ := H
          replace H : (some (t543, t544, t545)) = some (r1, r2, r3) := H
          have A24 := Aside0.mk A240
          clear A240
          simp only [Option.some.injEq, Prod.mk.injEq] at H
          obtain ⟨rfl, rfl, rfl⟩ := H
          have hnb25 := NB537_538.out
          have hnc25 := NB538_537.out
          have hcz26_0 := bc_ BK537.out 0 (.int .i64 a0_0) rfl
          have hcz26_1 := bc_ BK537.out 1 (.int .i64 a0_1) rfl
          have hcz26_2 := bc_ BK537.out 2 (.slice A0_2 l0_2.length c0_2) rfl
          have hfz26_0 := blk_frozen BK537.out 0
          have hfz26_1 := blk_frozen BK537.out 1
          have hfz26_2 := blk_frozen BK537.out 2
          go_wp2_with (first | ((with_reducible refine gate_callee (f := 45) rfl ?_); refine goesL_ (some 31) rfl rfl Try.func45 (by kernel_rfl) rfl #[.agg #[.int .i64 a0_0, .int .i64 a0_1, .slice A0_2 l0_2.length c0_2]] rfl arr_ ?_; (with_reducible refine (impl_Plan_round.calls k1 a0_0 a0_1 _ _ l0_2 t542 _ ?side1 ?side2 A23.out).mono ?_); (case side1 => exact kc_ (Kd.C_below HR0_2.out HB.out)); (case side2 => exact HC0_2.out); rintro e w27 ⟨rfl, hb⟩; refine ⟨_, rfl, ?_⟩; have n0_ := Aside0.mk (bb_ BK537.out hb); have n1_ := Aside0.mk (bb_ BK538.out hb); have n2_ := Aside0.mk (below_step (hb2_ HB.out GE537.out GE538.out) hb); clear BK537; clear BK538; clear HB; have BK537 := n0_; have BK538 := n1_; have HB := n2_; clear n0_ n1_ n2_; (try clear hb); (try clear hb2); (try clear hk); (try clear hi)) | ((with_reducible refine gate_callee (f := 62) rfl ?_); refine goesL_ (some 32) rfl rfl Try.func62 (by kernel_rfl) rfl #[.int .i64 x6_1, .int .i64 t542] rfl arr_ ?_; (with_reducible refine (impl_FracOf.calls k1 x6_1 t542 t543 t544 t545 _ A24.out).mono ?_); rintro e w28 ⟨rfl, hb⟩; refine ⟨_, rfl, ?_⟩; have n0_ := Aside0.mk (bb_ BK537.out hb); have n1_ := Aside0.mk (bb_ BK538.out hb); have n2_ := Aside0.mk (below_step (hb2_ HB.out GE537.out GE538.out) hb); clear BK537; clear BK538; clear HB; have BK537 := n0_; have BK538 := n1_; have HB := n2_; clear n0_ n1_ n2_; (try clear hb); (try clear hb2); (try clear hk); (try clear hi); have hcz29_0 := bc_ BK538.out 0 (.int .i64 0) rfl; have hcz29_1 := bc_ BK538.out 1 (.int .i64 0) rfl; have hfz29_0 := blk_frozen BK538.out 0; have hfz29_1 := blk_frozen BK538.out 1))
          refine bodyPost_ret (results_ct rfl _ _ gb538 51 #[.int .i64 t543, .int .i64 t544] (0, 0) _ rfl (by (with_reducible repeat (first | refine blk_drewN ?_ _ | refine blk_drew ?_ | refine blk_alloc ?_ _)); refine blk_put (cs := #[.int .i64 t543, .int .i64 0]) ?_ 1 _ rfl; (with_reducible repeat (first | refine blk_drewN ?_ _ | refine blk_drew ?_ | refine blk_alloc ?_ _)); refine blk_put (cs := #[.int .i64 0, .int .i64 0]) ?_ 0 _ rfl; (with_reducible repeat (first | refine blk_drewN ?_ _ | refine blk_drew ?_ | refine blk_alloc ?_ _)); exact BK538.out) Try.underlying51 rfl (by kernel_rfl)) rfl ?_
          exact ⟨er_, hb2_ HB.out GE537.out GE538.out⟩
  · replace c4 := Bool.eq_false_iff.mpr c4
    subst c4
    have H1 : (some (0, 0, false)) = some (r1, r2, r3) := by rw [if_neg (show ¬ (false = true) by decide)] at H; exact H
    clear H
    have H := H1
    clear H1
    simp only [Option.some.injEq, Prod.mk.injEq] at H
    obtain ⟨rfl, rfl, rfl⟩ := H
    go_enter Try.func34, Try.ntmps34
    go_wp2_with (first | ((with_reducible refine gate_dst (N := 2) rfl ?_); refine box_event ?hg (N := 2) ?hd (cs := #[.int .i64 a0_0, .int .i64 a0_1, .slice A0_2 l0_2.length c0_2]) (t := 29) ?hr ?_; (case hd => rfl); (case hg => rfl); (case hr => first | (go_simp; done) | (go_simp; rfl)); intro gb537 hg w30 hbox hb; have n0_ := Aside0.mk (below_step (hb_ HB.out) hb); have n1_ := Aside0.mk (hbox); have n2_ := Aside0.mk ((by rw [hg]; exact (below_size (hb_ HB.out)) : w.heap.size ≤ gb537)); have n3_ := Aside0.mk ((by rw [hg]; exact (below_size (hb_ HB.out)) : w.heap.size ≤ gb537)); clear HB; have HB := n0_; have BK537 := n1_; have GW537 := n2_; have GE537 := n3_; clear n0_ n1_ n2_ n3_; clear hb hbox hg) | ((with_reducible refine gate_dst (N := 4) rfl ?_); refine box_event ?hg (N := 4) ?hd (cs := #[.int .i64 0, .int .i64 0]) (t := 51) ?hr ?_; (case hd => rfl); (case hg => rfl); (case hr => first | (go_simp; done) | (go_simp; rfl)); intro gb538 hg w31 hbox hb; have n0_ := Aside0.mk (bb_ BK537.out hb); have n1_ := Aside0.mk (below_step (hb1_ HB.out GE537.out) hb); have n2_ := Aside0.mk (hbox); have n3_ := Aside0.mk ((by rw [hg]; exact (below_size (hb1_ HB.out GE537.out)) : w.heap.size ≤ gb538)); have n4_ := Aside0.mk ((by rw [hg]; exact (below_size (hb1_ HB.out GE537.out)) : w.heap.size ≤ gb538)); have n5_ := Aside0.mk ((bl_ hg BK537.out : gb537 ≠ gb538)); have n6_ := Aside0.mk ((bg_ hg BK537.out : gb538 ≠ gb537)); clear BK537; clear HB; have BK537 := n0_; have HB := n1_; have BK538 := n2_; have GW538 := n3_; have GE538 := n4_; have NB537_538 := n5_; have NB538_537 := n6_; clear n0_ n1_ n2_ n3_ n4_ n5_ n6_; clear hb hbox hg; have hnb32 := NB537_538.out; have hnc32 := NB538_537.out; have hcz33_0 := bc_ BK537.out 0 (.int .i64 a0_0) rfl; have hcz33_1 := bc_ BK537.out 1 (.int .i64 a0_1) rfl; have hcz33_2 := bc_ BK537.out 2 (.slice A0_2 l0_2.length c0_2) rfl; have hfz33_0 := blk_frozen BK537.out 0; have hfz33_1 := blk_frozen BK537.out 1; have hfz33_2 := blk_frozen BK537.out 2) | ((with_reducible refine gate_callee (f := 40) rfl ?_); refine goesL_ (some 10) rfl rfl Try.func40 (by kernel_rfl) rfl #[.agg #[.int .i64 a0_0, .int .i64 a0_1, .slice A0_2 l0_2.length c0_2]] rfl arr_ ?_; (with_reducible refine (impl_PlanOk.calls k a0_0 a0_1 _ _ l0_2 false _ ?side1 ?side2 A3.out).mono ?_); (case side1 => exact kc_ (Kd.C_below HR0_2.out HB.out)); (case side2 => exact HC0_2.out); rintro e w34 ⟨rfl, hb⟩; refine ⟨_, rfl, ?_⟩; have n0_ := Aside0.mk (bb_ BK537.out hb); have n1_ := Aside0.mk (bb_ BK538.out hb); have n2_ := Aside0.mk (below_step (hb2_ HB.out GE537.out GE538.out) hb); clear BK537; clear BK538; clear HB; have BK537 := n0_; have BK538 := n1_; have HB := n2_; clear n0_ n1_ n2_; (try clear hb); (try clear hb2); (try clear hk); (try clear hi); have hcz35_0 := bc_ BK538.out 0 (.int .i64 0) rfl; have hcz35_1 := bc_ BK538.out 1 (.int .i64 0) rfl; have hfz35_0 := blk_frozen BK538.out 0; have hfz35_1 := blk_frozen BK538.out 1))
    refine bodyPost_ret (results_ct rfl _ _ gb538 51 #[.int .i64 0, .int .i64 0] (0, 0) _ rfl (by (with_reducible repeat (first | refine blk_drewN ?_ _ | refine blk_drew ?_ | refine blk_alloc ?_ _)); refine blk_put (cs := #[.int .i64 0, .int .i64 0]) ?_ 1 _ rfl; (with_reducible repeat (first | refine blk_drewN ?_ _ | refine blk_drew ?_ | refine blk_alloc ?_ _)); refine blk_put (cs := #[.int .i64 0, .int .i64 0]) ?_ 0 _ rfl; (with_reducible repeat (first | refine blk_drewN ?_ _ | refine blk_drew ?_ | refine blk_alloc ?_ _)); exact BK538.out) Try.underlying51 rfl (by kernel_rfl)) rfl ?_
    exact ⟨er_, hb2_ HB.out GE537.out GE538.out⟩
end Go.Proofs.Ytakcaiigkdglhaa.P
namespace Go.Proofs.Ytakcaiigkdglhaa.C
open Go.RowKit Go.Proofs.Ytakcaiigkdglhaa.P Go.Proofs.Ytakcaiigkdglhaa.G Go.Proofs.YtakcaiigkdglhaaW.PrintWords
theorem find_loopC {n : Nat} {ρ : Type} {L : Nat → Int → Option ρ} {Q : Nat → Bool} {r : Nat → ρ} {e : ρ} {c : Nat}
    (hs : ∀ k i, i < n → c ≤ k → L (k + 1) (i : Int) = if Q i = true then some (r i) else L k ((i + 1 : Nat) : Int))
    (he : ∀ k, c ≤ k → L (k + 1) (n : Int) = some e) :
    ∀ d i k, i + d = n → d + c < k → L k (i : Int) = some (found Q r e (List.range' i d)) := by
  intro d
  induction d with
  | zero =>
    intro i k h hk
    obtain ⟨k, rfl⟩ : ∃ m, k = m + 1 := ⟨k - 1, by omega⟩
    obtain rfl : i = n := by omega
    rw [he _ (by omega)]; rfl
  | succ d ih =>
    intro i k h hk
    obtain ⟨k, rfl⟩ : ∃ m, k = m + 1 := ⟨k - 1, by omega⟩
    rw [hs k i (by omega) (by omega), List.range'_succ]
    unfold found
    cases hq : Q i with
    | true => simp [List.find?, hq]
    | false =>
      rw [if_neg (by simp), ih (i + 1) k (by omega) (by omega)]
      simp [List.find?, hq, found]
theorem find_loopC0 {n : Nat} {ρ : Type} {L : Nat → Int → Option ρ} {Q : Nat → Bool} {r : Nat → ρ} {e : ρ} {c : Nat}
    (hs : ∀ k i, i < n → c ≤ k → L (k + 1) (i : Int) = if Q i = true then some (r i) else L k ((i + 1 : Nat) : Int))
    (he : ∀ k, c ≤ k → L (k + 1) (n : Int) = some e) (k : Nat) (hk : n + c < k) : L k 0 = some (found Q r e (List.range n)) := by
  have := find_loopC hs he n 0 k (by omega) hk
  rw [List.range_eq_range']
  exact this
def hit (st gap : Int) (l : List Sl) (own t q : Int) (i : Nat) : Bool := (occ st gap l i q).2.2 && (match l[i]? with | some x => x.f0 == own | none => false) && decide (t ≤ (occ st gap l i q).1)
def rowOf (st gap : Int) (l : List Sl) (own t q : Int) (e : Int × Int × Bool) : Int × Int × Bool := found (hit st gap l own t q) (fun i => ((i : Int), (occ st gap l i q).1, true)) e (List.range l.length)
def firstQ (st gap : Int) (l : List Sl) (t : Int) : Int := if t < st then 0 else (t - st) / round gap l
def nextOwn (st gap : Int) (l : List Sl) (own t : Int) : Int × Int × Bool :=
  if (planOk st gap l && timeOk t) = true then rowOf st gap l own t (firstQ st gap l t) (rowOf st gap l own t (firstQ st gap l t + 1) (0, 0, false)) else (0, 0, false)
theorem firstQ_bd {st gap : Int} {l : List Sl} (h : planOk st gap l = true) {t : Int} (ht : 0 ≤ t ∧ t ≤ 1000000000000) : 0 ≤ firstQ st gap l t ∧ firstQ st gap l t ≤ 1000000000000 := by
  have hr := round_bd h
  rw [planOk_iff] at h
  unfold firstQ
  split
  · omega
  · have h1 := Int.ediv_le_self (round gap l) (show 0 ≤ t - st by omega)
    have h2 := Int.ediv_nonneg (show 0 ≤ t - st by omega) (show 0 ≤ round gap l by omega)
    omega
theorem sRow {st gap : Int} {l : List Sl} (h : planOk st gap l = true) (own t q0 q : Int) (e : Int × Int × Bool) (c : Nat) (hc : 40 ≤ c) (he : ∀ k, c ≤ k → spec_NextOwn.l0 k own t q0 (wrap64 (q + 1)) st gap l = some e) (k : Nat) (hk : 12 + c < k) : spec_NextOwn.l1 k own t q0 q 0 st gap l = some (rowOf st gap l own t q e) := by
  have h' := h
  rw [planOk_iff] at h'
  unfold rowOf
  refine find_loopC0 (n := l.length) (c := c) (L := fun k i => spec_NextOwn.l1 k own t q0 q i st gap l) (fun k i hi hk => ?_) (fun k hk => ?_) k (by omega)
  · simp only [spec_NextOwn.l1]
    rw [if_pos (by omega), wrap_succ hi (by omega), sOcc h i hi _ _ (by omega)]
    simp only [Option.bind_some]
    unfold hit
    rw [List.getElem?_eq_getElem hi]
    cases (occ st gap l i q).2.2 with
    | false => simp
    | true =>
      rw [if_pos rfl, if_pos (by omega), rdSl l i hi]
      by_cases h1 : l[i].f0 = own
      · rw [if_pos h1]
        by_cases h2 : t ≤ (occ st gap l i q).1
        · rw [if_pos (by omega), if_pos (by simp [h1, h2])]
        · rw [if_neg (by omega), if_neg (by simp [h2])]
      · rw [if_neg h1, if_neg (by simp [h1])]
  · simp only [spec_NextOwn.l1]
    rw [if_neg (by omega)]; exact he k hk
theorem iRow {st gap : Int} {l : List Sl} (h : planOk st gap l = true) (own t q0 q : Int) (e : Int × Int × Bool) (c : Nat) (hc : 40 ≤ c) (he : ∀ k, c ≤ k → impl_NextOwn.l0 k own t q0 (wrap64 (q + 1)) st gap l = some e) (k : Nat) (hk : 12 + c < k) : impl_NextOwn.l1 k own t q0 q l (l.length : Int) 0 st gap l = some (rowOf st gap l own t q e) := by
  have h' := h
  rw [planOk_iff] at h'
  unfold rowOf
  refine find_loopC0 (n := l.length) (c := c) (L := fun k i => impl_NextOwn.l1 k own t q0 q l (l.length : Int) i st gap l) (fun k i hi hk => ?_) (fun k hk => ?_) k (by omega)
  · simp only [impl_NextOwn.l1]
    rw [if_pos (by omega), if_pos (by omega), if_pos (by omega), wrap_succ hi (by omega), iOcc h i hi _ _ (by omega)]
    simp only [Option.bind_some]
    unfold hit
    rw [List.getElem?_eq_getElem hi]
    cases (occ st gap l i q).2.2 with
    | false => simp
    | true =>
      rw [if_pos rfl, rdSl l i hi]
      by_cases h1 : l[i].f0 = own
      · rw [if_pos h1]
        by_cases h2 : t ≤ (occ st gap l i q).1
        · rw [if_pos (by omega), if_pos (by simp [h1, h2])]
        · rw [if_neg (by omega), if_neg (by simp [h2])]
      · rw [if_neg h1, if_neg (by simp [h1])]
  · simp only [impl_NextOwn.l1]
    rw [if_neg (by omega)]; exact he k hk
theorem max0 (a : Int) : spec_l1Max.f 0 a = some (mx 0 a) := by
  unfold spec_l1Max.f mx
  split
  · rw [if_neg (by omega)]
  · split
    · rfl
    · congr 1; omega
theorem sNextOwn (st gap : Int) (l : List Sl) (hl : l.length ≤ 1048576) (own t : Int) (k : Nat) (hk : 1050000 ≤ k) : spec_NextOwn.f k st gap l own t = some (nextOwn st gap l own t) := by
  obtain ⟨k, rfl⟩ : ∃ j, k = j + 2 := ⟨k - 2, by omega⟩
  have hj : spec_NextOwn.j0 (k + 2) own t true st gap l = some (0, 0, false) := by simp [spec_NextOwn.j0]
  unfold spec_NextOwn.f nextOwn
  rw [sPlanOk st gap l hl _ (by omega), l2Time]
  simp only [Option.bind_some]
  change (if planOk st gap l = true then spec_NextOwn.j0 (k + 2) own t (!timeOk t) st gap l else _) = _
  cases h : planOk st gap l with
  | false => rw [hj]; rfl
  | true =>
    cases h2 : timeOk t with
    | false => rw [Bool.not_false, hj]; rfl
    | true =>
      rw [timeOk_iff] at h2
      have hr := round_bd h
      have hq := firstQ_bd h h2
      have h' := h
      rw [planOk_iff] at h'
      simp only [spec_NextOwn.j0]
      rw [if_pos (by trivial), Bool.not_true, if_neg (by decide), sRoundOf' h _ (by omega)]
      simp only [Option.bind_some]
      rw [if_neg (by omega), max0, Bool.and_self, if_pos rfl]
      have e : mx 0 (wrap64 (Int.tdiv (wrap64 (t - st)) (round gap l))) = firstQ st gap l t := by
        rw [wrap_id (x := t - st) (by omega) (by omega)]
        unfold firstQ
        split
        · have h3 : Int.tdiv (t - st) (round gap l) ≤ 0 := by
            have := Int.neg_tdiv (a := -(t - st)) (b := round gap l)
            have h4 := Int.tdiv_nonneg (show 0 ≤ -(t - st) by omega) (show 0 ≤ round gap l by omega)
            rw [Int.neg_neg] at this; omega
          have h5 : -(t - st) ≥ -Int.tdiv (t - st) (round gap l) := by
            have h6 : Int.tdiv (-(t - st)) (round gap l) ≤ -(t - st) := by
              rw [Int.tdiv_eq_ediv_of_nonneg (by omega)]; exact Int.ediv_le_self _ (by omega)
            rw [Int.neg_tdiv] at h6; omega
          rw [wrap_id (by omega) (by omega)]
          unfold mx; split <;> omega
        · have h3 := Int.ediv_le_self (round gap l) (show 0 ≤ t - st by omega)
          have h4 := Int.ediv_nonneg (show 0 ≤ t - st by omega) (show 0 ≤ round gap l by omega)
          rw [Int.tdiv_eq_ediv_of_nonneg (by omega), wrap_id (by omega) (by omega)]
          unfold mx; split <;> omega
      rw [e]
      simp only [Option.bind_some]
      simp only [spec_NextOwn.l0]
      rw [wrap_id (x := firstQ st gap l t + 1) (by omega) (by omega), if_pos (by omega)]
      refine sRow h own t _ _ _ 100 (by omega) (fun k hk => ?_) k (by omega)
      obtain ⟨k, rfl⟩ : ∃ j, k = j + 1 := ⟨k - 1, by omega⟩
      simp only [spec_NextOwn.l0]
      rw [wrap_id (x := firstQ st gap l t + 1) (by omega) (by omega), if_pos (by omega)]
      refine sRow h own t _ _ _ 40 (by omega) (fun k hk => ?_) k (by omega)
      obtain ⟨k, rfl⟩ : ∃ j, k = j + 1 := ⟨k - 1, by omega⟩
      simp only [spec_NextOwn.l0]
      rw [wrap_id (x := firstQ st gap l t + 1) (by omega) (by omega), wrap_id (x := firstQ st gap l t + 1 + 1) (by omega) (by omega), if_neg (by omega)]
theorem iNextOwn (st gap : Int) (l : List Sl) (hl : l.length ≤ 1048576) (own t : Int) (k : Nat) (hk : 1050000 ≤ k) : impl_NextOwn.f k st gap l own t = some (nextOwn st gap l own t) := by
  obtain ⟨k, rfl⟩ : ∃ j, k = j + 2 := ⟨k - 2, by omega⟩
  have hj : impl_NextOwn.j0 (k + 2) own t true st gap l = some (0, 0, false) := by simp [impl_NextOwn.j0]
  unfold impl_NextOwn.f nextOwn
  rw [iPlanOk st gap l hl _ (by omega), isTime]
  simp only [Option.bind_some]
  change (if planOk st gap l = true then impl_NextOwn.j0 (k + 2) own t (!timeOk t) st gap l else _) = _
  cases h : planOk st gap l with
  | false => rw [hj]; rfl
  | true =>
    cases h2 : timeOk t with
    | false => rw [Bool.not_false, hj]; rfl
    | true =>
      rw [timeOk_iff] at h2
      have hr := round_bd h
      have hq := firstQ_bd h h2
      have h' := h
      rw [planOk_iff] at h'
      simp only [impl_NextOwn.j0]
      rw [if_pos (by trivial), Bool.not_true, if_neg (by decide), iRound h _ (by omega)]
      simp only [Option.bind_some]
      rw [if_neg (by omega), Bool.and_self, if_pos rfl]
      have e : wrap64 (Int.tdiv (mx 0 (wrap64 (t - st))) (round gap l)) = firstQ st gap l t := by
        rw [wrap_id (x := t - st) (by omega) (by omega)]
        unfold firstQ mx
        by_cases h3 : t < st
        · rw [if_pos h3, if_neg (by omega), Int.zero_tdiv]; exact wrap_id (by omega) (by omega)
        · rw [if_neg h3]
          have h3' := Int.ediv_le_self (round gap l) (show 0 ≤ t - st by omega)
          have h4 := Int.ediv_nonneg (show 0 ≤ t - st by omega) (show 0 ≤ round gap l by omega)
          have : (if 0 < t - st then t - st else 0) = t - st := by split <;> omega
          rw [this, Int.tdiv_eq_ediv_of_nonneg (by omega), wrap_id (by omega) (by omega)]
      rw [e]
      simp only [impl_NextOwn.l0]
      rw [wrap_id (x := firstQ st gap l t + 1) (by omega) (by omega), if_pos (by omega)]
      refine iRow h own t _ _ _ 100 (by omega) (fun k hk => ?_) k (by omega)
      obtain ⟨k, rfl⟩ : ∃ j, k = j + 1 := ⟨k - 1, by omega⟩
      simp only [impl_NextOwn.l0]
      rw [wrap_id (x := firstQ st gap l t + 1) (by omega) (by omega), if_pos (by omega)]
      refine iRow h own t _ _ _ 40 (by omega) (fun k hk => ?_) k (by omega)
      obtain ⟨k, rfl⟩ : ∃ j, k = j + 1 := ⟨k - 1, by omega⟩
      simp only [impl_NextOwn.l0]
      rw [wrap_id (x := firstQ st gap l t + 1) (by omega) (by omega), wrap_id (x := firstQ st gap l t + 1 + 1) (by omega) (by omega), if_neg (by omega)]
end Go.Proofs.Ytakcaiigkdglhaa.C
namespace Go.Proofs.Ytakcaiigkdglhaa.V
open Go.RowKit Go.Proofs.Ytakcaiigkdglhaa.P Go.Proofs.Ytakcaiigkdglhaa.C Go.Proofs.Ytakcaiigkdglhaa.G
theorem FnExactNextOwn : ∀ (a0_0 : Int) (a0_1 : Int) (l0_2 : List (SlL)) (a1 : Int) (a2 : Int), (Lit.int .i64 a0_0).wf = true → (Lit.int .i64 a0_1).wf = true → (l0_2.length ≤ 9223372036854775807 ∧ ∀ y ∈ l0_2, ((Lit.int .i64 y.f0).wf = true ∧ (Lit.int .i64 y.f1).wf = true)) → (Lit.int .i64 a1).wf = true → (Lit.int .i64 a2).wf = true → ∃ k, laws_FnExactNextOwn.f k a0_0 a0_1 l0_2 a1 a2 = some true := by
  intro a b l a1 a2 wa wb hl0 w1 w2
  obtain ⟨hl, _⟩ := hl0
  refine ⟨2000000, ?_⟩
  unfold laws_FnExactNextOwn.f
  rcases szPlan a b l hl 1048576 (by omega) with h | ⟨h, hs⟩
  · rw [h]; simp
  rw [h]
  simp only [Option.bind_some]
  rw [if_neg (by omega)]
  have hm : (l.map toSl).length = l.length := by simp
  rw [toPlan a b l (by omega) _ (by omega)]
  simp only [Option.bind_some]
  have hj : ∀ k, 1999000 ≤ k → laws_FnExactNextOwn.j0 k false a b l a b (l.map toSl) = some true := by
    intro k hk
    obtain ⟨k, rfl⟩ : ∃ j, k = j + 1 := ⟨k - 1, by omega⟩
    simp only [laws_FnExactNextOwn.j0]
    rw [if_neg (by decide), toPlan a b l (by omega) _ (by omega)]
    simp only [Option.bind_some]
    rw [eqPlan _ _ _ (by omega) _ (by omega)]
    rfl
  rw [sNextOwn _ _ _ (by omega) _ _ _ (by omega), iNextOwn _ _ _ (by omega) _ _ _ (by omega)]
  simp only [Option.bind_some, if_true, bne_self_eq_false]
  exact hj _ (by omega)
end Go.Proofs.Ytakcaiigkdglhaa.V
