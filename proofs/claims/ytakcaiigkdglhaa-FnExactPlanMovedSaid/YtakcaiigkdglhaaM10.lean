/- Texts of the seat's proofs, part 10: functions of the program told as plain functions, with their contracts, and what is shown of them. No condition. -/
import Derived.Test.YtakcaiigkdglhaaU
import Derived.Test.YtakcaiigkdglhaaM1
import Derived.Test.YtakcaiigkdglhaaM9
set_option linter.unusedVariables false
set_option linter.unusedSimpArgs false
namespace Go.Proofs.Ytakcaiigkdglhaa.P
open Go.RowKit Go.Proofs.YtakcaiigkdglhaaW.PrintWords Go.Proofs.YtakcaiigkdglhaaW.PrintLast Go.Proofs.YtakcaiigkdglhaaW.PrintMore
attribute [local go_sem] max2_int min2_int max_two min_two max_three min_three max_four min_four
set_option linter.unusedVariables false
set_option linter.unusedSimpArgs false
mutual
def laws_FnExactPlanMoved.j0 : Nat → Int → Bool → Bool → Bool → Int → Int → List (S88) → Int → Int → List (S60) → Int → Int → List (S60) → Int → Int → List (S60) → Option (Bool)
  | 0, _, _, _, _, _, _, _, _, _, _, _, _, _, _, _, _ => none
  | k + 1, x1, x7, x10, x44, x266000, x266001, x266002, x279000, x279001, x279002, x285000, x285001, x285002, x292000, x292001, x292002 => if x44 = true then (some false) else ((laws_toPlan.f k x266000 x266001 x266002).bind fun bt293 => ((laws_eqPlan.f k x285000 x285001 x285002 bt293.1 bt293.2.1 bt293.2.2).bind fun t298 => (if t298 = true then ((laws_markPlan.f k x285000 x285001 x285002 1).bind fun bt299 => (if bt299.1 < 0 then (laws_FnExactPlanMoved.j1 k x1 x7 true x266000 x266001 x266002 x279000 x279001 x279002 x292000 x292001 x292002) else ((laws_eqPlan.f k x292000 x292001 x292002 x279000 x279001 x279002).bind fun t301 => (if t301 = true then (laws_FnExactPlanMoved.j1 k x1 x7 (x10 != x7) x266000 x266001 x266002 x279000 x279001 x279002 x292000 x292001 x292002) else (laws_FnExactPlanMoved.j1 k x1 x7 true x266000 x266001 x266002 x279000 x279001 x279002 x292000 x292001 x292002))))) else (some false))))
def laws_FnExactPlanMoved.j1 : Nat → Int → Bool → Bool → Int → Int → List (S88) → Int → Int → List (S60) → Int → Int → List (S60) → Option (Bool)
  | 0, _, _, _, _, _, _, _, _, _, _, _, _ => none
  | k + 1, x1, x7, x65, x266000, x266001, x266002, x279000, x279001, x279002, x292000, x292001, x292002 => if x65 = true then (some false) else ((laws_markPlan.f k x292000 x292001 x292002 1).bind fun bt302 => ((laws_heldPlan.f k x292000 x292001 bt302.2 1).bind fun t304 => (if t304 < 0 then (some false) else (if t304 = bt302.1 then ((laws_toPlan.f k x266000 x266001 x266002).bind fun bt305 => ((impl_PlanMoved.f k bt305.1 bt305.2.1 bt305.2.2 x1).bind fun bt310 => ((laws_eqPlan.f k bt310.1 bt310.2.1 bt310.2.2.1 x279000 x279001 x279002).bind fun t317 => (if t317 = true then (laws_FnExactPlanMoved.j2 k bt302.1 (bt310.2.2.2 != x7) x292000 x292001 bt302.2) else (laws_FnExactPlanMoved.j2 k bt302.1 true x292000 x292001 bt302.2))))) else (some false)))))
def laws_FnExactPlanMoved.j2 : Nat → Int → Bool → Int → Int → List (S60) → Option (Bool)
  | 0, _, _, _, _, _ => none
  | k + 1, x12, x92, x292000, x292001, x292002 => if x92 = true then (some false) else ((laws_heldPlan.f k x292000 x292001 x292002 1).bind fun t318 => (if t318 < 0 then (some false) else (if t318 = x12 then (some true) else (some false))))
end
def laws_FnExactPlanMoved.f (k : Nat) (a0_0 : Int) (a0_1 : Int) (l0_2 : List (S88)) (a1 : Int) : Option (Bool) := (laws_szPlan.f a0_0 a0_1 l0_2 1048576).bind fun t266 => (if t266 < 0 then (some true) else ((laws_toPlan.f k a0_0 a0_1 l0_2).bind fun bt267 => ((spec_PlanMoved.f k bt267.1 bt267.2.1 bt267.2.2 a1).bind fun bt272 => ((laws_toPlan.f k a0_0 a0_1 l0_2).bind fun bt279 => ((impl_PlanMoved.f k bt279.1 bt279.2.1 bt279.2.2 a1).bind fun bt285 => ((laws_eqPlan.f k bt285.1 bt285.2.1 bt285.2.2.1 bt272.1 bt272.2.1 bt272.2.2.1).bind fun t292 => (if t292 = true then (laws_FnExactPlanMoved.j0 k a1 bt272.2.2.2 bt285.2.2.2 (bt285.2.2.2 != bt272.2.2.2) a0_0 a0_1 l0_2 bt272.1 bt272.2.1 bt272.2.2.1 bt279.1 bt279.2.1 bt279.2.2 bt285.1 bt285.2.1 bt285.2.2.1) else (laws_FnExactPlanMoved.j0 k a1 bt272.2.2.2 bt285.2.2.2 true a0_0 a0_1 l0_2 bt272.1 bt272.2.1 bt272.2.2.1 bt279.1 bt279.2.1 bt279.2.2 bt285.1 bt285.2.1 bt285.2.2.1))))))))
theorem laws_FnExactPlanMoved.mono_l : ∀ k, (∀ y0 y1 y2 y3 y4 y5 y6 y7 y8 y9 y10 y11 y12 y13 y14 y15, LeO (laws_FnExactPlanMoved.j0 k y0 y1 y2 y3 y4 y5 y6 y7 y8 y9 y10 y11 y12 y13 y14 y15) (laws_FnExactPlanMoved.j0 (k + 1) y0 y1 y2 y3 y4 y5 y6 y7 y8 y9 y10 y11 y12 y13 y14 y15)) ∧ (∀ y0 y1 y2 y3 y4 y5 y6 y7 y8 y9 y10 y11, LeO (laws_FnExactPlanMoved.j1 k y0 y1 y2 y3 y4 y5 y6 y7 y8 y9 y10 y11) (laws_FnExactPlanMoved.j1 (k + 1) y0 y1 y2 y3 y4 y5 y6 y7 y8 y9 y10 y11)) ∧ (∀ y0 y1 y2 y3 y4, LeO (laws_FnExactPlanMoved.j2 k y0 y1 y2 y3 y4) (laws_FnExactPlanMoved.j2 (k + 1) y0 y1 y2 y3 y4))
  | 0 => ⟨fun _ _ _ _ _ _ _ _ _ _ _ _ _ _ _ _ r h => by simp [laws_FnExactPlanMoved.j0] at h, fun _ _ _ _ _ _ _ _ _ _ _ _ r h => by simp [laws_FnExactPlanMoved.j1] at h, fun _ _ _ _ _ r h => by simp [laws_FnExactPlanMoved.j2] at h⟩
  | k + 1 => by
    obtain ⟨ih0, ih1, ih2⟩ := laws_FnExactPlanMoved.mono_l k
    refine ⟨?_, ?_, ?_⟩
    · intro y0 y1 y2 y3 y4 y5 y6 y7 y8 y9 y10 y11 y12 y13 y14 y15
      unfold laws_FnExactPlanMoved.j0
      repeat' first
      | (with_reducible exact ih0 _ _ _ _ _ _ _ _ _ _ _ _ _ _ _ _)
      | (with_reducible exact ih1 _ _ _ _ _ _ _ _ _ _ _ _)
      | (with_reducible exact ih2 _ _ _ _ _)
      | (with_reducible exact impl_PlanMoved.mono _ _ _ _ _)
      | (with_reducible exact laws_eqPlan.mono _ _ _ _ _ _ _)
      | (with_reducible exact laws_heldPlan.mono _ _ _ _ _)
      | (with_reducible exact laws_markPlan.mono _ _ _ _ _)
      | (with_reducible exact laws_toPlan.mono _ _ _ _)
      | (with_reducible exact spec_PlanMoved.mono _ _ _ _ _)
      | (with_reducible exact LeO.refl _)
      | (with_reducible exact LeO.none _)
      | (with_reducible refine LeO.ite ?_ ?_)
      | (with_reducible refine LeO.bind ?_ (fun _ => ?_))
      | exact ih0 _ _ _ _ _ _ _ _ _ _ _ _ _ _ _ _
      | exact ih1 _ _ _ _ _ _ _ _ _ _ _ _
      | exact ih2 _ _ _ _ _
      | exact impl_PlanMoved.mono _ _ _ _ _
      | exact laws_eqPlan.mono _ _ _ _ _ _ _
      | exact laws_heldPlan.mono _ _ _ _ _
      | exact laws_markPlan.mono _ _ _ _ _
      | exact laws_toPlan.mono _ _ _ _
      | exact spec_PlanMoved.mono _ _ _ _ _
      | exact LeO.none _
      | refine LeO.ite ?_ ?_
      | refine LeO.bind ?_ (fun _ => ?_)
    · intro y0 y1 y2 y3 y4 y5 y6 y7 y8 y9 y10 y11
      unfold laws_FnExactPlanMoved.j1
      repeat' first
      | (with_reducible exact ih0 _ _ _ _ _ _ _ _ _ _ _ _ _ _ _ _)
      | (with_reducible exact ih1 _ _ _ _ _ _ _ _ _ _ _ _)
      | (with_reducible exact ih2 _ _ _ _ _)
      | (with_reducible exact impl_PlanMoved.mono _ _ _ _ _)
      | (with_reducible exact laws_eqPlan.mono _ _ _ _ _ _ _)
      | (with_reducible exact laws_heldPlan.mono _ _ _ _ _)
      | (with_reducible exact laws_markPlan.mono _ _ _ _ _)
      | (with_reducible exact laws_toPlan.mono _ _ _ _)
      | (with_reducible exact spec_PlanMoved.mono _ _ _ _ _)
      | (with_reducible exact LeO.refl _)
      | (with_reducible exact LeO.none _)
      | (with_reducible refine LeO.ite ?_ ?_)
      | (with_reducible refine LeO.bind ?_ (fun _ => ?_))
      | exact ih0 _ _ _ _ _ _ _ _ _ _ _ _ _ _ _ _
      | exact ih1 _ _ _ _ _ _ _ _ _ _ _ _
      | exact ih2 _ _ _ _ _
      | exact impl_PlanMoved.mono _ _ _ _ _
      | exact laws_eqPlan.mono _ _ _ _ _ _ _
      | exact laws_heldPlan.mono _ _ _ _ _
      | exact laws_markPlan.mono _ _ _ _ _
      | exact laws_toPlan.mono _ _ _ _
      | exact spec_PlanMoved.mono _ _ _ _ _
      | exact LeO.none _
      | refine LeO.ite ?_ ?_
      | refine LeO.bind ?_ (fun _ => ?_)
    · intro y0 y1 y2 y3 y4
      unfold laws_FnExactPlanMoved.j2
      repeat' first
      | (with_reducible exact ih0 _ _ _ _ _ _ _ _ _ _ _ _ _ _ _ _)
      | (with_reducible exact ih1 _ _ _ _ _ _ _ _ _ _ _ _)
      | (with_reducible exact ih2 _ _ _ _ _)
      | (with_reducible exact impl_PlanMoved.mono _ _ _ _ _)
      | (with_reducible exact laws_eqPlan.mono _ _ _ _ _ _ _)
      | (with_reducible exact laws_heldPlan.mono _ _ _ _ _)
      | (with_reducible exact laws_markPlan.mono _ _ _ _ _)
      | (with_reducible exact laws_toPlan.mono _ _ _ _)
      | (with_reducible exact spec_PlanMoved.mono _ _ _ _ _)
      | (with_reducible exact LeO.refl _)
      | (with_reducible exact LeO.none _)
      | (with_reducible refine LeO.ite ?_ ?_)
      | (with_reducible refine LeO.bind ?_ (fun _ => ?_))
      | exact ih0 _ _ _ _ _ _ _ _ _ _ _ _ _ _ _ _
      | exact ih1 _ _ _ _ _ _ _ _ _ _ _ _
      | exact ih2 _ _ _ _ _
      | exact impl_PlanMoved.mono _ _ _ _ _
      | exact laws_eqPlan.mono _ _ _ _ _ _ _
      | exact laws_heldPlan.mono _ _ _ _ _
      | exact laws_markPlan.mono _ _ _ _ _
      | exact laws_toPlan.mono _ _ _ _
      | exact spec_PlanMoved.mono _ _ _ _ _
      | exact LeO.none _
      | refine LeO.ite ?_ ?_
      | refine LeO.bind ?_ (fun _ => ?_)
theorem laws_FnExactPlanMoved.mono : ∀ a0 a1 a2 a3 k, LeO (laws_FnExactPlanMoved.f k a0 a1 a2 a3) (laws_FnExactPlanMoved.f (k + 1) a0 a1 a2 a3) := by
  intro a0 a1 a2 a3 k
  obtain ⟨ih0, ih1, ih2⟩ := laws_FnExactPlanMoved.mono_l k
  unfold laws_FnExactPlanMoved.f
  repeat' first
      | (with_reducible exact ih0 _ _ _ _ _ _ _ _ _ _ _ _ _ _ _ _)
      | (with_reducible exact ih1 _ _ _ _ _ _ _ _ _ _ _ _)
      | (with_reducible exact ih2 _ _ _ _ _)
      | (with_reducible exact impl_PlanMoved.mono _ _ _ _ _)
      | (with_reducible exact laws_eqPlan.mono _ _ _ _ _ _ _)
      | (with_reducible exact laws_heldPlan.mono _ _ _ _ _)
      | (with_reducible exact laws_markPlan.mono _ _ _ _ _)
      | (with_reducible exact laws_toPlan.mono _ _ _ _)
      | (with_reducible exact spec_PlanMoved.mono _ _ _ _ _)
      | (with_reducible exact LeO.refl _)
      | (with_reducible exact LeO.none _)
      | (with_reducible refine LeO.ite ?_ ?_)
      | (with_reducible refine LeO.bind ?_ (fun _ => ?_))
      | exact ih0 _ _ _ _ _ _ _ _ _ _ _ _ _ _ _ _
      | exact ih1 _ _ _ _ _ _ _ _ _ _ _ _
      | exact ih2 _ _ _ _ _
      | exact impl_PlanMoved.mono _ _ _ _ _
      | exact laws_eqPlan.mono _ _ _ _ _ _ _
      | exact laws_heldPlan.mono _ _ _ _ _
      | exact laws_markPlan.mono _ _ _ _ _
      | exact laws_toPlan.mono _ _ _ _
      | exact spec_PlanMoved.mono _ _ _ _ _
      | exact LeO.none _
      | refine LeO.ite ?_ ?_
      | refine LeO.bind ?_ (fun _ => ?_)
set_option maxHeartbeats 8000000 in
set_option maxRecDepth 100000 in
theorem laws_FnExactPlanMoved.calls (k : Nat) (a0_0 : Int) (a0_1 : Int) (A0_2 : Option Addr) (c0_2 : Nat) (l0_2 : List (S88)) (a1 : Int) (r : Bool) (w : World) (hr0_2 : Kd.C k88 w A0_2 l0_2.length l0_2) (hc0_2 : l0_2.length ≤ c0_2) (hr_ : r = true) (h : laws_FnExactPlanMoved.f k a0_0 a0_1 l0_2 a1 = some r) :
    Calls Try.prog 5 #[.agg #[.int .i64 a0_0, .int .i64 a0_1, .slice A0_2 l0_2.length c0_2], .int .i64 a1] w fun e w' => e = .returned (.bool r) ∧ Below w.heap.size w w' := by
  have hu24 := Try.underlying24
  have hu29 := Try.underlying29
  have HR0_2 := Aside0.mk hr0_2
  have HC0_2 := Aside0.mk hc0_2
  clear hr0_2 hc0_2
  have HB := Aside0.mk (Below.refl w.heap.size w)
  have H : ((laws_szPlan.f a0_0 a0_1 l0_2 1048576).bind fun t266 => (if t266 < 0 then (some true) else ((laws_toPlan.f k a0_0 a0_1 l0_2).bind fun bt267 => ((spec_PlanMoved.f k bt267.1 bt267.2.1 bt267.2.2 a1).bind fun bt272 => ((laws_toPlan.f k a0_0 a0_1 l0_2).bind fun bt279 => ((impl_PlanMoved.f k bt279.1 bt279.2.1 bt279.2.2 a1).bind fun bt285 => ((laws_eqPlan.f k bt285.1 bt285.2.1 bt285.2.2.1 bt272.1 bt272.2.1 bt272.2.2.1).bind fun t292 => (if t292 = true then (laws_FnExactPlanMoved.j0 k a1 bt272.2.2.2 bt285.2.2.2 (bt285.2.2.2 != bt272.2.2.2) a0_0 a0_1 l0_2 bt272.1 bt272.2.1 bt272.2.2.1 bt279.1 bt279.2.1 bt279.2.2 bt285.1 bt285.2.1 bt285.2.2.1) else (laws_FnExactPlanMoved.j0 k a1 bt272.2.2.2 bt285.2.2.2 true a0_0 a0_1 l0_2 bt272.1 bt272.2.1 bt272.2.2.1 bt279.1 bt279.2.1 bt279.2.2 bt285.1 bt285.2.1 bt285.2.2.1))))))))) = some r := h
  clear h
  replace H := Option.bind_eq_some_iff.mp H
  obtain ⟨t266, A30, H⟩ := H
  replace H : (if t266 < 0 then (some true) else ((laws_toPlan.f k a0_0 a0_1 l0_2).bind fun bt267 => ((spec_PlanMoved.f k bt267.1 bt267.2.1 bt267.2.2 a1).bind fun bt272 => ((laws_toPlan.f k a0_0 a0_1 l0_2).bind fun bt279 => ((impl_PlanMoved.f k bt279.1 bt279.2.1 bt279.2.2 a1).bind fun bt285 => ((laws_eqPlan.f k bt285.1 bt285.2.1 bt285.2.2.1 bt272.1 bt272.2.1 bt272.2.2.1).bind fun t292 => (if t292 = true then (laws_FnExactPlanMoved.j0 k a1 bt272.2.2.2 bt285.2.2.2 (bt285.2.2.2 != bt272.2.2.2) a0_0 a0_1 l0_2 bt272.1 bt272.2.1 bt272.2.2.1 bt279.1 bt279.2.1 bt279.2.2 bt285.1 bt285.2.1 bt285.2.2.1) else (laws_FnExactPlanMoved.j0 k a1 bt272.2.2.2 bt285.2.2.2 true a0_0 a0_1 l0_2 bt272.1 bt272.2.1 bt272.2.2.1 bt279.1 bt279.2.1 bt279.2.2 bt285.1 bt285.2.1 bt285.2.2.1)))))))) = some r := H
  have A3 := Aside0.mk A30
  clear A30
  by_cases c4 : t266 < 0
  · rw [if_pos c4] at H
    have c4b0 : decide (t266 < 0) = true := decide_eq_true c4
    clear c4
    obtain rfl := Option.some.inj H
    go_enter Try.func5, Try.ntmps5
    go_wp2_with (first | ((with_reducible refine gate_dst (N := 2) rfl ?_); refine box_event ?hg (N := 2) ?hd (cs := #[.int .i64 a0_0, .int .i64 a0_1, .slice A0_2 l0_2.length c0_2]) (t := 24) ?hr ?_; (case hd => rfl); (case hg => rfl); (case hr => first | (go_simp; done) | (go_simp; rfl)); intro gb265 hg w5 hbox hb; have n0_ := Aside0.mk (below_step (hb_ HB.out) hb); have n1_ := Aside0.mk (hbox); have n2_ := Aside0.mk ((by rw [hg]; exact (below_size (hb_ HB.out)) : w.heap.size ≤ gb265)); have n3_ := Aside0.mk ((by rw [hg]; exact (below_size (hb_ HB.out)) : w.heap.size ≤ gb265)); clear HB; have HB := n0_; have BK265 := n1_; have GW265 := n2_; have GE265 := n3_; clear n0_ n1_ n2_ n3_; clear hb hbox hg; have hcz6_0 := bc_ BK265.out 0 (.int .i64 a0_0) rfl; have hcz6_1 := bc_ BK265.out 1 (.int .i64 a0_1) rfl; have hcz6_2 := bc_ BK265.out 2 (.slice A0_2 l0_2.length c0_2) rfl; have hfz6_0 := blk_frozen BK265.out 0; have hfz6_1 := blk_frozen BK265.out 1; have hfz6_2 := blk_frozen BK265.out 2) | ((with_reducible refine gate_callee (f := 13) rfl ?_); refine goesL_ (some 18) rfl rfl Try.func13 (by kernel_rfl) rfl #[.agg #[.int .i64 a0_0, .int .i64 a0_1, .slice A0_2 l0_2.length c0_2], .int .i64 1048576] rfl arr_ ?_; (with_reducible refine (laws_szPlan.calls a0_0 a0_1 _ _ l0_2 1048576 t266 _ ?side1 ?side2 A3.out).mono ?_); (case side1 => exact kc_ (Kd.C_below HR0_2.out HB.out)); (case side2 => exact HC0_2.out); rintro e w7 ⟨rfl, hb⟩; refine ⟨_, rfl, ?_⟩; have n0_ := Aside0.mk (bb_ BK265.out hb); have n1_ := Aside0.mk (below_step (hb1_ HB.out GE265.out) hb); clear BK265; clear HB; have BK265 := n0_; have HB := n1_; clear n0_ n1_; (try clear hb); (try clear hb2); (try clear hk); (try clear hi)))
    go_ret
    exact ⟨er_, hb1_ HB.out GE265.out⟩
  · rw [if_neg c4] at H
    have c4b0 : decide (t266 < 0) = false := decide_eq_false c4
    clear c4
    replace H := Option.bind_eq_some_iff.mp H
    obtain ⟨⟨t267, t268, t269⟩, A80, H⟩ := H
    replace H : ((spec_PlanMoved.f k t267 t268 t269 a1).bind fun bt272 => ((laws_toPlan.f k a0_0 a0_1 l0_2).bind fun bt279 => ((impl_PlanMoved.f k bt279.1 bt279.2.1 bt279.2.2 a1).bind fun bt285 => ((laws_eqPlan.f k bt285.1 bt285.2.1 bt285.2.2.1 bt272.1 bt272.2.1 bt272.2.2.1).bind fun t292 => (if t292 = true then (laws_FnExactPlanMoved.j0 k a1 bt272.2.2.2 bt285.2.2.2 (bt285.2.2.2 != bt272.2.2.2) a0_0 a0_1 l0_2 bt272.1 bt272.2.1 bt272.2.2.1 bt279.1 bt279.2.1 bt279.2.2 bt285.1 bt285.2.1 bt285.2.2.1) else (laws_FnExactPlanMoved.j0 k a1 bt272.2.2.2 bt285.2.2.2 true a0_0 a0_1 l0_2 bt272.1 bt272.2.1 bt272.2.2.1 bt279.1 bt279.2.1 bt279.2.2 bt285.1 bt285.2.1 bt285.2.2.1)))))) = some r := H
    have A8 := Aside0.mk A80
    clear A80
    replace H := Option.bind_eq_some_iff.mp H
    obtain ⟨⟨t272, t273, t274, t277⟩, A90, H⟩ := H
    replace H : ((laws_toPlan.f k a0_0 a0_1 l0_2).bind fun bt279 => ((impl_PlanMoved.f k bt279.1 bt279.2.1 bt279.2.2 a1).bind fun bt285 => ((laws_eqPlan.f k bt285.1 bt285.2.1 bt285.2.2.1 t272 t273 t274).bind fun t292 => (if t292 = true then (laws_FnExactPlanMoved.j0 k a1 t277 bt285.2.2.2 (bt285.2.2.2 != t277) a0_0 a0_1 l0_2 t272 t273 t274 bt279.1 bt279.2.1 bt279.2.2 bt285.1 bt285.2.1 bt285.2.2.1) else (laws_FnExactPlanMoved.j0 k a1 t277 bt285.2.2.2 true a0_0 a0_1 l0_2 t272 t273 t274 bt279.1 bt279.2.1 bt279.2.2 bt285.1 bt285.2.1 bt285.2.2.1))))) = some r := H
    have A9 := Aside0.mk A90
    clear A90
    replace H := Option.bind_eq_some_iff.mp H
    obtain ⟨⟨t279, t280, t281⟩, A100, H⟩ := H
    replace H : ((impl_PlanMoved.f k t279 t280 t281 a1).bind fun bt285 => ((laws_eqPlan.f k bt285.1 bt285.2.1 bt285.2.2.1 t272 t273 t274).bind fun t292 => (if t292 = true then (laws_FnExactPlanMoved.j0 k a1 t277 bt285.2.2.2 (bt285.2.2.2 != t277) a0_0 a0_1 l0_2 t272 t273 t274 t279 t280 t281 bt285.1 bt285.2.1 bt285.2.2.1) else (laws_FnExactPlanMoved.j0 k a1 t277 bt285.2.2.2 true a0_0 a0_1 l0_2 t272 t273 t274 t279 t280 t281 bt285.1 bt285.2.1 bt285.2.2.1)))) = some r := H
    have A10 := Aside0.mk A100
    clear A100
    replace H := Option.bind_eq_some_iff.mp H
    obtain ⟨⟨t285, t286, t287, t290⟩, A110, H⟩ := H
    replace H : ((laws_eqPlan.f k t285 t286 t287 t272 t273 t274).bind fun t292 => (if t292 = true then (laws_FnExactPlanMoved.j0 k a1 t277 t290 (t290 != t277) a0_0 a0_1 l0_2 t272 t273 t274 t279 t280 t281 t285 t286 t287) else (laws_FnExactPlanMoved.j0 k a1 t277 t290 true a0_0 a0_1 l0_2 t272 t273 t274 t279 t280 t281 t285 t286 t287))) = some r := H
    have A11 := Aside0.mk A110
    clear A110
    have HC12 := Aside0.mk H
    clear H
    go_enter Try.func5, Try.ntmps5
    go_upto_region 8 with (first | ((with_reducible refine gate_dst (N := 2) rfl ?_); refine box_event ?hg (N := 2) ?hd (cs := #[.int .i64 a0_0, .int .i64 a0_1, .slice A0_2 l0_2.length c0_2]) (t := 24) ?hr ?_; (case hd => rfl); (case hg => rfl); (case hr => first | (go_simp; done) | (go_simp; rfl)); intro gb265 hg w13 hbox hb; have n0_ := Aside0.mk (below_step (hb_ HB.out) hb); have n1_ := Aside0.mk (hbox); have n2_ := Aside0.mk ((by rw [hg]; exact (below_size (hb_ HB.out)) : w.heap.size ≤ gb265)); have n3_ := Aside0.mk ((by rw [hg]; exact (below_size (hb_ HB.out)) : w.heap.size ≤ gb265)); clear HB; have HB := n0_; have BK265 := n1_; have GW265 := n2_; have GE265 := n3_; clear n0_ n1_ n2_ n3_; clear hb hbox hg; have hcz14_0 := bc_ BK265.out 0 (.int .i64 a0_0) rfl; have hcz14_1 := bc_ BK265.out 1 (.int .i64 a0_1) rfl; have hcz14_2 := bc_ BK265.out 2 (.slice A0_2 l0_2.length c0_2) rfl; have hfz14_0 := blk_frozen BK265.out 0; have hfz14_1 := blk_frozen BK265.out 1; have hfz14_2 := blk_frozen BK265.out 2) | ((with_reducible refine gate_callee (f := 13) rfl ?_); refine goesL_ (some 18) rfl rfl Try.func13 (by kernel_rfl) rfl #[.agg #[.int .i64 a0_0, .int .i64 a0_1, .slice A0_2 l0_2.length c0_2], .int .i64 1048576] rfl arr_ ?_; (with_reducible refine (laws_szPlan.calls a0_0 a0_1 _ _ l0_2 1048576 t266 _ ?side1 ?side2 A3.out).mono ?_); (case side1 => exact kc_ (Kd.C_below HR0_2.out HB.out)); (case side2 => exact HC0_2.out); rintro e w15 ⟨rfl, hb⟩; refine ⟨_, rfl, ?_⟩; have n0_ := Aside0.mk (bb_ BK265.out hb); have n1_ := Aside0.mk (below_step (hb1_ HB.out GE265.out) hb); clear BK265; clear HB; have BK265 := n0_; have HB := n1_; clear n0_ n1_; (try clear hb); (try clear hb2); (try clear hk); (try clear hi); have hcz16_0 := bc_ BK265.out 0 (.int .i64 a0_0) rfl; have hcz16_1 := bc_ BK265.out 1 (.int .i64 a0_1) rfl; have hcz16_2 := bc_ BK265.out 2 (.slice A0_2 l0_2.length c0_2) rfl; have hfz16_0 := blk_frozen BK265.out 0; have hfz16_1 := blk_frozen BK265.out 1; have hfz16_2 := blk_frozen BK265.out 2) | ((with_reducible refine gate_callee (f := 15) rfl ?_); refine goesL_ (some 23) rfl rfl Try.func15 (by kernel_rfl) rfl #[.agg #[.int .i64 a0_0, .int .i64 a0_1, .slice A0_2 l0_2.length c0_2]] rfl arr_ ?_; (with_reducible refine (laws_toPlan.calls k a0_0 a0_1 _ _ l0_2 t267 t268 t269 _ ?side1 ?side2 A8.out).mono ?_); (case side1 => exact kc_ (Kd.C_below HR0_2.out HB.out)); (case side2 => exact HC0_2.out); rintro e w17 ⟨v270, rfl, ho0, hb⟩; refine ⟨_, rfl, ?_⟩; have n0_ := Aside0.mk (Kd.R_lower ho0 (below_size (hb1_ HB.out GE265.out))); have n1_ := Aside0.mk (bb_ BK265.out hb); have n2_ := Aside0.mk (below_step (hb1_ HB.out GE265.out) hb); clear BK265; clear HB; have HO271 := n0_; have BK265 := n1_; have HB := n2_; clear n0_ n1_ n2_; (try clear hb); (try clear hb2); (try clear hk); (try clear hi); (try clear ho0); obtain ⟨Ao18, co18, eo18⟩ := Kd.R_slice HO271.out; subst eo18) | ((with_reducible refine gate_callee (f := 20) rfl ?_); refine goesL_ (some 25) rfl rfl Try.func20 (by kernel_rfl) rfl #[.agg #[.int .i64 t267, .int .i64 t268, .slice Ao18 t269.length co18], .int .i64 a1] rfl arr_ ?_; (with_reducible refine (spec_PlanMoved.calls k t267 t268 _ _ t269 a1 t272 t273 t274 t277 _ ?side1 ?side2 A9.out).mono ?_); (case side1 => repeat (first | exact (Kd.R_reads' HO271.out).2.2 | (with_reducible refine Kd.C_alloc ?_ _) | (with_reducible refine Kd.C_drewN ?_ _) | (with_reducible refine Kd.C_drew ?_))); (case side2 => exact (Kd.R_reads' HO271.out).2.1); rintro e w19 ⟨v275, rfl, ho0, hb⟩; refine ⟨_, rfl, ?_⟩; have n0_ := Aside0.mk (Kd.R_elder' (by (with_reducible repeat (first | apply Kd.R_alloc | apply Kd.R_drewN | apply Kd.R_drew)); exact HO271.out) (Kd.R_base ho0) hb); have n1_ := Aside0.mk (Kd.R_lower (Kd.R_new' ho0 (Kd.R_lt (by (with_reducible repeat (first | apply Kd.R_alloc | apply Kd.R_drewN | apply Kd.R_drew)); exact HO271.out))) (below_size (hb1_ HB.out GE265.out))); have n2_ := Aside0.mk (bb_ BK265.out hb); have n3_ := Aside0.mk (below_step (hb1_ HB.out GE265.out) hb); clear HO271; clear BK265; clear HB; have HO271 := n0_; have HO276 := n1_; have BK265 := n2_; have HB := n3_; clear n0_ n1_ n2_ n3_; (try clear hb); (try clear hb2); (try clear hk); (try clear hi); (try clear ho0)) | ((with_reducible refine gate_dst (N := 6) rfl ?_); refine box_event ?hg (N := 6) ?hd (cs := #[.int .i64 0, .int .i64 0, .slice none 0 0]) (t := 29) ?hr ?_; (case hd => rfl); (case hg => rfl); (case hr => first | (go_simp; done) | (go_simp; rfl)); intro gb278 hg w20 hbox hb; have n0_ := Aside0.mk (Kd.R_below (by (with_reducible repeat (first | apply Kd.R_alloc | apply Kd.R_drewN | apply Kd.R_drew)); exact HO271.out) hb); have n1_ := Aside0.mk (Kd.R_below (by (with_reducible repeat (first | apply Kd.R_alloc | apply Kd.R_drewN | apply Kd.R_drew)); exact HO276.out) hb); have n2_ := Aside0.mk (bb_ BK265.out hb); have n3_ := Aside0.mk (below_step (hb1_ HB.out GE265.out) hb); have n4_ := Aside0.mk (hbox); have n5_ := Aside0.mk ((by rw [hg]; exact (below_size (hb1_ HB.out GE265.out)) : w.heap.size ≤ gb278)); have n6_ := Aside0.mk ((by rw [hg]; exact (below_size (hb1_ HB.out GE265.out)) : w.heap.size ≤ gb278)); have n7_ := Aside0.mk ((bl_ hg BK265.out : gb265 ≠ gb278)); have n8_ := Aside0.mk ((bg_ hg BK265.out : gb278 ≠ gb265)); clear HO271; clear HO276; clear BK265; clear HB; have HO271 := n0_; have HO276 := n1_; have BK265 := n2_; have HB := n3_; have BK278 := n4_; have GW278 := n5_; have GE278 := n6_; have NB265_278 := n7_; have NB278_265 := n8_; clear n0_ n1_ n2_ n3_ n4_ n5_ n6_ n7_ n8_; clear hb hbox hg; have hnb21 := NB278_265.out; have hnc21 := NB265_278.out; have hcz22_0 := bc_ BK278.out 0 (.int .i64 0) rfl; have hcz22_1 := bc_ BK278.out 1 (.int .i64 0) rfl; have hcz22_2 := bc_ BK278.out 2 (.slice none 0 0) rfl; have hfz22_0 := blk_frozen BK278.out 0; have hfz22_1 := blk_frozen BK278.out 1; have hfz22_2 := blk_frozen BK278.out 2; obtain ⟨Ao23, co23, eo23⟩ := Kd.R_slice HO276.out; subst eo23; have hcz24_0 := bc_ BK265.out 0 (.int .i64 a0_0) rfl; have hcz24_1 := bc_ BK265.out 1 (.int .i64 a0_1) rfl; have hcz24_2 := bc_ BK265.out 2 (.slice A0_2 l0_2.length c0_2) rfl; have hfz24_0 := blk_frozen BK265.out 0; have hfz24_1 := blk_frozen BK265.out 1; have hfz24_2 := blk_frozen BK265.out 2) | ((with_reducible refine gate_callee (f := 15) rfl ?_); refine goesL_ (some 29) rfl rfl Try.func15 (by kernel_rfl) rfl #[.agg #[.int .i64 a0_0, .int .i64 a0_1, .slice A0_2 l0_2.length c0_2]] rfl arr_ ?_; (with_reducible refine (laws_toPlan.calls k a0_0 a0_1 _ _ l0_2 t279 t280 t281 _ ?side1 ?side2 A10.out).mono ?_); (case side1 => exact Kd.C_below HR0_2.out (hb2_ HB.out GE265.out GE278.out)); (case side2 => exact HC0_2.out); rintro e w25 ⟨v282, rfl, ho0, hb⟩; refine ⟨_, rfl, ?_⟩; have n0_ := Aside0.mk (Kd.R_elder' (by (with_reducible repeat (first | apply Kd.R_alloc | apply Kd.R_drewN | apply Kd.R_drew)); exact (Kd.R_mono (Kd.R_far (p := ⟨gb278, 2, none⟩) (Kd.R_far (p := ⟨gb278, 1, none⟩) (Kd.R_far (p := ⟨gb278, 0, none⟩) (Kd.R_types HO271.out BK278.out (by decide)) (fun _ hk => hk.2) (.int .i64 t272)) (fun _ hk => hk.2) (.int .i64 t273)) (fun _ hk => hk.2) (.slice Ao23 t274.length co23)) (fun _ h_ => h_.1))) (Kd.R_base ho0) hb); have n1_ := Aside0.mk (Kd.R_elder' (by (with_reducible repeat (first | apply Kd.R_alloc | apply Kd.R_drewN | apply Kd.R_drew)); exact (Kd.R_mono (Kd.R_far (p := ⟨gb278, 2, none⟩) (Kd.R_far (p := ⟨gb278, 1, none⟩) (Kd.R_far (p := ⟨gb278, 0, none⟩) (Kd.R_types HO276.out BK278.out (by decide)) (fun _ hk => hk.2) (.int .i64 t272)) (fun _ hk => hk.2) (.int .i64 t273)) (fun _ hk => hk.2) (.slice Ao23 t274.length co23)) (fun _ h_ => h_.1))) (Kd.R_base ho0) hb); have n2_ := Aside0.mk (Kd.R_lower (Kd.R_new' (Kd.R_new' ho0 (Kd.R_lt (by (with_reducible repeat (first | apply Kd.R_alloc | apply Kd.R_drewN | apply Kd.R_drew)); exact (Kd.R_mono (Kd.R_far (p := ⟨gb278, 2, none⟩) (Kd.R_far (p := ⟨gb278, 1, none⟩) (Kd.R_far (p := ⟨gb278, 0, none⟩) (Kd.R_types HO271.out BK278.out (by decide)) (fun _ hk => hk.2) (.int .i64 t272)) (fun _ hk => hk.2) (.int .i64 t273)) (fun _ hk => hk.2) (.slice Ao23 t274.length co23)) (fun _ h_ => h_.1))))) (Kd.R_lt (by (with_reducible repeat (first | apply Kd.R_alloc | apply Kd.R_drewN | apply Kd.R_drew)); exact (Kd.R_mono (Kd.R_far (p := ⟨gb278, 2, none⟩) (Kd.R_far (p := ⟨gb278, 1, none⟩) (Kd.R_far (p := ⟨gb278, 0, none⟩) (Kd.R_types HO276.out BK278.out (by decide)) (fun _ hk => hk.2) (.int .i64 t272)) (fun _ hk => hk.2) (.int .i64 t273)) (fun _ hk => hk.2) (.slice Ao23 t274.length co23)) (fun _ h_ => h_.1))))) (below_size (hb2_ HB.out GE265.out GE278.out))); have n3_ := Aside0.mk (blk_below (g := gb265) (o := .cells #[.int .i64 a0_0, .int .i64 a0_1, .slice A0_2 l0_2.length c0_2] 24 (0, 0)) (by (with_reducible repeat (first | refine blk_drewN ?_ _ | refine blk_drew ?_ | refine blk_alloc ?_ _)); refine blk_far ?_ NB265_278.out _; (with_reducible repeat (first | refine blk_drewN ?_ _ | refine blk_drew ?_ | refine blk_alloc ?_ _)); refine blk_far ?_ NB265_278.out _; (with_reducible repeat (first | refine blk_drewN ?_ _ | refine blk_drew ?_ | refine blk_alloc ?_ _)); refine blk_far ?_ NB265_278.out _; (with_reducible repeat (first | refine blk_drewN ?_ _ | refine blk_drew ?_ | refine blk_alloc ?_ _)); exact BK265.out) hb); have n4_ := Aside0.mk (blk_below (g := gb278) (o := .cells #[.int .i64 t272, .int .i64 t273, .slice Ao23 t274.length co23] 29 (0, 0)) (by (with_reducible repeat (first | refine blk_drewN ?_ _ | refine blk_drew ?_ | refine blk_alloc ?_ _)); refine blk_put (cs := #[.int .i64 t272, .int .i64 t273, .slice none 0 0]) ?_ 2 _ rfl; (with_reducible repeat (first | refine blk_drewN ?_ _ | refine blk_drew ?_ | refine blk_alloc ?_ _)); refine blk_put (cs := #[.int .i64 t272, .int .i64 0, .slice none 0 0]) ?_ 1 _ rfl; (with_reducible repeat (first | refine blk_drewN ?_ _ | refine blk_drew ?_ | refine blk_alloc ?_ _)); refine blk_put (cs := #[.int .i64 0, .int .i64 0, .slice none 0 0]) ?_ 0 _ rfl; (with_reducible repeat (first | refine blk_drewN ?_ _ | refine blk_drew ?_ | refine blk_alloc ?_ _)); exact BK278.out) hb); have n5_ := Aside0.mk (below_step (hb2_ HB.out GE265.out GE278.out) hb); clear HO271; clear HO276; clear BK265; clear BK278; clear HB; have HO271 := n0_; have HO276 := n1_; have HO283 := n2_; have BK265 := n3_; have BK278 := n4_; have HB := n5_; clear n0_ n1_ n2_ n3_ n4_ n5_; (try clear hb); (try clear hb2); (try clear hk); (try clear hi); (try clear ho0)) | ((with_reducible refine gate_dst (N := 8) rfl ?_); refine box_event ?hg (N := 8) ?hd (cs := #[.int .i64 0, .int .i64 0, .slice none 0 0]) (t := 29) ?hr ?_; (case hd => rfl); (case hg => rfl); (case hr => first | (go_simp; done) | (go_simp; rfl)); intro gb284 hg w26 hbox hb; have n0_ := Aside0.mk (Kd.R_below (by (with_reducible repeat (first | apply Kd.R_alloc | apply Kd.R_drewN | apply Kd.R_drew)); exact HO271.out) hb); have n1_ := Aside0.mk (Kd.R_below (by (with_reducible repeat (first | apply Kd.R_alloc | apply Kd.R_drewN | apply Kd.R_drew)); exact HO276.out) hb); have n2_ := Aside0.mk (Kd.R_below (by (with_reducible repeat (first | apply Kd.R_alloc | apply Kd.R_drewN | apply Kd.R_drew)); exact HO283.out) hb); have n3_ := Aside0.mk (bb_ BK265.out hb); have n4_ := Aside0.mk (bb_ BK278.out hb); have n5_ := Aside0.mk (below_step (hb2_ HB.out GE265.out GE278.out) hb); have n6_ := Aside0.mk (hbox); have n7_ := Aside0.mk ((by rw [hg]; exact (below_size (hb2_ HB.out GE265.out GE278.out)) : w.heap.size ≤ gb284)); have n8_ := Aside0.mk ((by rw [hg]; exact (below_size (hb2_ HB.out GE265.out GE278.out)) : w.heap.size ≤ gb284)); have n9_ := Aside0.mk ((bl_ hg BK265.out : gb265 ≠ gb284)); have n10_ := Aside0.mk ((bg_ hg BK265.out : gb284 ≠ gb265)); have n11_ := Aside0.mk ((bl_ hg BK278.out : gb278 ≠ gb284)); have n12_ := Aside0.mk ((bg_ hg BK278.out : gb284 ≠ gb278)); clear HO271; clear HO276; clear HO283; clear BK265; clear BK278; clear HB; have HO271 := n0_; have HO276 := n1_; have HO283 := n2_; have BK265 := n3_; have BK278 := n4_; have HB := n5_; have BK284 := n6_; have GW284 := n7_; have GE284 := n8_; have NB265_284 := n9_; have NB284_265 := n10_; have NB278_284 := n11_; have NB284_278 := n12_; clear n0_ n1_ n2_ n3_ n4_ n5_ n6_ n7_ n8_ n9_ n10_ n11_ n12_; clear hb hbox hg; have hnb27 := NB284_265.out; have hnc27 := NB265_284.out; have hnb28 := NB284_278.out; have hnc28 := NB278_284.out; have hcz29_0 := bc_ BK284.out 0 (.int .i64 0) rfl; have hcz29_1 := bc_ BK284.out 1 (.int .i64 0) rfl; have hcz29_2 := bc_ BK284.out 2 (.slice none 0 0) rfl; have hfz29_0 := blk_frozen BK284.out 0; have hfz29_1 := blk_frozen BK284.out 1; have hfz29_2 := blk_frozen BK284.out 2; obtain ⟨Ao30, co30, eo30⟩ := Kd.R_slice HO283.out; subst eo30) | ((with_reducible refine gate_callee (f := 21) rfl ?_); refine goesL_ (some 33) rfl rfl Try.func21 (by kernel_rfl) rfl #[.agg #[.int .i64 t279, .int .i64 t280, .slice Ao30 t281.length co30], .int .i64 a1] rfl arr_ ?_; (with_reducible refine (impl_PlanMoved.calls k t279 t280 _ _ t281 a1 t285 t286 t287 t290 _ ?side1 ?side2 A11.out).mono ?_); (case side1 => refine (Kd.R_reads' (e := 60) (base := w.heap.size) (ok := fun k_ => ((True ∧ some k_ ≠ (.slice Ao18 t269.length co18 : Value).ownBlock) ∧ some k_ ≠ (.slice Ao23 t274.length co23 : Value).ownBlock)) (n := t281.length) (c := co30) ?_).2.2; exact (by (with_reducible repeat (first | apply Kd.R_alloc | apply Kd.R_drewN | apply Kd.R_drew)); exact (Kd.R_mono (Kd.R_far (p := ⟨gb284, 2, none⟩) (Kd.R_far (p := ⟨gb284, 1, none⟩) (Kd.R_far (p := ⟨gb284, 0, none⟩) (Kd.R_types HO283.out BK284.out (by decide)) (fun _ hk => hk.2) (.int .i64 t279)) (fun _ hk => hk.2) (.int .i64 t280)) (fun _ hk => hk.2) (.slice Ao30 t281.length co30)) (fun _ h_ => h_.1)))); (case side2 => exact (Kd.R_reads' HO283.out).2.1); rintro e w31 ⟨v288, rfl, ho0, hb⟩; refine ⟨_, rfl, ?_⟩; have n0_ := Aside0.mk (Kd.R_elder' (by (with_reducible repeat (first | apply Kd.R_alloc | apply Kd.R_drewN | apply Kd.R_drew)); exact (Kd.R_mono (Kd.R_far (p := ⟨gb284, 2, none⟩) (Kd.R_far (p := ⟨gb284, 1, none⟩) (Kd.R_far (p := ⟨gb284, 0, none⟩) (Kd.R_types HO271.out BK284.out (by decide)) (fun _ hk => hk.2) (.int .i64 t279)) (fun _ hk => hk.2) (.int .i64 t280)) (fun _ hk => hk.2) (.slice Ao30 t281.length co30)) (fun _ h_ => h_.1))) (Kd.R_base ho0) hb); have n1_ := Aside0.mk (Kd.R_elder' (by (with_reducible repeat (first | apply Kd.R_alloc | apply Kd.R_drewN | apply Kd.R_drew)); exact (Kd.R_mono (Kd.R_far (p := ⟨gb284, 2, none⟩) (Kd.R_far (p := ⟨gb284, 1, none⟩) (Kd.R_far (p := ⟨gb284, 0, none⟩) (Kd.R_types HO276.out BK284.out (by decide)) (fun _ hk => hk.2) (.int .i64 t279)) (fun _ hk => hk.2) (.int .i64 t280)) (fun _ hk => hk.2) (.slice Ao30 t281.length co30)) (fun _ h_ => h_.1))) (Kd.R_base ho0) hb); have n2_ := Aside0.mk (Kd.R_elder' (by (with_reducible repeat (first | apply Kd.R_alloc | apply Kd.R_drewN | apply Kd.R_drew)); exact (Kd.R_mono (Kd.R_far (p := ⟨gb284, 2, none⟩) (Kd.R_far (p := ⟨gb284, 1, none⟩) (Kd.R_far (p := ⟨gb284, 0, none⟩) (Kd.R_types HO283.out BK284.out (by decide)) (fun _ hk => hk.2) (.int .i64 t279)) (fun _ hk => hk.2) (.int .i64 t280)) (fun _ hk => hk.2) (.slice Ao30 t281.length co30)) (fun _ h_ => h_.1))) (Kd.R_base ho0) hb); have n3_ := Aside0.mk (Kd.R_lower (Kd.R_new' (Kd.R_new' (Kd.R_new' ho0 (Kd.R_lt (by (with_reducible repeat (first | apply Kd.R_alloc | apply Kd.R_drewN | apply Kd.R_drew)); exact (Kd.R_mono (Kd.R_far (p := ⟨gb284, 2, none⟩) (Kd.R_far (p := ⟨gb284, 1, none⟩) (Kd.R_far (p := ⟨gb284, 0, none⟩) (Kd.R_types HO271.out BK284.out (by decide)) (fun _ hk => hk.2) (.int .i64 t279)) (fun _ hk => hk.2) (.int .i64 t280)) (fun _ hk => hk.2) (.slice Ao30 t281.length co30)) (fun _ h_ => h_.1))))) (Kd.R_lt (by (with_reducible repeat (first | apply Kd.R_alloc | apply Kd.R_drewN | apply Kd.R_drew)); exact (Kd.R_mono (Kd.R_far (p := ⟨gb284, 2, none⟩) (Kd.R_far (p := ⟨gb284, 1, none⟩) (Kd.R_far (p := ⟨gb284, 0, none⟩) (Kd.R_types HO276.out BK284.out (by decide)) (fun _ hk => hk.2) (.int .i64 t279)) (fun _ hk => hk.2) (.int .i64 t280)) (fun _ hk => hk.2) (.slice Ao30 t281.length co30)) (fun _ h_ => h_.1))))) (Kd.R_lt (by (with_reducible repeat (first | apply Kd.R_alloc | apply Kd.R_drewN | apply Kd.R_drew)); exact (Kd.R_mono (Kd.R_far (p := ⟨gb284, 2, none⟩) (Kd.R_far (p := ⟨gb284, 1, none⟩) (Kd.R_far (p := ⟨gb284, 0, none⟩) (Kd.R_types HO283.out BK284.out (by decide)) (fun _ hk => hk.2) (.int .i64 t279)) (fun _ hk => hk.2) (.int .i64 t280)) (fun _ hk => hk.2) (.slice Ao30 t281.length co30)) (fun _ h_ => h_.1))))) (below_size (hb3_ HB.out GE265.out GE278.out GE284.out))); have n4_ := Aside0.mk (blk_below (g := gb265) (o := .cells #[.int .i64 a0_0, .int .i64 a0_1, .slice A0_2 l0_2.length c0_2] 24 (0, 0)) (by (with_reducible repeat (first | refine blk_drewN ?_ _ | refine blk_drew ?_ | refine blk_alloc ?_ _)); refine blk_far ?_ NB265_284.out _; (with_reducible repeat (first | refine blk_drewN ?_ _ | refine blk_drew ?_ | refine blk_alloc ?_ _)); refine blk_far ?_ NB265_284.out _; (with_reducible repeat (first | refine blk_drewN ?_ _ | refine blk_drew ?_ | refine blk_alloc ?_ _)); refine blk_far ?_ NB265_284.out _; (with_reducible repeat (first | refine blk_drewN ?_ _ | refine blk_drew ?_ | refine blk_alloc ?_ _)); exact BK265.out) hb); have n5_ := Aside0.mk (blk_below (g := gb278) (o := .cells #[.int .i64 t272, .int .i64 t273, .slice Ao23 t274.length co23] 29 (0, 0)) (by (with_reducible repeat (first | refine blk_drewN ?_ _ | refine blk_drew ?_ | refine blk_alloc ?_ _)); refine blk_far ?_ NB278_284.out _; (with_reducible repeat (first | refine blk_drewN ?_ _ | refine blk_drew ?_ | refine blk_alloc ?_ _)); refine blk_far ?_ NB278_284.out _; (with_reducible repeat (first | refine blk_drewN ?_ _ | refine blk_drew ?_ | refine blk_alloc ?_ _)); refine blk_far ?_ NB278_284.out _; (with_reducible repeat (first | refine blk_drewN ?_ _ | refine blk_drew ?_ | refine blk_alloc ?_ _)); exact BK278.out) hb); have n6_ := Aside0.mk (blk_below (g := gb284) (o := .cells #[.int .i64 t279, .int .i64 t280, .slice Ao30 t281.length co30] 29 (0, 0)) (by (with_reducible repeat (first | refine blk_drewN ?_ _ | refine blk_drew ?_ | refine blk_alloc ?_ _)); refine blk_put (cs := #[.int .i64 t279, .int .i64 t280, .slice none 0 0]) ?_ 2 _ rfl; (with_reducible repeat (first | refine blk_drewN ?_ _ | refine blk_drew ?_ | refine blk_alloc ?_ _)); refine blk_put (cs := #[.int .i64 t279, .int .i64 0, .slice none 0 0]) ?_ 1 _ rfl; (with_reducible repeat (first | refine blk_drewN ?_ _ | refine blk_drew ?_ | refine blk_alloc ?_ _)); refine blk_put (cs := #[.int .i64 0, .int .i64 0, .slice none 0 0]) ?_ 0 _ rfl; (with_reducible repeat (first | refine blk_drewN ?_ _ | refine blk_drew ?_ | refine blk_alloc ?_ _)); exact BK284.out) hb); have n7_ := Aside0.mk (below_step (hb3_ HB.out GE265.out GE278.out GE284.out) hb); clear HO271; clear HO276; clear HO283; clear BK265; clear BK278; clear BK284; clear HB; have HO271 := n0_; have HO276 := n1_; have HO283 := n2_; have HO289 := n3_; have BK265 := n4_; have BK278 := n5_; have BK284 := n6_; have HB := n7_; clear n0_ n1_ n2_ n3_ n4_ n5_ n6_ n7_; (try clear hb); (try clear hb2); (try clear hk); (try clear hi); (try clear ho0)) | ((with_reducible refine gate_dst (N := 9) rfl ?_); refine box_event ?hg (N := 9) ?hd (cs := #[.int .i64 0, .int .i64 0, .slice none 0 0]) (t := 29) ?hr ?_; (case hd => rfl); (case hg => rfl); (case hr => first | (go_simp; done) | (go_simp; rfl)); intro gb291 hg w32 hbox hb; have n0_ := Aside0.mk (Kd.R_below (by (with_reducible repeat (first | apply Kd.R_alloc | apply Kd.R_drewN | apply Kd.R_drew)); exact HO271.out) hb); have n1_ := Aside0.mk (Kd.R_below (by (with_reducible repeat (first | apply Kd.R_alloc | apply Kd.R_drewN | apply Kd.R_drew)); exact HO276.out) hb); have n2_ := Aside0.mk (Kd.R_below (by (with_reducible repeat (first | apply Kd.R_alloc | apply Kd.R_drewN | apply Kd.R_drew)); exact HO283.out) hb); have n3_ := Aside0.mk (Kd.R_below (by (with_reducible repeat (first | apply Kd.R_alloc | apply Kd.R_drewN | apply Kd.R_drew)); exact HO289.out) hb); have n4_ := Aside0.mk (bb_ BK265.out hb); have n5_ := Aside0.mk (bb_ BK278.out hb); have n6_ := Aside0.mk (bb_ BK284.out hb); have n7_ := Aside0.mk (below_step (hb3_ HB.out GE265.out GE278.out GE284.out) hb); have n8_ := Aside0.mk (hbox); have n9_ := Aside0.mk ((by rw [hg]; exact (below_size (hb3_ HB.out GE265.out GE278.out GE284.out)) : w.heap.size ≤ gb291)); have n10_ := Aside0.mk ((by rw [hg]; exact (below_size (hb3_ HB.out GE265.out GE278.out GE284.out)) : w.heap.size ≤ gb291)); have n11_ := Aside0.mk ((bl_ hg BK265.out : gb265 ≠ gb291)); have n12_ := Aside0.mk ((bg_ hg BK265.out : gb291 ≠ gb265)); have n13_ := Aside0.mk ((bl_ hg BK278.out : gb278 ≠ gb291)); have n14_ := Aside0.mk ((bg_ hg BK278.out : gb291 ≠ gb278)); have n15_ := Aside0.mk ((bl_ hg BK284.out : gb284 ≠ gb291)); have n16_ := Aside0.mk ((bg_ hg BK284.out : gb291 ≠ gb284)); clear HO271; clear HO276; clear HO283; clear HO289; clear BK265; clear BK278; clear BK284; clear HB; have HO271 := n0_; have HO276 := n1_; have HO283 := n2_; have HO289 := n3_; have BK265 := n4_; have BK278 := n5_; have BK284 := n6_; have HB := n7_; have BK291 := n8_; have GW291 := n9_; have GE291 := n10_; have NB265_291 := n11_; have NB291_265 := n12_; have NB278_291 := n13_; have NB291_278 := n14_; have NB284_291 := n15_; have NB291_284 := n16_; clear n0_ n1_ n2_ n3_ n4_ n5_ n6_ n7_ n8_ n9_ n10_ n11_ n12_ n13_ n14_ n15_ n16_; clear hb hbox hg; have hnb33 := NB291_265.out; have hnc33 := NB265_291.out; have hnb34 := NB291_278.out; have hnc34 := NB278_291.out; have hnb35 := NB291_284.out; have hnc35 := NB284_291.out; have hcz36_0 := bc_ BK291.out 0 (.int .i64 0) rfl; have hcz36_1 := bc_ BK291.out 1 (.int .i64 0) rfl; have hcz36_2 := bc_ BK291.out 2 (.slice none 0 0) rfl; have hfz36_0 := blk_frozen BK291.out 0; have hfz36_1 := blk_frozen BK291.out 1; have hfz36_2 := blk_frozen BK291.out 2; obtain ⟨Ao37, co37, eo37⟩ := Kd.R_slice HO289.out; subst eo37))
    (try simp only [Act.put, List.setIfInBounds_toArray, List.set_cons_zero, List.set_cons_succ])
    go_cut [44] (fun v44 wc => ∃ (kq : Nat) (x44_11 : Bool), v44 = .bool x44_11 ∧ Aside0 (laws_FnExactPlanMoved.j0 kq a1 t277 t290 x44_11 a0_0 a0_1 l0_2 t272 t273 t274 t279 t280 t281 t285 t286 t287 = some r) ∧ Aside0 (kq ≤ k) ∧ Aside0 (Kd.R k60 60 wc w.heap.size (fun k_ => some k_ ≠ ((.slice Ao30 t281.length co30) : Value).ownBlock ∧ some k_ ≠ ((.slice Ao37 t287.length co37) : Value).ownBlock) (.slice Ao23 t274.length co23) t274) ∧ Aside0 (Kd.R k60 60 wc w.heap.size (fun k_ => some k_ ≠ ((.slice Ao23 t274.length co23) : Value).ownBlock ∧ some k_ ≠ ((.slice Ao37 t287.length co37) : Value).ownBlock) (.slice Ao30 t281.length co30) t281) ∧ Aside0 (Kd.R k60 60 wc w.heap.size (fun k_ => some k_ ≠ ((.slice Ao23 t274.length co23) : Value).ownBlock ∧ some k_ ≠ ((.slice Ao30 t281.length co30) : Value).ownBlock) (.slice Ao37 t287.length co37) t287) ∧ Aside0 (wc.heap[gb265]? = some (.cells #[.int .i64 a0_0, .int .i64 a0_1, (.slice A0_2 l0_2.length c0_2)] 24 (0, 0))) ∧ Aside0 (wc.heap[gb278]? = some (.cells #[.int .i64 t272, .int .i64 t273, (.slice Ao23 t274.length co23)] 29 (0, 0))) ∧ Aside0 (wc.heap[gb284]? = some (.cells #[.int .i64 t279, .int .i64 t280, (.slice Ao30 t281.length co30)] 29 (0, 0))) ∧ Aside0 (wc.heap[gb291]? = some (.cells #[.int .i64 t285, .int .i64 t286, (.slice Ao37 t287.length co37)] 29 (0, 0))) ∧ Aside0 (Below w.heap.size w wc))
    case first =>
      have H := HC12.out
      clear HC12
      replace H := Option.bind_eq_some_iff.mp H
      obtain ⟨t292, A380, H⟩ := H
      replace H : (if t292 = true then (laws_FnExactPlanMoved.j0 k a1 t277 t290 (t290 != t277) a0_0 a0_1 l0_2 t272 t273 t274 t279 t280 t281 t285 t286 t287) else (laws_FnExactPlanMoved.j0 k a1 t277 t290 true a0_0 a0_1 l0_2 t272 t273 t274 t279 t280 t281 t285 t286 t287)) = some r := H
      have A38 := Aside0.mk A380
      clear A380
      by_cases c39 : t292 = true
      · subst c39
        have H1 : (laws_FnExactPlanMoved.j0 k a1 t277 t290 (t290 != t277) a0_0 a0_1 l0_2 t272 t273 t274 t279 t280 t281 t285 t286 t287) = some r := by rw [if_pos rfl] at H; exact H
        clear H
        have H := H1
        clear H1
        have H' := Aside0.mk H
        clear H
        have hnb40 := NB291_265.out
        have hnc40 := NB265_291.out
        have hnb41 := NB291_278.out
        have hnc41 := NB278_291.out
        have hnb42 := NB291_284.out
        have hnc42 := NB284_291.out
        have hcz43_0 := bc_ BK291.out 0 (.int .i64 0) rfl
        have hcz43_1 := bc_ BK291.out 1 (.int .i64 0) rfl
        have hcz43_2 := bc_ BK291.out 2 (.slice none 0 0) rfl
        have hfz43_0 := blk_frozen BK291.out 0
        have hfz43_1 := blk_frozen BK291.out 1
        have hfz43_2 := blk_frozen BK291.out 2
        have hnb44 := NB278_265.out
        have hnc44 := NB265_278.out
        have hnb45 := NB278_284.out
        have hnc45 := NB284_278.out
        have hcz46_0 := bc_ BK278.out 0 (.int .i64 t272) rfl
        have hcz46_1 := bc_ BK278.out 1 (.int .i64 t273) rfl
        have hcz46_2 := bc_ BK278.out 2 (.slice Ao23 t274.length co23) rfl
        have hfz46_0 := blk_frozen BK278.out 0
        have hfz46_1 := blk_frozen BK278.out 1
        have hfz46_2 := blk_frozen BK278.out 2
        go_wp2_with (first | ((with_reducible refine gate_callee (f := 17) rfl ?_); refine goesL_ (some 38) rfl rfl Try.func17 (by kernel_rfl) rfl #[.agg #[.int .i64 t285, .int .i64 t286, .slice Ao37 t287.length co37], .agg #[.int .i64 t272, .int .i64 t273, .slice Ao23 t274.length co23]] rfl arr_ ?_; (with_reducible refine (laws_eqPlan.calls k t285 t286 _ _ t287 t272 t273 _ _ t274 true _ ?side1 ?side2 ?side3 ?side4 A38.out).mono ?_); (case side1 => refine (Kd.R_reads' (e := 60) (base := w.heap.size) (ok := fun k_ => (((True ∧ some k_ ≠ (.slice Ao18 t269.length co18 : Value).ownBlock) ∧ some k_ ≠ (.slice Ao23 t274.length co23 : Value).ownBlock) ∧ some k_ ≠ (.slice Ao30 t281.length co30 : Value).ownBlock)) (n := t287.length) (c := co37) ?_).2.2; exact (by (with_reducible repeat (first | apply Kd.R_alloc | apply Kd.R_drewN | apply Kd.R_drew)); exact (Kd.R_mono (Kd.R_far (p := ⟨gb291, 2, none⟩) (Kd.R_far (p := ⟨gb291, 1, none⟩) (Kd.R_far (p := ⟨gb291, 0, none⟩) (Kd.R_types HO289.out BK291.out (by decide)) (fun _ hk => hk.2) (.int .i64 t285)) (fun _ hk => hk.2) (.int .i64 t286)) (fun _ hk => hk.2) (.slice Ao37 t287.length co37)) (fun _ h_ => h_.1)))); (case side2 => exact (Kd.R_reads' HO289.out).2.1); (case side3 => refine (Kd.R_reads' (e := 60) (base := w.heap.size) (ok := fun k_ => (((True ∧ some k_ ≠ (.slice Ao18 t269.length co18 : Value).ownBlock) ∧ some k_ ≠ (.slice Ao30 t281.length co30 : Value).ownBlock) ∧ some k_ ≠ (.slice Ao37 t287.length co37 : Value).ownBlock)) (n := t274.length) (c := co23) ?_).2.2; exact (by (with_reducible repeat (first | apply Kd.R_alloc | apply Kd.R_drewN | apply Kd.R_drew)); exact (Kd.R_mono (Kd.R_far (p := ⟨gb291, 2, none⟩) (Kd.R_far (p := ⟨gb291, 1, none⟩) (Kd.R_far (p := ⟨gb291, 0, none⟩) (Kd.R_types HO276.out BK291.out (by decide)) (fun _ hk => hk.2) (.int .i64 t285)) (fun _ hk => hk.2) (.int .i64 t286)) (fun _ hk => hk.2) (.slice Ao37 t287.length co37)) (fun _ h_ => h_.1)))); (case side4 => exact (Kd.R_reads' HO276.out).2.1); rintro e w47 ⟨rfl, hb⟩; refine ⟨_, rfl, ?_⟩; have n0_ := Aside0.mk (Kd.R_below (by (with_reducible repeat (first | apply Kd.R_alloc | apply Kd.R_drewN | apply Kd.R_drew)); exact (Kd.R_mono (Kd.R_far (p := ⟨gb291, 2, none⟩) (Kd.R_far (p := ⟨gb291, 1, none⟩) (Kd.R_far (p := ⟨gb291, 0, none⟩) (Kd.R_types HO271.out BK291.out (by decide)) (fun _ hk => hk.2) (.int .i64 t285)) (fun _ hk => hk.2) (.int .i64 t286)) (fun _ hk => hk.2) (.slice Ao37 t287.length co37)) (fun _ h_ => h_.1))) hb); have n1_ := Aside0.mk (Kd.R_below (by (with_reducible repeat (first | apply Kd.R_alloc | apply Kd.R_drewN | apply Kd.R_drew)); exact (Kd.R_mono (Kd.R_far (p := ⟨gb291, 2, none⟩) (Kd.R_far (p := ⟨gb291, 1, none⟩) (Kd.R_far (p := ⟨gb291, 0, none⟩) (Kd.R_types HO276.out BK291.out (by decide)) (fun _ hk => hk.2) (.int .i64 t285)) (fun _ hk => hk.2) (.int .i64 t286)) (fun _ hk => hk.2) (.slice Ao37 t287.length co37)) (fun _ h_ => h_.1))) hb); have n2_ := Aside0.mk (Kd.R_below (by (with_reducible repeat (first | apply Kd.R_alloc | apply Kd.R_drewN | apply Kd.R_drew)); exact (Kd.R_mono (Kd.R_far (p := ⟨gb291, 2, none⟩) (Kd.R_far (p := ⟨gb291, 1, none⟩) (Kd.R_far (p := ⟨gb291, 0, none⟩) (Kd.R_types HO283.out BK291.out (by decide)) (fun _ hk => hk.2) (.int .i64 t285)) (fun _ hk => hk.2) (.int .i64 t286)) (fun _ hk => hk.2) (.slice Ao37 t287.length co37)) (fun _ h_ => h_.1))) hb); have n3_ := Aside0.mk (Kd.R_below (by (with_reducible repeat (first | apply Kd.R_alloc | apply Kd.R_drewN | apply Kd.R_drew)); exact (Kd.R_mono (Kd.R_far (p := ⟨gb291, 2, none⟩) (Kd.R_far (p := ⟨gb291, 1, none⟩) (Kd.R_far (p := ⟨gb291, 0, none⟩) (Kd.R_types HO289.out BK291.out (by decide)) (fun _ hk => hk.2) (.int .i64 t285)) (fun _ hk => hk.2) (.int .i64 t286)) (fun _ hk => hk.2) (.slice Ao37 t287.length co37)) (fun _ h_ => h_.1))) hb); have n4_ := Aside0.mk (blk_below (g := gb265) (o := .cells #[.int .i64 a0_0, .int .i64 a0_1, .slice A0_2 l0_2.length c0_2] 24 (0, 0)) (by (with_reducible repeat (first | refine blk_drewN ?_ _ | refine blk_drew ?_ | refine blk_alloc ?_ _)); refine blk_far ?_ NB265_291.out _; (with_reducible repeat (first | refine blk_drewN ?_ _ | refine blk_drew ?_ | refine blk_alloc ?_ _)); refine blk_far ?_ NB265_291.out _; (with_reducible repeat (first | refine blk_drewN ?_ _ | refine blk_drew ?_ | refine blk_alloc ?_ _)); refine blk_far ?_ NB265_291.out _; (with_reducible repeat (first | refine blk_drewN ?_ _ | refine blk_drew ?_ | refine blk_alloc ?_ _)); exact BK265.out) hb); have n5_ := Aside0.mk (blk_below (g := gb278) (o := .cells #[.int .i64 t272, .int .i64 t273, .slice Ao23 t274.length co23] 29 (0, 0)) (by (with_reducible repeat (first | refine blk_drewN ?_ _ | refine blk_drew ?_ | refine blk_alloc ?_ _)); refine blk_far ?_ NB278_291.out _; (with_reducible repeat (first | refine blk_drewN ?_ _ | refine blk_drew ?_ | refine blk_alloc ?_ _)); refine blk_far ?_ NB278_291.out _; (with_reducible repeat (first | refine blk_drewN ?_ _ | refine blk_drew ?_ | refine blk_alloc ?_ _)); refine blk_far ?_ NB278_291.out _; (with_reducible repeat (first | refine blk_drewN ?_ _ | refine blk_drew ?_ | refine blk_alloc ?_ _)); exact BK278.out) hb); have n6_ := Aside0.mk (blk_below (g := gb284) (o := .cells #[.int .i64 t279, .int .i64 t280, .slice Ao30 t281.length co30] 29 (0, 0)) (by (with_reducible repeat (first | refine blk_drewN ?_ _ | refine blk_drew ?_ | refine blk_alloc ?_ _)); refine blk_far ?_ NB284_291.out _; (with_reducible repeat (first | refine blk_drewN ?_ _ | refine blk_drew ?_ | refine blk_alloc ?_ _)); refine blk_far ?_ NB284_291.out _; (with_reducible repeat (first | refine blk_drewN ?_ _ | refine blk_drew ?_ | refine blk_alloc ?_ _)); refine blk_far ?_ NB284_291.out _; (with_reducible repeat (first | refine blk_drewN ?_ _ | refine blk_drew ?_ | refine blk_alloc ?_ _)); exact BK284.out) hb); have n7_ := Aside0.mk (blk_below (g := gb291) (o := .cells #[.int .i64 t285, .int .i64 t286, .slice Ao37 t287.length co37] 29 (0, 0)) (by (with_reducible repeat (first | refine blk_drewN ?_ _ | refine blk_drew ?_ | refine blk_alloc ?_ _)); refine blk_put (cs := #[.int .i64 t285, .int .i64 t286, .slice none 0 0]) ?_ 2 _ rfl; (with_reducible repeat (first | refine blk_drewN ?_ _ | refine blk_drew ?_ | refine blk_alloc ?_ _)); refine blk_put (cs := #[.int .i64 t285, .int .i64 0, .slice none 0 0]) ?_ 1 _ rfl; (with_reducible repeat (first | refine blk_drewN ?_ _ | refine blk_drew ?_ | refine blk_alloc ?_ _)); refine blk_put (cs := #[.int .i64 0, .int .i64 0, .slice none 0 0]) ?_ 0 _ rfl; (with_reducible repeat (first | refine blk_drewN ?_ _ | refine blk_drew ?_ | refine blk_alloc ?_ _)); exact BK291.out) hb); have n8_ := Aside0.mk (below_step (hb4_ HB.out GE265.out GE278.out GE284.out GE291.out) hb); clear HO271; clear HO276; clear HO283; clear HO289; clear BK265; clear BK278; clear BK284; clear BK291; clear HB; have HO271 := n0_; have HO276 := n1_; have HO283 := n2_; have HO289 := n3_; have BK265 := n4_; have BK278 := n5_; have BK284 := n6_; have BK291 := n7_; have HB := n8_; clear n0_ n1_ n2_ n3_ n4_ n5_ n6_ n7_ n8_; (try clear hb); (try clear hb2); (try clear hk); (try clear hi)))
        go_meet
        case rel => exact ⟨_, ((t290 != t277)), (by first | rfl | (simp; done) | (simp [*]; done)), H', ⟨by first | omega | exact Nat.le_refl _⟩, ⟨by (with_reducible repeat (first | apply Kd.R_alloc | apply Kd.R_drewN | apply Kd.R_drew)); exact Kd.R_mono HO276.out (fun _ hk => ⟨hk.1.2, hk.2⟩)⟩, ⟨by (with_reducible repeat (first | apply Kd.R_alloc | apply Kd.R_drewN | apply Kd.R_drew)); exact Kd.R_mono HO283.out (fun _ hk => ⟨hk.1.2, hk.2⟩)⟩, ⟨by (with_reducible repeat (first | apply Kd.R_alloc | apply Kd.R_drewN | apply Kd.R_drew)); exact Kd.R_mono HO289.out (fun _ hk => ⟨hk.1.2, hk.2⟩)⟩, ⟨bk_ BK265.out⟩, ⟨bk_ BK278.out⟩, ⟨bk_ BK284.out⟩, ⟨bk_ BK291.out⟩, ⟨hb4_ HB.out GE265.out GE278.out GE284.out GE291.out⟩⟩
      · replace c39 := Bool.eq_false_iff.mpr c39
        subst c39
        have H1 : (laws_FnExactPlanMoved.j0 k a1 t277 t290 true a0_0 a0_1 l0_2 t272 t273 t274 t279 t280 t281 t285 t286 t287) = some r := by rw [if_neg (show ¬ (false = true) by decide)] at H; exact H
        clear H
        have H := H1
        clear H1
        have H' := Aside0.mk H
        clear H
        have hnb48 := NB291_265.out
        have hnc48 := NB265_291.out
        have hnb49 := NB291_278.out
        have hnc49 := NB278_291.out
        have hnb50 := NB291_284.out
        have hnc50 := NB284_291.out
        have hcz51_0 := bc_ BK291.out 0 (.int .i64 0) rfl
        have hcz51_1 := bc_ BK291.out 1 (.int .i64 0) rfl
        have hcz51_2 := bc_ BK291.out 2 (.slice none 0 0) rfl
        have hfz51_0 := blk_frozen BK291.out 0
        have hfz51_1 := blk_frozen BK291.out 1
        have hfz51_2 := blk_frozen BK291.out 2
        have hnb52 := NB278_265.out
        have hnc52 := NB265_278.out
        have hnb53 := NB278_284.out
        have hnc53 := NB284_278.out
        have hcz54_0 := bc_ BK278.out 0 (.int .i64 t272) rfl
        have hcz54_1 := bc_ BK278.out 1 (.int .i64 t273) rfl
        have hcz54_2 := bc_ BK278.out 2 (.slice Ao23 t274.length co23) rfl
        have hfz54_0 := blk_frozen BK278.out 0
        have hfz54_1 := blk_frozen BK278.out 1
        have hfz54_2 := blk_frozen BK278.out 2
        go_wp2_with (first | ((with_reducible refine gate_callee (f := 17) rfl ?_); refine goesL_ (some 38) rfl rfl Try.func17 (by kernel_rfl) rfl #[.agg #[.int .i64 t285, .int .i64 t286, .slice Ao37 t287.length co37], .agg #[.int .i64 t272, .int .i64 t273, .slice Ao23 t274.length co23]] rfl arr_ ?_; (with_reducible refine (laws_eqPlan.calls k t285 t286 _ _ t287 t272 t273 _ _ t274 false _ ?side1 ?side2 ?side3 ?side4 A38.out).mono ?_); (case side1 => refine (Kd.R_reads' (e := 60) (base := w.heap.size) (ok := fun k_ => (((True ∧ some k_ ≠ (.slice Ao18 t269.length co18 : Value).ownBlock) ∧ some k_ ≠ (.slice Ao23 t274.length co23 : Value).ownBlock) ∧ some k_ ≠ (.slice Ao30 t281.length co30 : Value).ownBlock)) (n := t287.length) (c := co37) ?_).2.2; exact (by (with_reducible repeat (first | apply Kd.R_alloc | apply Kd.R_drewN | apply Kd.R_drew)); exact (Kd.R_mono (Kd.R_far (p := ⟨gb291, 2, none⟩) (Kd.R_far (p := ⟨gb291, 1, none⟩) (Kd.R_far (p := ⟨gb291, 0, none⟩) (Kd.R_types HO289.out BK291.out (by decide)) (fun _ hk => hk.2) (.int .i64 t285)) (fun _ hk => hk.2) (.int .i64 t286)) (fun _ hk => hk.2) (.slice Ao37 t287.length co37)) (fun _ h_ => h_.1)))); (case side2 => exact (Kd.R_reads' HO289.out).2.1); (case side3 => refine (Kd.R_reads' (e := 60) (base := w.heap.size) (ok := fun k_ => (((True ∧ some k_ ≠ (.slice Ao18 t269.length co18 : Value).ownBlock) ∧ some k_ ≠ (.slice Ao30 t281.length co30 : Value).ownBlock) ∧ some k_ ≠ (.slice Ao37 t287.length co37 : Value).ownBlock)) (n := t274.length) (c := co23) ?_).2.2; exact (by (with_reducible repeat (first | apply Kd.R_alloc | apply Kd.R_drewN | apply Kd.R_drew)); exact (Kd.R_mono (Kd.R_far (p := ⟨gb291, 2, none⟩) (Kd.R_far (p := ⟨gb291, 1, none⟩) (Kd.R_far (p := ⟨gb291, 0, none⟩) (Kd.R_types HO276.out BK291.out (by decide)) (fun _ hk => hk.2) (.int .i64 t285)) (fun _ hk => hk.2) (.int .i64 t286)) (fun _ hk => hk.2) (.slice Ao37 t287.length co37)) (fun _ h_ => h_.1)))); (case side4 => exact (Kd.R_reads' HO276.out).2.1); rintro e w55 ⟨rfl, hb⟩; refine ⟨_, rfl, ?_⟩; have n0_ := Aside0.mk (Kd.R_below (by (with_reducible repeat (first | apply Kd.R_alloc | apply Kd.R_drewN | apply Kd.R_drew)); exact (Kd.R_mono (Kd.R_far (p := ⟨gb291, 2, none⟩) (Kd.R_far (p := ⟨gb291, 1, none⟩) (Kd.R_far (p := ⟨gb291, 0, none⟩) (Kd.R_types HO271.out BK291.out (by decide)) (fun _ hk => hk.2) (.int .i64 t285)) (fun _ hk => hk.2) (.int .i64 t286)) (fun _ hk => hk.2) (.slice Ao37 t287.length co37)) (fun _ h_ => h_.1))) hb); have n1_ := Aside0.mk (Kd.R_below (by (with_reducible repeat (first | apply Kd.R_alloc | apply Kd.R_drewN | apply Kd.R_drew)); exact (Kd.R_mono (Kd.R_far (p := ⟨gb291, 2, none⟩) (Kd.R_far (p := ⟨gb291, 1, none⟩) (Kd.R_far (p := ⟨gb291, 0, none⟩) (Kd.R_types HO276.out BK291.out (by decide)) (fun _ hk => hk.2) (.int .i64 t285)) (fun _ hk => hk.2) (.int .i64 t286)) (fun _ hk => hk.2) (.slice Ao37 t287.length co37)) (fun _ h_ => h_.1))) hb); have n2_ := Aside0.mk (Kd.R_below (by (with_reducible repeat (first | apply Kd.R_alloc | apply Kd.R_drewN | apply Kd.R_drew)); exact (Kd.R_mono (Kd.R_far (p := ⟨gb291, 2, none⟩) (Kd.R_far (p := ⟨gb291, 1, none⟩) (Kd.R_far (p := ⟨gb291, 0, none⟩) (Kd.R_types HO283.out BK291.out (by decide)) (fun _ hk => hk.2) (.int .i64 t285)) (fun _ hk => hk.2) (.int .i64 t286)) (fun _ hk => hk.2) (.slice Ao37 t287.length co37)) (fun _ h_ => h_.1))) hb); have n3_ := Aside0.mk (Kd.R_below (by (with_reducible repeat (first | apply Kd.R_alloc | apply Kd.R_drewN | apply Kd.R_drew)); exact (Kd.R_mono (Kd.R_far (p := ⟨gb291, 2, none⟩) (Kd.R_far (p := ⟨gb291, 1, none⟩) (Kd.R_far (p := ⟨gb291, 0, none⟩) (Kd.R_types HO289.out BK291.out (by decide)) (fun _ hk => hk.2) (.int .i64 t285)) (fun _ hk => hk.2) (.int .i64 t286)) (fun _ hk => hk.2) (.slice Ao37 t287.length co37)) (fun _ h_ => h_.1))) hb); have n4_ := Aside0.mk (blk_below (g := gb265) (o := .cells #[.int .i64 a0_0, .int .i64 a0_1, .slice A0_2 l0_2.length c0_2] 24 (0, 0)) (by (with_reducible repeat (first | refine blk_drewN ?_ _ | refine blk_drew ?_ | refine blk_alloc ?_ _)); refine blk_far ?_ NB265_291.out _; (with_reducible repeat (first | refine blk_drewN ?_ _ | refine blk_drew ?_ | refine blk_alloc ?_ _)); refine blk_far ?_ NB265_291.out _; (with_reducible repeat (first | refine blk_drewN ?_ _ | refine blk_drew ?_ | refine blk_alloc ?_ _)); refine blk_far ?_ NB265_291.out _; (with_reducible repeat (first | refine blk_drewN ?_ _ | refine blk_drew ?_ | refine blk_alloc ?_ _)); exact BK265.out) hb); have n5_ := Aside0.mk (blk_below (g := gb278) (o := .cells #[.int .i64 t272, .int .i64 t273, .slice Ao23 t274.length co23] 29 (0, 0)) (by (with_reducible repeat (first | refine blk_drewN ?_ _ | refine blk_drew ?_ | refine blk_alloc ?_ _)); refine blk_far ?_ NB278_291.out _; (with_reducible repeat (first | refine blk_drewN ?_ _ | refine blk_drew ?_ | refine blk_alloc ?_ _)); refine blk_far ?_ NB278_291.out _; (with_reducible repeat (first | refine blk_drewN ?_ _ | refine blk_drew ?_ | refine blk_alloc ?_ _)); refine blk_far ?_ NB278_291.out _; (with_reducible repeat (first | refine blk_drewN ?_ _ | refine blk_drew ?_ | refine blk_alloc ?_ _)); exact BK278.out) hb); have n6_ := Aside0.mk (blk_below (g := gb284) (o := .cells #[.int .i64 t279, .int .i64 t280, .slice Ao30 t281.length co30] 29 (0, 0)) (by (with_reducible repeat (first | refine blk_drewN ?_ _ | refine blk_drew ?_ | refine blk_alloc ?_ _)); refine blk_far ?_ NB284_291.out _; (with_reducible repeat (first | refine blk_drewN ?_ _ | refine blk_drew ?_ | refine blk_alloc ?_ _)); refine blk_far ?_ NB284_291.out _; (with_reducible repeat (first | refine blk_drewN ?_ _ | refine blk_drew ?_ | refine blk_alloc ?_ _)); refine blk_far ?_ NB284_291.out _; (with_reducible repeat (first | refine blk_drewN ?_ _ | refine blk_drew ?_ | refine blk_alloc ?_ _)); exact BK284.out) hb); have n7_ := Aside0.mk (blk_below (g := gb291) (o := .cells #[.int .i64 t285, .int .i64 t286, .slice Ao37 t287.length co37] 29 (0, 0)) (by (with_reducible repeat (first | refine blk_drewN ?_ _ | refine blk_drew ?_ | refine blk_alloc ?_ _)); refine blk_put (cs := #[.int .i64 t285, .int .i64 t286, .slice none 0 0]) ?_ 2 _ rfl; (with_reducible repeat (first | refine blk_drewN ?_ _ | refine blk_drew ?_ | refine blk_alloc ?_ _)); refine blk_put (cs := #[.int .i64 t285, .int .i64 0, .slice none 0 0]) ?_ 1 _ rfl; (with_reducible repeat (first | refine blk_drewN ?_ _ | refine blk_drew ?_ | refine blk_alloc ?_ _)); refine blk_put (cs := #[.int .i64 0, .int .i64 0, .slice none 0 0]) ?_ 0 _ rfl; (with_reducible repeat (first | refine blk_drewN ?_ _ | refine blk_drew ?_ | refine blk_alloc ?_ _)); exact BK291.out) hb); have n8_ := Aside0.mk (below_step (hb4_ HB.out GE265.out GE278.out GE284.out GE291.out) hb); clear HO271; clear HO276; clear HO283; clear HO289; clear BK265; clear BK278; clear BK284; clear BK291; clear HB; have HO271 := n0_; have HO276 := n1_; have HO283 := n2_; have HO289 := n3_; have BK265 := n4_; have BK278 := n5_; have BK284 := n6_; have BK291 := n7_; have HB := n8_; clear n0_ n1_ n2_ n3_ n4_ n5_ n6_ n7_ n8_; (try clear hb); (try clear hb2); (try clear hk); (try clear hi)))
        go_meet
        case rel => exact ⟨_, (true), (by first | rfl | (simp; done) | (simp [*]; done)), H', ⟨by first | omega | exact Nat.le_refl _⟩, ⟨by (with_reducible repeat (first | apply Kd.R_alloc | apply Kd.R_drewN | apply Kd.R_drew)); exact Kd.R_mono HO276.out (fun _ hk => ⟨hk.1.2, hk.2⟩)⟩, ⟨by (with_reducible repeat (first | apply Kd.R_alloc | apply Kd.R_drewN | apply Kd.R_drew)); exact Kd.R_mono HO283.out (fun _ hk => ⟨hk.1.2, hk.2⟩)⟩, ⟨by (with_reducible repeat (first | apply Kd.R_alloc | apply Kd.R_drewN | apply Kd.R_drew)); exact Kd.R_mono HO289.out (fun _ hk => ⟨hk.1.2, hk.2⟩)⟩, ⟨bk_ BK265.out⟩, ⟨bk_ BK278.out⟩, ⟨bk_ BK284.out⟩, ⟨bk_ BK291.out⟩, ⟨hb4_ HB.out GE265.out GE278.out GE284.out GE291.out⟩⟩
    case rest =>
      clear HC12
      try clear c1
      try clear c2
      try clear p2
      try clear c3
      try clear c4
      try clear c4b0
      try clear c5
      try clear c13
      try clear c15
      try clear c17
      try clear c20
      try clear c21
      try clear c27
      try clear c28
      try clear c33
      try clear c34
      try clear c35
      try clear c39
      try clear c40
      try clear c41
      try clear c42
      try clear c44
      try clear c45
      try clear c48
      try clear c49
      try clear c50
      try clear c52
      try clear c53
      try clear hcz14_0
      try clear hcz14_1
      try clear hcz14_2
      try clear hcz16_0
      try clear hcz16_1
      try clear hcz16_2
      try clear hcz22_0
      try clear hcz22_1
      try clear hcz22_2
      try clear hcz24_0
      try clear hcz24_1
      try clear hcz24_2
      try clear hcz29_0
      try clear hcz29_1
      try clear hcz29_2
      try clear hcz36_0
      try clear hcz36_1
      try clear hcz36_2
      try clear hcz43_0
      try clear hcz43_1
      try clear hcz43_2
      try clear hcz46_0
      try clear hcz46_1
      try clear hcz46_2
      try clear hcz51_0
      try clear hcz51_1
      try clear hcz51_2
      try clear hcz54_0
      try clear hcz54_1
      try clear hcz54_2
      try clear hcz6_0
      try clear hcz6_1
      try clear hcz6_2
      try clear hfz14_0
      try clear hfz14_1
      try clear hfz14_2
      try clear hfz16_0
      try clear hfz16_1
      try clear hfz16_2
      try clear hfz22_0
      try clear hfz22_1
      try clear hfz22_2
      try clear hfz24_0
      try clear hfz24_1
      try clear hfz24_2
      try clear hfz29_0
      try clear hfz29_1
      try clear hfz29_2
      try clear hfz36_0
      try clear hfz36_1
      try clear hfz36_2
      try clear hfz43_0
      try clear hfz43_1
      try clear hfz43_2
      try clear hfz46_0
      try clear hfz46_1
      try clear hfz46_2
      try clear hfz51_0
      try clear hfz51_1
      try clear hfz51_2
      try clear hfz54_0
      try clear hfz54_1
      try clear hfz54_2
      try clear hfz6_0
      try clear hfz6_1
      try clear hfz6_2
      obtain ⟨kq, x44_11, rfl, HA, HJ11, HO_279002, HO_285002, HO_292002, BK265, BK278, BK284, BK291, HB⟩ := hcut
      cases kq with
      | zero => exact absurd HA.out (by simp [laws_FnExactPlanMoved.j0])
      | succ kj11 =>
        have H := HA.out
        clear HA
        simp only [laws_FnExactPlanMoved.j0] at H
        by_cases c56 : x44_11 = true
        · subst c56
          have H1 : (some false) = some r := by rw [if_pos rfl] at H; exact H
          clear H
          have H := H1
          clear H1
          obtain rfl := Option.some.inj H
          exact absurd hr_ (by decide)
        · replace c56 := Bool.eq_false_iff.mpr c56
          subst c56
          have H1 : ((laws_toPlan.f kj11 a0_0 a0_1 l0_2).bind fun bt293 => ((laws_eqPlan.f kj11 t279 t280 t281 bt293.1 bt293.2.1 bt293.2.2).bind fun t298 => (if t298 = true then ((laws_markPlan.f kj11 t279 t280 t281 1).bind fun bt299 => (if bt299.1 < 0 then (laws_FnExactPlanMoved.j1 kj11 a1 t277 true a0_0 a0_1 l0_2 t272 t273 t274 t285 t286 t287) else ((laws_eqPlan.f kj11 t285 t286 t287 t272 t273 t274).bind fun t301 => (if t301 = true then (laws_FnExactPlanMoved.j1 kj11 a1 t277 (t290 != t277) a0_0 a0_1 l0_2 t272 t273 t274 t285 t286 t287) else (laws_FnExactPlanMoved.j1 kj11 a1 t277 true a0_0 a0_1 l0_2 t272 t273 t274 t285 t286 t287))))) else (some false)))) = some r := by rw [if_neg (show ¬ (false = true) by decide)] at H; exact H
          clear H
          have H := H1
          clear H1
          replace H := Option.bind_eq_some_iff.mp H
          obtain ⟨⟨t293, t294, t295⟩, A570, H⟩ := H
          replace H : ((laws_eqPlan.f kj11 t279 t280 t281 t293 t294 t295).bind fun t298 => (if t298 = true then ((laws_markPlan.f kj11 t279 t280 t281 1).bind fun bt299 => (if bt299.1 < 0 then (laws_FnExactPlanMoved.j1 kj11 a1 t277 true a0_0 a0_1 l0_2 t272 t273 t274 t285 t286 t287) else ((laws_eqPlan.f kj11 t285 t286 t287 t272 t273 t274).bind fun t301 => (if t301 = true then (laws_FnExactPlanMoved.j1 kj11 a1 t277 (t290 != t277) a0_0 a0_1 l0_2 t272 t273 t274 t285 t286 t287) else (laws_FnExactPlanMoved.j1 kj11 a1 t277 true a0_0 a0_1 l0_2 t272 t273 t274 t285 t286 t287))))) else (some false))) = some r := H
          have A57 := Aside0.mk A570
          clear A570
          replace H := Option.bind_eq_some_iff.mp H
          obtain ⟨t298, A580, H⟩ := H
          replace H : (if t298 = true then ((laws_markPlan.f kj11 t279 t280 t281 1).bind fun bt299 => (if bt299.1 < 0 then (laws_FnExactPlanMoved.j1 kj11 a1 t277 true a0_0 a0_1 l0_2 t272 t273 t274 t285 t286 t287) else ((laws_eqPlan.f kj11 t285 t286 t287 t272 t273 t274).bind fun t301 => (if t301 = true then (laws_FnExactPlanMoved.j1 kj11 a1 t277 (t290 != t277) a0_0 a0_1 l0_2 t272 t273 t274 t285 t286 t287) else (laws_FnExactPlanMoved.j1 kj11 a1 t277 true a0_0 a0_1 l0_2 t272 t273 t274 t285 t286 t287))))) else (some false)) = some r := H
          have A58 := Aside0.mk A580
          clear A580
          by_cases c59 : t298 = true
          · subst c59
            have H1 : ((laws_markPlan.f kj11 t279 t280 t281 1).bind fun bt299 => (if bt299.1 < 0 then (laws_FnExactPlanMoved.j1 kj11 a1 t277 true a0_0 a0_1 l0_2 t272 t273 t274 t285 t286 t287) else ((laws_eqPlan.f kj11 t285 t286 t287 t272 t273 t274).bind fun t301 => (if t301 = true then (laws_FnExactPlanMoved.j1 kj11 a1 t277 (t290 != t277) a0_0 a0_1 l0_2 t272 t273 t274 t285 t286 t287) else (laws_FnExactPlanMoved.j1 kj11 a1 t277 true a0_0 a0_1 l0_2 t272 t273 t274 t285 t286 t287))))) = some r := by rw [if_pos rfl] at H; exact H
            clear H
            have H := H1
            clear H1
            replace H := Option.bind_eq_some_iff.mp H
            obtain ⟨⟨t299, t300⟩, A600, H⟩ := H
            replace H : (if t299 < 0 then (laws_FnExactPlanMoved.j1 kj11 a1 t277 true a0_0 a0_1 l0_2 t272 t273 t274 t285 t286 t287) else ((laws_eqPlan.f kj11 t285 t286 t287 t272 t273 t274).bind fun t301 => (if t301 = true then (laws_FnExactPlanMoved.j1 kj11 a1 t277 (t290 != t277) a0_0 a0_1 l0_2 t272 t273 t274 t285 t286 t287) else (laws_FnExactPlanMoved.j1 kj11 a1 t277 true a0_0 a0_1 l0_2 t272 t273 t274 t285 t286 t287)))) = some r := H
            have A60 := Aside0.mk A600
            clear A600
            have HC61 := Aside0.mk H
            clear H
            try go_wp2
            have n0_ := Aside0.mk (Kd.R_drew HO_279002.out)
            have n1_ := Aside0.mk (Kd.R_drew HO_285002.out)
            have n2_ := Aside0.mk (Kd.R_drew HO_292002.out)
            have n3_ := Aside0.mk (blk_drew BK265.out)
            have n4_ := Aside0.mk (blk_drew BK278.out)
            have n5_ := Aside0.mk (blk_drew BK284.out)
            have n6_ := Aside0.mk (blk_drew BK291.out)
            have n7_ := Aside0.mk (below_drew1 HB.out)
            clear HO_279002
            clear HO_285002
            clear HO_292002
            clear BK265
            clear BK278
            clear BK284
            clear BK291
            clear HB
            have HO_279002 := n0_
            have HO_285002 := n1_
            have HO_292002 := n2_
            have BK265 := n3_
            have BK278 := n4_
            have BK284 := n5_
            have BK291 := n6_
            have HB := n7_
            clear n0_ n1_ n2_ n3_ n4_ n5_ n6_ n7_
            refine start_ (n := 5) (S := fun w' => w'.cell? ⟨gb284, 0, none⟩ = some (.int .i64 t279) ∧ w'.cell? ⟨gb284, 1, none⟩ = some (.int .i64 t280) ∧ w'.cell? ⟨gb284, 2, none⟩ = some (.slice Ao30 t281.length co30) ∧ w'.cell? ⟨gb265, 0, none⟩ = some (.int .i64 a0_0) ∧ w'.cell? ⟨gb265, 1, none⟩ = some (.int .i64 a0_1) ∧ w'.cell? ⟨gb265, 2, none⟩ = some (.slice A0_2 l0_2.length c0_2)) (ds := []) #[false, false, false, false, false] (by kernel_rfl) rfl rfl ⟨(blk_cell BK284.out 0).trans rfl, (blk_cell BK284.out 1).trans rfl, (blk_cell BK284.out 2).trans rfl, (blk_cell BK265.out 0).trans rfl, (blk_cell BK265.out 1).trans rfl, (blk_cell BK265.out 2).trans rfl⟩ (fun hHeld => ?_)
            generalize wc.drew = w62 at HO_279002 HO_285002 HO_292002 BK265 BK278 BK284 BK291 HB hHeld ⊢
            refine take_ (i := 0) (N := some 45) (v := ?_) (a' := ?_) #[true, false, false, false, false] rfl rfl (by kernel_rfl) (fun _ _ _ h => h) (Or.inl ⟨by rfl, ?_⟩) hHeld ?_ ?_
            rotate_left
            · rintro w' ⟨s0, s1, s2, s3, s4, s5⟩
              go_simp
              with_reducible rfl
            rotate_left
            · simp only [Act.put, List.setIfInBounds_toArray, List.set_cons_zero, List.set_cons_succ, i64_w, i32_w]
              rfl
            refine take_ (i := 1) (N := some 46) (v := ?_) (a' := ?_) #[true, true, false, false, false] rfl rfl (by kernel_rfl) (fun _ _ _ h => h) (Or.inl ⟨by rfl, ?_⟩) hHeld ?_ ?_
            rotate_left
            · rintro w' ⟨s0, s1, s2, s3, s4, s5⟩
              go_simp
              with_reducible rfl
            rotate_left
            · simp only [Act.put, List.setIfInBounds_toArray, List.set_cons_zero, List.set_cons_succ, i64_w, i32_w]
              rfl
            refine one_ (i := 2) (N := some 47) #[true, true, true, false, false] rfl rfl (by kernel_rfl) (by decide) (fun K hK => ?_)
            refine goes_ Try.func15 (by kernel_rfl) rfl #[.agg #[.int .i64 a0_0, .int .i64 a0_1, .slice A0_2 l0_2.length c0_2]] (by rfl) rfl rfl arr_ ?_
            with_reducible refine (laws_toPlan.calls kj11 a0_0 a0_1 _ _ l0_2 t293 t294 t295 _ ?side1 ?side2 A57.out).mono ?_
            (case side1 => exact kc_ (Kd.C_below HR0_2.out HB.out))
            (case side2 => exact HC0_2.out)
            rintro e w63 ⟨v296, rfl, ho0, hb⟩
            refine ⟨_, rfl, ?_⟩
            have n0_ := Aside0.mk (Kd.R_elder' (by (with_reducible repeat (first | apply Kd.R_alloc | apply Kd.R_drewN | apply Kd.R_drew)); exact HO_279002.out) (Kd.R_base ho0) hb)
            have n1_ := Aside0.mk (Kd.R_elder' (by (with_reducible repeat (first | apply Kd.R_alloc | apply Kd.R_drewN | apply Kd.R_drew)); exact HO_285002.out) (Kd.R_base ho0) hb)
            have n2_ := Aside0.mk (Kd.R_elder' (by (with_reducible repeat (first | apply Kd.R_alloc | apply Kd.R_drewN | apply Kd.R_drew)); exact HO_292002.out) (Kd.R_base ho0) hb)
            have n3_ := Aside0.mk (Kd.R_lower (Kd.R_new' (Kd.R_new' (Kd.R_new' ho0 (Kd.R_lt (by (with_reducible repeat (first | apply Kd.R_alloc | apply Kd.R_drewN | apply Kd.R_drew)); exact HO_279002.out))) (Kd.R_lt (by (with_reducible repeat (first | apply Kd.R_alloc | apply Kd.R_drewN | apply Kd.R_drew)); exact HO_285002.out))) (Kd.R_lt (by (with_reducible repeat (first | apply Kd.R_alloc | apply Kd.R_drewN | apply Kd.R_drew)); exact HO_292002.out))) (below_size (hb4_ HB.out GE265.out GE278.out GE284.out GE291.out)))
            have n4_ := Aside0.mk (bb_ BK265.out hb)
            have n5_ := Aside0.mk (bb_ BK278.out hb)
            have n6_ := Aside0.mk (bb_ BK284.out hb)
            have n7_ := Aside0.mk (bb_ BK291.out hb)
            have n8_ := Aside0.mk (below_step (hb4_ HB.out GE265.out GE278.out GE284.out GE291.out) hb)
            clear HO_279002
            clear HO_285002
            clear HO_292002
            clear BK265
            clear BK278
            clear BK284
            clear BK291
            clear HB
            have HO_279002 := n0_
            have HO_285002 := n1_
            have HO_292002 := n2_
            have HO297 := n3_
            have BK265 := n4_
            have BK278 := n5_
            have BK284 := n6_
            have BK291 := n7_
            have HB := n8_
            clear n0_ n1_ n2_ n3_ n4_ n5_ n6_ n7_ n8_
            (try clear hb)
            (try clear hb2)
            (try clear hk)
            (try clear hi)
            (try clear ho0)
            obtain ⟨Ao64, co64, eo64⟩ := Kd.R_slice HO297.out
            (first | subst eo64 | (injection eo64 with f1_ f2_ f3_; have f4_ := f1_.symm; have f5_ := f3_.symm; clear f1_ f2_ f3_; subst f4_; subst f5_))
            refine hK.out _ _ ⟨(blk_cell BK284.out 0).trans rfl, (blk_cell BK284.out 1).trans rfl, (blk_cell BK284.out 2).trans rfl, (blk_cell BK265.out 0).trans rfl, (blk_cell BK265.out 1).trans rfl, (blk_cell BK265.out 2).trans rfl⟩ (fun hHeld => ?_)
            clear hK K
            refine norm_ (a' := ?_) ?_ ?_
            rotate_left
            · show Act.put _ (some 47) _ = _
              simp only [Act.put, List.setIfInBounds_toArray, List.set_cons_zero, List.set_cons_succ, i64_w, i32_w]
              rfl
            refine one_ (i := 3) (N := some 48) #[true, true, true, true, false] rfl rfl (by kernel_rfl) (by decide) (fun K hK => ?_)
            refine goes_ Try.func17 (by kernel_rfl) rfl #[.agg #[.int .i64 t279, .int .i64 t280, .slice Ao30 t281.length co30], .agg #[.int .i64 t293, .int .i64 t294, .slice Ao64 t295.length co64]] (by rfl) rfl rfl arr_ ?_
            with_reducible refine (laws_eqPlan.calls kj11 t279 t280 _ _ t281 t293 t294 _ _ t295 true _ ?side1 ?side2 ?side3 ?side4 A58.out).mono ?_
            (case side1 => repeat (first | exact (Kd.R_reads' HO_285002.out).2.2 | (with_reducible refine Kd.C_alloc ?_ _) | (with_reducible refine Kd.C_drewN ?_ _) | (with_reducible refine Kd.C_drew ?_)))
            (case side2 => exact (Kd.R_reads' HO_285002.out).2.1)
            (case side3 => repeat (first | exact (Kd.R_reads' HO297.out).2.2 | (with_reducible refine Kd.C_alloc ?_ _) | (with_reducible refine Kd.C_drewN ?_ _) | (with_reducible refine Kd.C_drew ?_)))
            (case side4 => exact (Kd.R_reads' HO297.out).2.1)
            rintro e w65 ⟨rfl, hb⟩
            refine ⟨_, rfl, ?_⟩
            have n0_ := Aside0.mk (Kd.R_below (by (with_reducible repeat (first | apply Kd.R_alloc | apply Kd.R_drewN | apply Kd.R_drew)); exact HO_279002.out) hb)
            have n1_ := Aside0.mk (Kd.R_below (by (with_reducible repeat (first | apply Kd.R_alloc | apply Kd.R_drewN | apply Kd.R_drew)); exact HO_285002.out) hb)
            have n2_ := Aside0.mk (Kd.R_below (by (with_reducible repeat (first | apply Kd.R_alloc | apply Kd.R_drewN | apply Kd.R_drew)); exact HO_292002.out) hb)
            have n3_ := Aside0.mk (Kd.R_below (by (with_reducible repeat (first | apply Kd.R_alloc | apply Kd.R_drewN | apply Kd.R_drew)); exact HO297.out) hb)
            have n4_ := Aside0.mk (bb_ BK265.out hb)
            have n5_ := Aside0.mk (bb_ BK278.out hb)
            have n6_ := Aside0.mk (bb_ BK284.out hb)
            have n7_ := Aside0.mk (bb_ BK291.out hb)
            have n8_ := Aside0.mk (below_step (hb4_ HB.out GE265.out GE278.out GE284.out GE291.out) hb)
            clear HO_279002
            clear HO_285002
            clear HO_292002
            clear HO297
            clear BK265
            clear BK278
            clear BK284
            clear BK291
            clear HB
            have HO_279002 := n0_
            have HO_285002 := n1_
            have HO_292002 := n2_
            have HO297 := n3_
            have BK265 := n4_
            have BK278 := n5_
            have BK284 := n6_
            have BK291 := n7_
            have HB := n8_
            clear n0_ n1_ n2_ n3_ n4_ n5_ n6_ n7_ n8_
            (try clear hb)
            (try clear hb2)
            (try clear hk)
            (try clear hi)
            refine hK.out _ _ ⟨(blk_cell BK284.out 0).trans rfl, (blk_cell BK284.out 1).trans rfl, (blk_cell BK284.out 2).trans rfl, (blk_cell BK265.out 0).trans rfl, (blk_cell BK265.out 1).trans rfl, (blk_cell BK265.out 2).trans rfl⟩ (fun hHeld => ?_)
            clear hK K
            refine norm_ (a' := ?_) ?_ ?_
            rotate_left
            · show Act.put _ (some 48) _ = _
              simp only [Act.put, List.setIfInBounds_toArray, List.set_cons_zero, List.set_cons_succ, i64_w, i32_w]
              rfl
            refine pure_ (i := 4) (N := some 49) (v := ?_) (a' := ?_) #[true, true, true, true, true] rfl rfl (by kernel_rfl) (fun _ _ _ h => h) (Or.inl ⟨by rfl, ?_⟩) ?_ ?_
            rotate_left
            · intro w'
              go_simp
              with_reducible rfl
            rotate_left
            · simp only [Act.put, List.setIfInBounds_toArray, List.set_cons_zero, List.set_cons_succ, i64_w, i32_w]
              rfl
            refine done_ (by kernel_rfl) ?_
            have hnb66 := NB284_265.out
            have hnc66 := NB265_284.out
            have hnb67 := NB284_278.out
            have hnc67 := NB278_284.out
            have hnb68 := NB284_291.out
            have hnc68 := NB291_284.out
            have hcz69_0 := bc_ BK284.out 0 (.int .i64 t279) rfl
            have hcz69_1 := bc_ BK284.out 1 (.int .i64 t280) rfl
            have hcz69_2 := bc_ BK284.out 2 (.slice Ao30 t281.length co30) rfl
            have hfz69_0 := blk_frozen BK284.out 0
            have hfz69_1 := blk_frozen BK284.out 1
            have hfz69_2 := blk_frozen BK284.out 2
            go_upto_region 14 with (first | ((with_reducible refine gate_callee (f := 22) rfl ?_); refine goesL_ (some 52) rfl rfl Try.func22 (by kernel_rfl) rfl #[.agg #[.int .i64 t279, .int .i64 t280, .slice Ao30 t281.length co30], .int .i64 1] rfl arr_ ?_; (with_reducible refine (laws_markPlan.calls kj11 t279 t280 (fun k_ => some k_ = (.slice Ao30 t281.length co30 : Value).ownBlock) (.slice Ao30 t281.length co30) t281 1 t299 t300 w _ ?side1 ?side2 A60.out).mono ?_); (case side1 => repeat (first | (with_reducible first | exact HB.out | apply below_alloc | apply pw_below_drewN | apply below_drew1 | refine below_set ?_ GE265.out | refine below_set ?_ GE278.out | refine below_set ?_ GE284.out | refine below_set ?_ GE291.out) | exact HB.out)); (case side2 => exact Kd.R_tight rfl HO_285002.out); rintro e w70 ⟨rfl, hy0, hb, hkp⟩; refine ⟨_, rfl, ?_⟩; have n0_ := Aside0.mk (Kd.R_mono (ok' := fun k_ => some k_ ≠ (.slice Ao30 t281.length co30 : Value).ownBlock ∧ some k_ ≠ (.slice Ao37 t287.length co37 : Value).ownBlock ∧ some k_ ≠ (.slice Ao64 t295.length co64 : Value).ownBlock) (Kd.R_keptB (HO_279002.out) hkp (fun k_ hk_ hs_ => (hk_.1.1) hs_)) (fun k_ hk_ => ⟨hk_.1.1.1, hk_.1.1.2, hk_.1.2⟩)); have n1_ := Aside0.mk (Kd.R_reok rfl hy0 (fun k_ e_ => HO_285002.out.1 k_ e_)); have n2_ := Aside0.mk (Kd.R_mono (ok' := fun k_ => some k_ ≠ (.slice Ao23 t274.length co23 : Value).ownBlock ∧ some k_ ≠ (.slice Ao30 t281.length co30 : Value).ownBlock ∧ some k_ ≠ (.slice Ao64 t295.length co64 : Value).ownBlock) (Kd.R_keptB (HO_292002.out) hkp (fun k_ hk_ hs_ => (hk_.1.2) hs_)) (fun k_ hk_ => ⟨hk_.1.1.1, hk_.1.1.2, hk_.1.2⟩)); have n3_ := Aside0.mk (blk_kept (bk_ BK265.out) hkp (fun hs_ => (fun e_ => (Kd.R_ne HO_285002.out BK265.out (by decide)) e_) hs_)); have n4_ := Aside0.mk (blk_kept (bk_ BK278.out) hkp (fun hs_ => (fun e_ => (Kd.R_ne HO_285002.out BK278.out (by decide)) e_) hs_)); have n5_ := Aside0.mk (blk_kept (bk_ BK284.out) hkp (fun hs_ => (fun e_ => (Kd.R_ne HO_285002.out BK284.out (by decide)) e_) hs_)); have n6_ := Aside0.mk (blk_kept (bk_ BK291.out) hkp (fun hs_ => (fun e_ => (Kd.R_ne HO_285002.out BK291.out (by decide)) e_) hs_)); have n7_ := Aside0.mk (Kd.R_mono (ok' := fun k_ => some k_ ≠ (.slice Ao23 t274.length co23 : Value).ownBlock ∧ some k_ ≠ (.slice Ao30 t281.length co30 : Value).ownBlock ∧ some k_ ≠ (.slice Ao37 t287.length co37 : Value).ownBlock) (Kd.R_keptB (HO297.out) hkp (fun k_ hk_ hs_ => (hk_.1.2) hs_)) (fun k_ hk_ => ⟨hk_.1.1.1.2, hk_.1.1.2, hk_.1.2⟩)); have n8_ := Aside0.mk (hb); clear HO_279002; clear HO_285002; clear HO_292002; clear BK265; clear BK278; clear BK284; clear BK291; clear HO297; clear HB; have HO_279002 := n0_; have HO_285002 := n1_; have HO_292002 := n2_; have BK265 := n3_; have BK278 := n4_; have BK284 := n5_; have BK291 := n6_; have HO297 := n7_; have HB := n8_; clear n0_ n1_ n2_ n3_ n4_ n5_ n6_ n7_ n8_; (try clear hb); (try clear hkp); (try clear hy0)))
            (try simp only [Act.put, List.setIfInBounds_toArray, List.set_cons_zero, List.set_cons_succ])
            go_cut [65] (fun v65 wc => ∃ (kq : Nat) (x65_60 : Bool), v65 = .bool x65_60 ∧ Aside0 (laws_FnExactPlanMoved.j1 kq a1 t277 x65_60 a0_0 a0_1 l0_2 t272 t273 t274 t285 t286 t287 = some r) ∧ Aside0 (kq ≤ kj11) ∧ Aside0 (Kd.R k60 60 wc w.heap.size (fun k_ => some k_ ≠ ((.slice Ao30 t281.length co30) : Value).ownBlock ∧ some k_ ≠ ((.slice Ao37 t287.length co37) : Value).ownBlock) (.slice Ao23 t274.length co23) t274) ∧ Aside0 (Kd.R k60 60 wc w.heap.size (fun k_ => some k_ ≠ ((.slice Ao23 t274.length co23) : Value).ownBlock ∧ some k_ ≠ ((.slice Ao37 t287.length co37) : Value).ownBlock) (.slice Ao30 t281.length co30) t300) ∧ Aside0 (Kd.R k60 60 wc w.heap.size (fun k_ => some k_ ≠ ((.slice Ao23 t274.length co23) : Value).ownBlock ∧ some k_ ≠ ((.slice Ao30 t281.length co30) : Value).ownBlock) (.slice Ao37 t287.length co37) t287) ∧ Aside0 (wc.heap[gb265]? = some (.cells #[.int .i64 a0_0, .int .i64 a0_1, (.slice A0_2 l0_2.length c0_2)] 24 (0, 0))) ∧ Aside0 (wc.heap[gb278]? = some (.cells #[.int .i64 t272, .int .i64 t273, (.slice Ao23 t274.length co23)] 29 (0, 0))) ∧ Aside0 (wc.heap[gb284]? = some (.cells #[.int .i64 t279, .int .i64 t280, (.slice Ao30 t281.length co30)] 29 (0, 0))) ∧ Aside0 (wc.heap[gb291]? = some (.cells #[.int .i64 t285, .int .i64 t286, (.slice Ao37 t287.length co37)] 29 (0, 0))) ∧ Aside0 (Below w.heap.size w wc))
            case first =>
              have H := HC61.out
              clear HC61
              by_cases c71 : t299 < 0
              · rw [if_pos c71] at H
                have c71b0 : decide (t299 < 0) = true := decide_eq_true c71
                clear c71
                (first | rw [c71b0] | (simp only [i64_w, i32_w]; rw [c71b0]) | skip)
                have H' := Aside0.mk H
                clear H
                go_wp2
                go_meet
                case rel => exact ⟨_, (true), (by first | rfl | (simp; done) | (simp [*]; done)), H', ⟨by have := HJ11.out; first | omega | exact Nat.le_refl _⟩, ⟨by (with_reducible repeat (first | apply Kd.R_alloc | apply Kd.R_drewN | apply Kd.R_drew)); exact Kd.R_mono HO_279002.out (fun _ hk => ⟨hk.1, hk.2.1⟩)⟩, ⟨by (with_reducible repeat (first | apply Kd.R_alloc | apply Kd.R_drewN | apply Kd.R_drew)); exact Kd.R_mono HO_285002.out (fun _ hk => ⟨hk.1.1, hk.1.2⟩)⟩, ⟨by (with_reducible repeat (first | apply Kd.R_alloc | apply Kd.R_drewN | apply Kd.R_drew)); exact Kd.R_mono HO_292002.out (fun _ hk => ⟨hk.1, hk.2.1⟩)⟩, ⟨bk_ BK265.out⟩, ⟨bk_ BK278.out⟩, ⟨bk_ BK284.out⟩, ⟨bk_ BK291.out⟩, ⟨hb4_ HB.out GE265.out GE278.out GE284.out GE291.out⟩⟩
              · rw [if_neg c71] at H
                have c71b0 : decide (t299 < 0) = false := decide_eq_false c71
                clear c71
                (first | rw [c71b0] | (simp only [i64_w, i32_w]; rw [c71b0]) | skip)
                replace H := Option.bind_eq_some_iff.mp H
                obtain ⟨t301, A720, H⟩ := H
                replace H : (if t301 = true then (laws_FnExactPlanMoved.j1 kj11 a1 t277 (t290 != t277) a0_0 a0_1 l0_2 t272 t273 t274 t285 t286 t287) else (laws_FnExactPlanMoved.j1 kj11 a1 t277 true a0_0 a0_1 l0_2 t272 t273 t274 t285 t286 t287)) = some r := H
                have A72 := Aside0.mk A720
                clear A720
                by_cases c73 : t301 = true
                · subst c73
                  have H1 : (laws_FnExactPlanMoved.j1 kj11 a1 t277 (t290 != t277) a0_0 a0_1 l0_2 t272 t273 t274 t285 t286 t287) = some r := by rw [if_pos rfl] at H; exact H
                  clear H
                  have H := H1
                  clear H1
                  have H' := Aside0.mk H
                  clear H
                  have hnb74 := NB291_265.out
                  have hnc74 := NB265_291.out
                  have hnb75 := NB291_278.out
                  have hnc75 := NB278_291.out
                  have hnb76 := NB291_284.out
                  have hnc76 := NB284_291.out
                  have hcz77_0 := bc_ BK291.out 0 (.int .i64 t285) rfl
                  have hcz77_1 := bc_ BK291.out 1 (.int .i64 t286) rfl
                  have hcz77_2 := bc_ BK291.out 2 (.slice Ao37 t287.length co37) rfl
                  have hfz77_0 := blk_frozen BK291.out 0
                  have hfz77_1 := blk_frozen BK291.out 1
                  have hfz77_2 := blk_frozen BK291.out 2
                  have hnb78 := NB278_265.out
                  have hnc78 := NB265_278.out
                  have hnb79 := NB278_284.out
                  have hnc79 := NB284_278.out
                  have hcz80_0 := bc_ BK278.out 0 (.int .i64 t272) rfl
                  have hcz80_1 := bc_ BK278.out 1 (.int .i64 t273) rfl
                  have hcz80_2 := bc_ BK278.out 2 (.slice Ao23 t274.length co23) rfl
                  have hfz80_0 := blk_frozen BK278.out 0
                  have hfz80_1 := blk_frozen BK278.out 1
                  have hfz80_2 := blk_frozen BK278.out 2
                  go_wp2_with (first | (go_at_call 17; (with_reducible refine (laws_eqPlan.calls kj11 t285 t286 _ _ t287 t272 t273 _ _ t274 true _ ?side1 ?side2 ?side3 ?side4 A72.out).mono ?_); (case side1 => repeat (first | exact (Kd.R_reads' HO_292002.out).2.2 | (with_reducible refine Kd.C_alloc ?_ _) | (with_reducible refine Kd.C_drewN ?_ _) | (with_reducible refine Kd.C_drew ?_))); (case side2 => exact (Kd.R_reads' HO_292002.out).2.1); (case side3 => repeat (first | exact (Kd.R_reads' HO_279002.out).2.2 | (with_reducible refine Kd.C_alloc ?_ _) | (with_reducible refine Kd.C_drewN ?_ _) | (with_reducible refine Kd.C_drew ?_))); (case side4 => exact (Kd.R_reads' HO_279002.out).2.1); rintro e w81 ⟨rfl, hb⟩; have n0_ := Aside0.mk (Kd.R_below (by (with_reducible repeat (first | apply Kd.R_alloc | apply Kd.R_drewN | apply Kd.R_drew)); exact HO_279002.out) hb); have n1_ := Aside0.mk (Kd.R_below (by (with_reducible repeat (first | apply Kd.R_alloc | apply Kd.R_drewN | apply Kd.R_drew)); exact HO_285002.out) hb); have n2_ := Aside0.mk (Kd.R_below (by (with_reducible repeat (first | apply Kd.R_alloc | apply Kd.R_drewN | apply Kd.R_drew)); exact HO_292002.out) hb); have n3_ := Aside0.mk (Kd.R_below (by (with_reducible repeat (first | apply Kd.R_alloc | apply Kd.R_drewN | apply Kd.R_drew)); exact HO297.out) hb); have n4_ := Aside0.mk (bb_ BK265.out hb); have n5_ := Aside0.mk (bb_ BK278.out hb); have n6_ := Aside0.mk (bb_ BK284.out hb); have n7_ := Aside0.mk (bb_ BK291.out hb); have n8_ := Aside0.mk (below_step (hb4_ HB.out GE265.out GE278.out GE284.out GE291.out) hb); clear HO_279002; clear HO_285002; clear HO_292002; clear HO297; clear BK265; clear BK278; clear BK284; clear BK291; clear HB; have HO_279002 := n0_; have HO_285002 := n1_; have HO_292002 := n2_; have HO297 := n3_; have BK265 := n4_; have BK278 := n5_; have BK284 := n6_; have BK291 := n7_; have HB := n8_; clear n0_ n1_ n2_ n3_ n4_ n5_ n6_ n7_ n8_; (try clear hb); (try clear hb2); (try clear hk); (try clear hi)))
                  go_meet
                  case rel => exact ⟨_, ((t290 != t277)), (by first | rfl | (simp; done) | (simp [*]; done)), H', ⟨by have := HJ11.out; first | omega | exact Nat.le_refl _⟩, ⟨by (with_reducible repeat (first | apply Kd.R_alloc | apply Kd.R_drewN | apply Kd.R_drew)); exact Kd.R_mono HO_279002.out (fun _ hk => ⟨hk.1, hk.2.1⟩)⟩, ⟨by (with_reducible repeat (first | apply Kd.R_alloc | apply Kd.R_drewN | apply Kd.R_drew)); exact Kd.R_mono HO_285002.out (fun _ hk => ⟨hk.1.1, hk.1.2⟩)⟩, ⟨by (with_reducible repeat (first | apply Kd.R_alloc | apply Kd.R_drewN | apply Kd.R_drew)); exact Kd.R_mono HO_292002.out (fun _ hk => ⟨hk.1, hk.2.1⟩)⟩, ⟨bk_ BK265.out⟩, ⟨bk_ BK278.out⟩, ⟨bk_ BK284.out⟩, ⟨bk_ BK291.out⟩, ⟨hb4_ HB.out GE265.out GE278.out GE284.out GE291.out⟩⟩
                · replace c73 := Bool.eq_false_iff.mpr c73
                  subst c73
                  have H1 : (laws_FnExactPlanMoved.j1 kj11 a1 t277 true a0_0 a0_1 l0_2 t272 t273 t274 t285 t286 t287) = some r := by rw [if_neg (show ¬ (false = true) by decide)] at H; exact H
                  clear H
                  have H := H1
                  clear H1
                  have H' := Aside0.mk H
                  clear H
                  have hnb82 := NB291_265.out
                  have hnc82 := NB265_291.out
                  have hnb83 := NB291_278.out
                  have hnc83 := NB278_291.out
                  have hnb84 := NB291_284.out
                  have hnc84 := NB284_291.out
                  have hcz85_0 := bc_ BK291.out 0 (.int .i64 t285) rfl
                  have hcz85_1 := bc_ BK291.out 1 (.int .i64 t286) rfl
                  have hcz85_2 := bc_ BK291.out 2 (.slice Ao37 t287.length co37) rfl
                  have hfz85_0 := blk_frozen BK291.out 0
                  have hfz85_1 := blk_frozen BK291.out 1
                  have hfz85_2 := blk_frozen BK291.out 2
                  have hnb86 := NB278_265.out
                  have hnc86 := NB265_278.out
                  have hnb87 := NB278_284.out
                  have hnc87 := NB284_278.out
                  have hcz88_0 := bc_ BK278.out 0 (.int .i64 t272) rfl
                  have hcz88_1 := bc_ BK278.out 1 (.int .i64 t273) rfl
                  have hcz88_2 := bc_ BK278.out 2 (.slice Ao23 t274.length co23) rfl
                  have hfz88_0 := blk_frozen BK278.out 0
                  have hfz88_1 := blk_frozen BK278.out 1
                  have hfz88_2 := blk_frozen BK278.out 2
                  go_wp2_with (first | (go_at_call 17; (with_reducible refine (laws_eqPlan.calls kj11 t285 t286 _ _ t287 t272 t273 _ _ t274 false _ ?side1 ?side2 ?side3 ?side4 A72.out).mono ?_); (case side1 => repeat (first | exact (Kd.R_reads' HO_292002.out).2.2 | (with_reducible refine Kd.C_alloc ?_ _) | (with_reducible refine Kd.C_drewN ?_ _) | (with_reducible refine Kd.C_drew ?_))); (case side2 => exact (Kd.R_reads' HO_292002.out).2.1); (case side3 => repeat (first | exact (Kd.R_reads' HO_279002.out).2.2 | (with_reducible refine Kd.C_alloc ?_ _) | (with_reducible refine Kd.C_drewN ?_ _) | (with_reducible refine Kd.C_drew ?_))); (case side4 => exact (Kd.R_reads' HO_279002.out).2.1); rintro e w89 ⟨rfl, hb⟩; have n0_ := Aside0.mk (Kd.R_below (by (with_reducible repeat (first | apply Kd.R_alloc | apply Kd.R_drewN | apply Kd.R_drew)); exact HO_279002.out) hb); have n1_ := Aside0.mk (Kd.R_below (by (with_reducible repeat (first | apply Kd.R_alloc | apply Kd.R_drewN | apply Kd.R_drew)); exact HO_285002.out) hb); have n2_ := Aside0.mk (Kd.R_below (by (with_reducible repeat (first | apply Kd.R_alloc | apply Kd.R_drewN | apply Kd.R_drew)); exact HO_292002.out) hb); have n3_ := Aside0.mk (Kd.R_below (by (with_reducible repeat (first | apply Kd.R_alloc | apply Kd.R_drewN | apply Kd.R_drew)); exact HO297.out) hb); have n4_ := Aside0.mk (bb_ BK265.out hb); have n5_ := Aside0.mk (bb_ BK278.out hb); have n6_ := Aside0.mk (bb_ BK284.out hb); have n7_ := Aside0.mk (bb_ BK291.out hb); have n8_ := Aside0.mk (below_step (hb4_ HB.out GE265.out GE278.out GE284.out GE291.out) hb); clear HO_279002; clear HO_285002; clear HO_292002; clear HO297; clear BK265; clear BK278; clear BK284; clear BK291; clear HB; have HO_279002 := n0_; have HO_285002 := n1_; have HO_292002 := n2_; have HO297 := n3_; have BK265 := n4_; have BK278 := n5_; have BK284 := n6_; have BK291 := n7_; have HB := n8_; clear n0_ n1_ n2_ n3_ n4_ n5_ n6_ n7_ n8_; (try clear hb); (try clear hb2); (try clear hk); (try clear hi)))
                  go_meet
                  case rel => exact ⟨_, (true), (by first | rfl | (simp; done) | (simp [*]; done)), H', ⟨by have := HJ11.out; first | omega | exact Nat.le_refl _⟩, ⟨by (with_reducible repeat (first | apply Kd.R_alloc | apply Kd.R_drewN | apply Kd.R_drew)); exact Kd.R_mono HO_279002.out (fun _ hk => ⟨hk.1, hk.2.1⟩)⟩, ⟨by (with_reducible repeat (first | apply Kd.R_alloc | apply Kd.R_drewN | apply Kd.R_drew)); exact Kd.R_mono HO_285002.out (fun _ hk => ⟨hk.1.1, hk.1.2⟩)⟩, ⟨by (with_reducible repeat (first | apply Kd.R_alloc | apply Kd.R_drewN | apply Kd.R_drew)); exact Kd.R_mono HO_292002.out (fun _ hk => ⟨hk.1, hk.2.1⟩)⟩, ⟨bk_ BK265.out⟩, ⟨bk_ BK278.out⟩, ⟨bk_ BK284.out⟩, ⟨bk_ BK291.out⟩, ⟨hb4_ HB.out GE265.out GE278.out GE284.out GE291.out⟩⟩
            case rest =>
              clear HC61
              try clear c1
              try clear c2
              try clear p2
              try clear c3
              try clear c4
              try clear c4b0
              try clear c5
              try clear c6
              try clear c7
              try clear c8
              try clear c13
              try clear c15
              try clear c17
              try clear c20
              try clear c21
              try clear c22
              try clear c27
              try clear c28
              try clear c33
              try clear c34
              try clear c35
              try clear c39
              try clear c40
              try clear c41
              try clear c42
              try clear c44
              try clear c45
              try clear c48
              try clear c49
              try clear c50
              try clear c52
              try clear c53
              try clear c56
              try clear c59
              try clear c66
              try clear c67
              try clear c68
              try clear c71
              try clear c71b0
              try clear c73
              try clear c74
              try clear c75
              try clear c76
              try clear c78
              try clear c79
              try clear c82
              try clear c83
              try clear c84
              try clear c86
              try clear c87
              try clear hcz14_0
              try clear hcz14_1
              try clear hcz14_2
              try clear hcz16_0
              try clear hcz16_1
              try clear hcz16_2
              try clear hcz22_0
              try clear hcz22_1
              try clear hcz22_2
              try clear hcz24_0
              try clear hcz24_1
              try clear hcz24_2
              try clear hcz29_0
              try clear hcz29_1
              try clear hcz29_2
              try clear hcz36_0
              try clear hcz36_1
              try clear hcz36_2
              try clear hcz43_0
              try clear hcz43_1
              try clear hcz43_2
              try clear hcz46_0
              try clear hcz46_1
              try clear hcz46_2
              try clear hcz51_0
              try clear hcz51_1
              try clear hcz51_2
              try clear hcz54_0
              try clear hcz54_1
              try clear hcz54_2
              try clear hcz69_0
              try clear hcz69_1
              try clear hcz69_2
              try clear hcz6_0
              try clear hcz6_1
              try clear hcz6_2
              try clear hcz77_0
              try clear hcz77_1
              try clear hcz77_2
              try clear hcz80_0
              try clear hcz80_1
              try clear hcz80_2
              try clear hcz85_0
              try clear hcz85_1
              try clear hcz85_2
              try clear hcz88_0
              try clear hcz88_1
              try clear hcz88_2
              try clear hfz14_0
              try clear hfz14_1
              try clear hfz14_2
              try clear hfz16_0
              try clear hfz16_1
              try clear hfz16_2
              try clear hfz22_0
              try clear hfz22_1
              try clear hfz22_2
              try clear hfz24_0
              try clear hfz24_1
              try clear hfz24_2
              try clear hfz29_0
              try clear hfz29_1
              try clear hfz29_2
              try clear hfz36_0
              try clear hfz36_1
              try clear hfz36_2
              try clear hfz43_0
              try clear hfz43_1
              try clear hfz43_2
              try clear hfz46_0
              try clear hfz46_1
              try clear hfz46_2
              try clear hfz51_0
              try clear hfz51_1
              try clear hfz51_2
              try clear hfz54_0
              try clear hfz54_1
              try clear hfz54_2
              try clear hfz69_0
              try clear hfz69_1
              try clear hfz69_2
              try clear hfz6_0
              try clear hfz6_1
              try clear hfz6_2
              try clear hfz77_0
              try clear hfz77_1
              try clear hfz77_2
              try clear hfz80_0
              try clear hfz80_1
              try clear hfz80_2
              try clear hfz85_0
              try clear hfz85_1
              try clear hfz85_2
              try clear hfz88_0
              try clear hfz88_1
              try clear hfz88_2
              try clear p2
              obtain ⟨kq, x65_60, rfl, HA, HJ60, HO_279002, HO_285002, HO_292002, BK265, BK278, BK284, BK291, HB⟩ := hcut
              have hl285002_60 := (Kd.R_reads' HO_285002.out).1
              rw [hl285002_60] at HO_285002
              (try simp only [hl285002_60])
              (try simp only [hl285002_60] at BK265)
              (try simp only [hl285002_60] at BK278)
              (try simp only [hl285002_60] at BK284)
              (try simp only [hl285002_60] at BK291)
              (try simp only [hl285002_60] at HO_279002)
              (try simp only [hl285002_60] at HO_292002)
              cases kq with
              | zero => exact absurd HA.out (by simp [laws_FnExactPlanMoved.j1])
              | succ kj60 =>
                have H := HA.out
                clear HA
                simp only [laws_FnExactPlanMoved.j1] at H
                by_cases c90 : x65_60 = true
                · subst c90
                  have H1 : (some false) = some r := by rw [if_pos rfl] at H; exact H
                  clear H
                  have H := H1
                  clear H1
                  obtain rfl := Option.some.inj H
                  exact absurd hr_ (by decide)
                · replace c90 := Bool.eq_false_iff.mpr c90
                  subst c90
                  have H1 : ((laws_markPlan.f kj60 t285 t286 t287 1).bind fun bt302 => ((laws_heldPlan.f kj60 t285 t286 bt302.2 1).bind fun t304 => (if t304 < 0 then (some false) else (if t304 = bt302.1 then ((laws_toPlan.f kj60 a0_0 a0_1 l0_2).bind fun bt305 => ((impl_PlanMoved.f kj60 bt305.1 bt305.2.1 bt305.2.2 a1).bind fun bt310 => ((laws_eqPlan.f kj60 bt310.1 bt310.2.1 bt310.2.2.1 t272 t273 t274).bind fun t317 => (if t317 = true then (laws_FnExactPlanMoved.j2 kj60 bt302.1 (bt310.2.2.2 != t277) t285 t286 bt302.2) else (laws_FnExactPlanMoved.j2 kj60 bt302.1 true t285 t286 bt302.2))))) else (some false))))) = some r := by rw [if_neg (show ¬ (false = true) by decide)] at H; exact H
                  clear H
                  have H := H1
                  clear H1
                  replace H := Option.bind_eq_some_iff.mp H
                  obtain ⟨⟨t302, t303⟩, A910, H⟩ := H
                  replace H : ((laws_heldPlan.f kj60 t285 t286 t303 1).bind fun t304 => (if t304 < 0 then (some false) else (if t304 = t302 then ((laws_toPlan.f kj60 a0_0 a0_1 l0_2).bind fun bt305 => ((impl_PlanMoved.f kj60 bt305.1 bt305.2.1 bt305.2.2 a1).bind fun bt310 => ((laws_eqPlan.f kj60 bt310.1 bt310.2.1 bt310.2.2.1 t272 t273 t274).bind fun t317 => (if t317 = true then (laws_FnExactPlanMoved.j2 kj60 t302 (bt310.2.2.2 != t277) t285 t286 t303) else (laws_FnExactPlanMoved.j2 kj60 t302 true t285 t286 t303))))) else (some false)))) = some r := H
                  have A91 := Aside0.mk A910
                  clear A910
                  replace H := Option.bind_eq_some_iff.mp H
                  obtain ⟨t304, A920, H⟩ := H
                  replace H : (if t304 < 0 then (some false) else (if t304 = t302 then ((laws_toPlan.f kj60 a0_0 a0_1 l0_2).bind fun bt305 => ((impl_PlanMoved.f kj60 bt305.1 bt305.2.1 bt305.2.2 a1).bind fun bt310 => ((laws_eqPlan.f kj60 bt310.1 bt310.2.1 bt310.2.2.1 t272 t273 t274).bind fun t317 => (if t317 = true then (laws_FnExactPlanMoved.j2 kj60 t302 (bt310.2.2.2 != t277) t285 t286 t303) else (laws_FnExactPlanMoved.j2 kj60 t302 true t285 t286 t303))))) else (some false))) = some r := H
                  have A92 := Aside0.mk A920
                  clear A920
                  by_cases c93 : t304 < 0
                  · rw [if_pos c93] at H
                    have c93b0 : decide (t304 < 0) = true := decide_eq_true c93
                    clear c93
                    obtain rfl := Option.some.inj H
                    exact absurd hr_ (by decide)
                  · rw [if_neg c93] at H
                    have c93b0 : decide (t304 < 0) = false := decide_eq_false c93
                    clear c93
                    by_cases c94 : t304 = t302
                    · rw [if_pos c94] at H
                      have c94b0 : (t304 == t302) = true := beq_iff_eq.mpr c94
                      have c94b1 : (t304 != t302) = false := bne_eq_false_iff_eq.mpr c94
                      clear c94
                      replace H := Option.bind_eq_some_iff.mp H
                      obtain ⟨⟨t305, t306, t307⟩, A950, H⟩ := H
                      replace H : ((impl_PlanMoved.f kj60 t305 t306 t307 a1).bind fun bt310 => ((laws_eqPlan.f kj60 bt310.1 bt310.2.1 bt310.2.2.1 t272 t273 t274).bind fun t317 => (if t317 = true then (laws_FnExactPlanMoved.j2 kj60 t302 (bt310.2.2.2 != t277) t285 t286 t303) else (laws_FnExactPlanMoved.j2 kj60 t302 true t285 t286 t303)))) = some r := H
                      have A95 := Aside0.mk A950
                      clear A950
                      replace H := Option.bind_eq_some_iff.mp H
                      obtain ⟨⟨t310, t311, t312, t315⟩, A960, H⟩ := H
                      replace H : ((laws_eqPlan.f kj60 t310 t311 t312 t272 t273 t274).bind fun t317 => (if t317 = true then (laws_FnExactPlanMoved.j2 kj60 t302 (t315 != t277) t285 t286 t303) else (laws_FnExactPlanMoved.j2 kj60 t302 true t285 t286 t303))) = some r := H
                      have A96 := Aside0.mk A960
                      clear A960
                      have HC97 := Aside0.mk H
                      clear H
                      have hnb98 := NB291_265.out
                      have hnc98 := NB265_291.out
                      have hnb99 := NB291_278.out
                      have hnc99 := NB278_291.out
                      have hnb100 := NB291_284.out
                      have hnc100 := NB284_291.out
                      have hcz101_0 := bc_ BK291.out 0 (.int .i64 t285) rfl
                      have hcz101_1 := bc_ BK291.out 1 (.int .i64 t286) rfl
                      have hcz101_2 := bc_ BK291.out 2 (.slice Ao37 t287.length co37) rfl
                      have hfz101_0 := blk_frozen BK291.out 0
                      have hfz101_1 := blk_frozen BK291.out 1
                      have hfz101_2 := blk_frozen BK291.out 2
                      go_upto_region 25 with (first | ((with_reducible refine gate_callee (f := 22) rfl ?_); refine goesL_ (some 68) rfl rfl Try.func22 (by kernel_rfl) rfl #[.agg #[.int .i64 t285, .int .i64 t286, .slice Ao37 t287.length co37], .int .i64 1] rfl arr_ ?_; (with_reducible refine (laws_markPlan.calls kj60 t285 t286 (fun k_ => some k_ = (.slice Ao37 t287.length co37 : Value).ownBlock) (.slice Ao37 t287.length co37) t287 1 t302 t303 w _ ?side1 ?side2 A91.out).mono ?_); (case side1 => repeat (first | (with_reducible first | exact HB.out | apply below_alloc | apply pw_below_drewN | apply below_drew1 | refine below_set ?_ GE265.out | refine below_set ?_ GE278.out | refine below_set ?_ GE284.out | refine below_set ?_ GE291.out) | exact HB.out)); (case side2 => exact Kd.R_tight rfl HO_292002.out); rintro e w102 ⟨rfl, hy0, hb, hkp⟩; refine ⟨_, rfl, ?_⟩; have n0_ := Aside0.mk (Kd.R_mono (ok' := fun k_ => some k_ ≠ (.slice Ao30 t300.length co30 : Value).ownBlock ∧ some k_ ≠ (.slice Ao37 t287.length co37 : Value).ownBlock) (Kd.R_keptB (HO_279002.out) hkp (fun k_ hk_ hs_ => (hk_.2) hs_)) (fun k_ hk_ => ⟨hk_.1.1, hk_.1.2⟩)); have n1_ := Aside0.mk (Kd.R_mono (ok' := fun k_ => some k_ ≠ (.slice Ao23 t274.length co23 : Value).ownBlock ∧ some k_ ≠ (.slice Ao37 t287.length co37 : Value).ownBlock) (Kd.R_keptB (HO_285002.out) hkp (fun k_ hk_ hs_ => (hk_.2) hs_)) (fun k_ hk_ => ⟨hk_.1.1, hk_.1.2⟩)); have n2_ := Aside0.mk (Kd.R_reok rfl hy0 (fun k_ e_ => HO_292002.out.1 k_ e_)); have n3_ := Aside0.mk (blk_kept (bk_ BK265.out) hkp (fun hs_ => (fun e_ => (Kd.R_ne HO_292002.out BK265.out (by decide)) e_) hs_)); have n4_ := Aside0.mk (blk_kept (bk_ BK278.out) hkp (fun hs_ => (fun e_ => (Kd.R_ne HO_292002.out BK278.out (by decide)) e_) hs_)); have n5_ := Aside0.mk (blk_kept (bk_ BK284.out) hkp (fun hs_ => (fun e_ => (Kd.R_ne HO_292002.out BK284.out (by decide)) e_) hs_)); have n6_ := Aside0.mk (blk_kept (bk_ BK291.out) hkp (fun hs_ => (fun e_ => (Kd.R_ne HO_292002.out BK291.out (by decide)) e_) hs_)); have n7_ := Aside0.mk (hb); clear HO_279002; clear HO_285002; clear HO_292002; clear BK265; clear BK278; clear BK284; clear BK291; clear HB; have HO_279002 := n0_; have HO_285002 := n1_; have HO_292002 := n2_; have BK265 := n3_; have BK278 := n4_; have BK284 := n5_; have BK291 := n6_; have HB := n7_; clear n0_ n1_ n2_ n3_ n4_ n5_ n6_ n7_; (try clear hb); (try clear hkp); (try clear hy0); have hcz103_0 := bc_ BK291.out 0 (.int .i64 t285) rfl; have hcz103_1 := bc_ BK291.out 1 (.int .i64 t286) rfl; have hcz103_2 := bc_ BK291.out 2 (.slice Ao37 t287.length co37) rfl; have hfz103_0 := blk_frozen BK291.out 0; have hfz103_1 := blk_frozen BK291.out 1; have hfz103_2 := blk_frozen BK291.out 2) | ((with_reducible refine gate_callee (f := 23) rfl ?_); refine goesL_ (some 71) rfl rfl Try.func23 (by kernel_rfl) rfl #[.agg #[.int .i64 t285, .int .i64 t286, .slice Ao37 t303.length co37], .int .i64 1] rfl (by (try simp only [List.map_toArray, List.map_cons, List.map_nil]); first | done | (rw [show t303.length = t287.length from (Kd.R_reads' HO_292002.out).1.symm] <;> rfl) | rfl | (simp only [List.length_drop, List.length_take]; rfl)) ?_; (with_reducible refine (laws_heldPlan.calls kj60 t285 t286 _ _ t303 1 t304 _ ?side1 ?side2 A92.out).mono ?_); (case side1 => repeat (first | exact (Kd.R_reads' HO_292002.out).2.2 | (with_reducible refine Kd.C_alloc ?_ _) | (with_reducible refine Kd.C_drewN ?_ _) | (with_reducible refine Kd.C_drew ?_))); (case side2 => rw [show t303.length = t287.length from (Kd.R_reads' HO_292002.out).1.symm]; exact (Kd.R_reads' HO_292002.out).2.1); rintro e w104 ⟨rfl, hb⟩; refine ⟨_, rfl, ?_⟩; have n0_ := Aside0.mk (Kd.R_below (by (with_reducible repeat (first | apply Kd.R_alloc | apply Kd.R_drewN | apply Kd.R_drew)); exact HO_279002.out) hb); have n1_ := Aside0.mk (Kd.R_below (by (with_reducible repeat (first | apply Kd.R_alloc | apply Kd.R_drewN | apply Kd.R_drew)); exact HO_285002.out) hb); have n2_ := Aside0.mk (Kd.R_below (by (with_reducible repeat (first | apply Kd.R_alloc | apply Kd.R_drewN | apply Kd.R_drew)); exact HO_292002.out) hb); have n3_ := Aside0.mk (bb_ BK265.out hb); have n4_ := Aside0.mk (bb_ BK278.out hb); have n5_ := Aside0.mk (bb_ BK284.out hb); have n6_ := Aside0.mk (bb_ BK291.out hb); have n7_ := Aside0.mk (below_step (hb4_ HB.out GE265.out GE278.out GE284.out GE291.out) hb); clear HO_279002; clear HO_285002; clear HO_292002; clear BK265; clear BK278; clear BK284; clear BK291; clear HB; have HO_279002 := n0_; have HO_285002 := n1_; have HO_292002 := n2_; have BK265 := n3_; have BK278 := n4_; have BK284 := n5_; have BK291 := n6_; have HB := n7_; clear n0_ n1_ n2_ n3_ n4_ n5_ n6_ n7_; (try clear hb); (try clear hb2); (try clear hk); (try clear hi); have hnb105 := NB265_278.out; have hnc105 := NB278_265.out; have hnb106 := NB265_284.out; have hnc106 := NB284_265.out; have hcz107_0 := bc_ BK265.out 0 (.int .i64 a0_0) rfl; have hcz107_1 := bc_ BK265.out 1 (.int .i64 a0_1) rfl; have hcz107_2 := bc_ BK265.out 2 (.slice A0_2 l0_2.length c0_2) rfl; have hfz107_0 := blk_frozen BK265.out 0; have hfz107_1 := blk_frozen BK265.out 1; have hfz107_2 := blk_frozen BK265.out 2) | ((with_reducible refine gate_callee (f := 15) rfl ?_); refine goesL_ (some 79) rfl rfl Try.func15 (by kernel_rfl) rfl #[.agg #[.int .i64 a0_0, .int .i64 a0_1, .slice A0_2 l0_2.length c0_2]] rfl arr_ ?_; (with_reducible refine (laws_toPlan.calls kj60 a0_0 a0_1 _ _ l0_2 t305 t306 t307 _ ?side1 ?side2 A95.out).mono ?_); (case side1 => exact kc_ (Kd.C_below HR0_2.out HB.out)); (case side2 => exact HC0_2.out); rintro e w108 ⟨v308, rfl, ho0, hb⟩; refine ⟨_, rfl, ?_⟩; have n0_ := Aside0.mk (Kd.R_elder' (by (with_reducible repeat (first | apply Kd.R_alloc | apply Kd.R_drewN | apply Kd.R_drew)); exact HO_279002.out) (Kd.R_base ho0) hb); have n1_ := Aside0.mk (Kd.R_elder' (by (with_reducible repeat (first | apply Kd.R_alloc | apply Kd.R_drewN | apply Kd.R_drew)); exact HO_285002.out) (Kd.R_base ho0) hb); have n2_ := Aside0.mk (Kd.R_elder' (by (with_reducible repeat (first | apply Kd.R_alloc | apply Kd.R_drewN | apply Kd.R_drew)); exact HO_292002.out) (Kd.R_base ho0) hb); have n3_ := Aside0.mk (Kd.R_lower (Kd.R_new' (Kd.R_new' (Kd.R_new' ho0 (Kd.R_lt (by (with_reducible repeat (first | apply Kd.R_alloc | apply Kd.R_drewN | apply Kd.R_drew)); exact HO_279002.out))) (Kd.R_lt (by (with_reducible repeat (first | apply Kd.R_alloc | apply Kd.R_drewN | apply Kd.R_drew)); exact HO_285002.out))) (Kd.R_lt (by (with_reducible repeat (first | apply Kd.R_alloc | apply Kd.R_drewN | apply Kd.R_drew)); exact HO_292002.out))) (below_size (hb4_ HB.out GE265.out GE278.out GE284.out GE291.out))); have n4_ := Aside0.mk (bb_ BK265.out hb); have n5_ := Aside0.mk (bb_ BK278.out hb); have n6_ := Aside0.mk (bb_ BK284.out hb); have n7_ := Aside0.mk (bb_ BK291.out hb); have n8_ := Aside0.mk (below_step (hb4_ HB.out GE265.out GE278.out GE284.out GE291.out) hb); clear HO_279002; clear HO_285002; clear HO_292002; clear BK265; clear BK278; clear BK284; clear BK291; clear HB; have HO_279002 := n0_; have HO_285002 := n1_; have HO_292002 := n2_; have HO309 := n3_; have BK265 := n4_; have BK278 := n5_; have BK284 := n6_; have BK291 := n7_; have HB := n8_; clear n0_ n1_ n2_ n3_ n4_ n5_ n6_ n7_ n8_; (try clear hb); (try clear hb2); (try clear hk); (try clear hi); (try clear ho0); obtain ⟨Ao109, co109, eo109⟩ := Kd.R_slice HO309.out; subst eo109) | ((with_reducible refine gate_callee (f := 21) rfl ?_); refine goesL_ (some 81) rfl rfl Try.func21 (by kernel_rfl) rfl #[.agg #[.int .i64 t305, .int .i64 t306, .slice Ao109 t307.length co109], .int .i64 a1] rfl arr_ ?_; (with_reducible refine (impl_PlanMoved.calls kj60 t305 t306 _ _ t307 a1 t310 t311 t312 t315 _ ?side1 ?side2 A96.out).mono ?_); (case side1 => repeat (first | exact (Kd.R_reads' HO309.out).2.2 | (with_reducible refine Kd.C_alloc ?_ _) | (with_reducible refine Kd.C_drewN ?_ _) | (with_reducible refine Kd.C_drew ?_))); (case side2 => exact (Kd.R_reads' HO309.out).2.1); rintro e w110 ⟨v313, rfl, ho0, hb⟩; refine ⟨_, rfl, ?_⟩; have n0_ := Aside0.mk (Kd.R_elder' (by (with_reducible repeat (first | apply Kd.R_alloc | apply Kd.R_drewN | apply Kd.R_drew)); exact HO_279002.out) (Kd.R_base ho0) hb); have n1_ := Aside0.mk (Kd.R_elder' (by (with_reducible repeat (first | apply Kd.R_alloc | apply Kd.R_drewN | apply Kd.R_drew)); exact HO_285002.out) (Kd.R_base ho0) hb); have n2_ := Aside0.mk (Kd.R_elder' (by (with_reducible repeat (first | apply Kd.R_alloc | apply Kd.R_drewN | apply Kd.R_drew)); exact HO_292002.out) (Kd.R_base ho0) hb); have n3_ := Aside0.mk (Kd.R_elder' (by (with_reducible repeat (first | apply Kd.R_alloc | apply Kd.R_drewN | apply Kd.R_drew)); exact HO309.out) (Kd.R_base ho0) hb); have n4_ := Aside0.mk (Kd.R_lower (Kd.R_new' (Kd.R_new' (Kd.R_new' (Kd.R_new' ho0 (Kd.R_lt (by (with_reducible repeat (first | apply Kd.R_alloc | apply Kd.R_drewN | apply Kd.R_drew)); exact HO_279002.out))) (Kd.R_lt (by (with_reducible repeat (first | apply Kd.R_alloc | apply Kd.R_drewN | apply Kd.R_drew)); exact HO_285002.out))) (Kd.R_lt (by (with_reducible repeat (first | apply Kd.R_alloc | apply Kd.R_drewN | apply Kd.R_drew)); exact HO_292002.out))) (Kd.R_lt (by (with_reducible repeat (first | apply Kd.R_alloc | apply Kd.R_drewN | apply Kd.R_drew)); exact HO309.out))) (below_size (hb4_ HB.out GE265.out GE278.out GE284.out GE291.out))); have n5_ := Aside0.mk (bb_ BK265.out hb); have n6_ := Aside0.mk (bb_ BK278.out hb); have n7_ := Aside0.mk (bb_ BK284.out hb); have n8_ := Aside0.mk (bb_ BK291.out hb); have n9_ := Aside0.mk (below_step (hb4_ HB.out GE265.out GE278.out GE284.out GE291.out) hb); clear HO_279002; clear HO_285002; clear HO_292002; clear HO309; clear BK265; clear BK278; clear BK284; clear BK291; clear HB; have HO_279002 := n0_; have HO_285002 := n1_; have HO_292002 := n2_; have HO309 := n3_; have HO314 := n4_; have BK265 := n5_; have BK278 := n6_; have BK284 := n7_; have BK291 := n8_; have HB := n9_; clear n0_ n1_ n2_ n3_ n4_ n5_ n6_ n7_ n8_ n9_; (try clear hb); (try clear hb2); (try clear hk); (try clear hi); (try clear ho0)) | ((with_reducible refine gate_dst (N := 14) rfl ?_); refine box_event ?hg (N := 14) ?hd (cs := #[.int .i64 0, .int .i64 0, .slice none 0 0]) (t := 29) ?hr ?_; (case hd => rfl); (case hg => rfl); (case hr => first | (go_simp; done) | (go_simp; rfl)); intro gb316 hg w111 hbox hb; have n0_ := Aside0.mk (Kd.R_below (by (with_reducible repeat (first | apply Kd.R_alloc | apply Kd.R_drewN | apply Kd.R_drew)); exact HO_279002.out) hb); have n1_ := Aside0.mk (Kd.R_below (by (with_reducible repeat (first | apply Kd.R_alloc | apply Kd.R_drewN | apply Kd.R_drew)); exact HO_285002.out) hb); have n2_ := Aside0.mk (Kd.R_below (by (with_reducible repeat (first | apply Kd.R_alloc | apply Kd.R_drewN | apply Kd.R_drew)); exact HO_292002.out) hb); have n3_ := Aside0.mk (Kd.R_below (by (with_reducible repeat (first | apply Kd.R_alloc | apply Kd.R_drewN | apply Kd.R_drew)); exact HO309.out) hb); have n4_ := Aside0.mk (Kd.R_below (by (with_reducible repeat (first | apply Kd.R_alloc | apply Kd.R_drewN | apply Kd.R_drew)); exact HO314.out) hb); have n5_ := Aside0.mk (bb_ BK265.out hb); have n6_ := Aside0.mk (bb_ BK278.out hb); have n7_ := Aside0.mk (bb_ BK284.out hb); have n8_ := Aside0.mk (bb_ BK291.out hb); have n9_ := Aside0.mk (below_step (hb4_ HB.out GE265.out GE278.out GE284.out GE291.out) hb); have n10_ := Aside0.mk (hbox); have n11_ := Aside0.mk ((by rw [hg]; exact (below_size (hb4_ HB.out GE265.out GE278.out GE284.out GE291.out)) : w.heap.size ≤ gb316)); have n12_ := Aside0.mk ((by rw [hg]; exact (below_size (hb4_ HB.out GE265.out GE278.out GE284.out GE291.out)) : w.heap.size ≤ gb316)); have n13_ := Aside0.mk ((bl_ hg BK265.out : gb265 ≠ gb316)); have n14_ := Aside0.mk ((bg_ hg BK265.out : gb316 ≠ gb265)); have n15_ := Aside0.mk ((bl_ hg BK278.out : gb278 ≠ gb316)); have n16_ := Aside0.mk ((bg_ hg BK278.out : gb316 ≠ gb278)); have n17_ := Aside0.mk ((bl_ hg BK284.out : gb284 ≠ gb316)); have n18_ := Aside0.mk ((bg_ hg BK284.out : gb316 ≠ gb284)); have n19_ := Aside0.mk ((bl_ hg BK291.out : gb291 ≠ gb316)); have n20_ := Aside0.mk ((bg_ hg BK291.out : gb316 ≠ gb291)); clear HO_279002; clear HO_285002; clear HO_292002; clear HO309; clear HO314; clear BK265; clear BK278; clear BK284; clear BK291; clear HB; have HO_279002 := n0_; have HO_285002 := n1_; have HO_292002 := n2_; have HO309 := n3_; have HO314 := n4_; have BK265 := n5_; have BK278 := n6_; have BK284 := n7_; have BK291 := n8_; have HB := n9_; have BK316 := n10_; have GW316 := n11_; have GE316 := n12_; have NB265_316 := n13_; have NB316_265 := n14_; have NB278_316 := n15_; have NB316_278 := n16_; have NB284_316 := n17_; have NB316_284 := n18_; have NB291_316 := n19_; have NB316_291 := n20_; clear n0_ n1_ n2_ n3_ n4_ n5_ n6_ n7_ n8_ n9_ n10_ n11_ n12_ n13_ n14_ n15_ n16_ n17_ n18_ n19_ n20_; clear hb hbox hg; have hnb112 := NB316_265.out; have hnc112 := NB265_316.out; have hnb113 := NB316_278.out; have hnc113 := NB278_316.out; have hnb114 := NB316_284.out; have hnc114 := NB284_316.out; have hnb115 := NB316_291.out; have hnc115 := NB291_316.out; have hcz116_0 := bc_ BK316.out 0 (.int .i64 0) rfl; have hcz116_1 := bc_ BK316.out 1 (.int .i64 0) rfl; have hcz116_2 := bc_ BK316.out 2 (.slice none 0 0) rfl; have hfz116_0 := blk_frozen BK316.out 0; have hfz116_1 := blk_frozen BK316.out 1; have hfz116_2 := blk_frozen BK316.out 2; obtain ⟨Ao117, co117, eo117⟩ := Kd.R_slice HO314.out; subst eo117))
                      (try simp only [Act.put, List.setIfInBounds_toArray, List.set_cons_zero, List.set_cons_succ])
                      go_cut [92] (fun v92 wc => ∃ (kq : Nat) (x92_96 : Bool), v92 = .bool x92_96 ∧ Aside0 (laws_FnExactPlanMoved.j2 kq t302 x92_96 t285 t286 t303 = some r) ∧ Aside0 (kq ≤ kj60) ∧ Aside0 (Kd.R k60 60 wc w.heap.size (fun k_ => some k_ ≠ ((.slice Ao30 t300.length co30) : Value).ownBlock ∧ some k_ ≠ ((.slice Ao37 t287.length co37) : Value).ownBlock ∧ some k_ ≠ ((.slice Ao117 t312.length co117) : Value).ownBlock) (.slice Ao23 t274.length co23) t274) ∧ Aside0 (Kd.R k60 60 wc w.heap.size (fun k_ => some k_ ≠ ((.slice Ao23 t274.length co23) : Value).ownBlock ∧ some k_ ≠ ((.slice Ao37 t287.length co37) : Value).ownBlock ∧ some k_ ≠ ((.slice Ao117 t312.length co117) : Value).ownBlock) (.slice Ao30 t300.length co30) t300) ∧ Aside0 (Kd.R k60 60 wc w.heap.size (fun k_ => some k_ ≠ ((.slice Ao23 t274.length co23) : Value).ownBlock ∧ some k_ ≠ ((.slice Ao30 t300.length co30) : Value).ownBlock ∧ some k_ ≠ ((.slice Ao117 t312.length co117) : Value).ownBlock) (.slice Ao37 t287.length co37) t303) ∧ Aside0 (Kd.R k60 60 wc w.heap.size (fun k_ => some k_ ≠ ((.slice Ao23 t274.length co23) : Value).ownBlock ∧ some k_ ≠ ((.slice Ao30 t300.length co30) : Value).ownBlock ∧ some k_ ≠ ((.slice Ao37 t287.length co37) : Value).ownBlock) (.slice Ao117 t312.length co117) t312) ∧ Aside0 (wc.heap[gb265]? = some (.cells #[.int .i64 a0_0, .int .i64 a0_1, (.slice A0_2 l0_2.length c0_2)] 24 (0, 0))) ∧ Aside0 (wc.heap[gb278]? = some (.cells #[.int .i64 t272, .int .i64 t273, (.slice Ao23 t274.length co23)] 29 (0, 0))) ∧ Aside0 (wc.heap[gb284]? = some (.cells #[.int .i64 t279, .int .i64 t280, (.slice Ao30 t300.length co30)] 29 (0, 0))) ∧ Aside0 (wc.heap[gb291]? = some (.cells #[.int .i64 t285, .int .i64 t286, (.slice Ao37 t287.length co37)] 29 (0, 0))) ∧ Aside0 (wc.heap[gb316]? = some (.cells #[.int .i64 t310, .int .i64 t311, (.slice Ao117 t312.length co117)] 29 (0, 0))) ∧ Aside0 (Below w.heap.size w wc))
                      case first =>
                        have H := HC97.out
                        clear HC97
                        replace H := Option.bind_eq_some_iff.mp H
                        obtain ⟨t317, A1180, H⟩ := H
                        replace H : (if t317 = true then (laws_FnExactPlanMoved.j2 kj60 t302 (t315 != t277) t285 t286 t303) else (laws_FnExactPlanMoved.j2 kj60 t302 true t285 t286 t303)) = some r := H
                        have A118 := Aside0.mk A1180
                        clear A1180
                        by_cases c119 : t317 = true
                        · subst c119
                          have H1 : (laws_FnExactPlanMoved.j2 kj60 t302 (t315 != t277) t285 t286 t303) = some r := by rw [if_pos rfl] at H; exact H
                          clear H
                          have H := H1
                          clear H1
                          have H' := Aside0.mk H
                          clear H
                          have hnb120 := NB316_265.out
                          have hnc120 := NB265_316.out
                          have hnb121 := NB316_278.out
                          have hnc121 := NB278_316.out
                          have hnb122 := NB316_284.out
                          have hnc122 := NB284_316.out
                          have hnb123 := NB316_291.out
                          have hnc123 := NB291_316.out
                          have hcz124_0 := bc_ BK316.out 0 (.int .i64 0) rfl
                          have hcz124_1 := bc_ BK316.out 1 (.int .i64 0) rfl
                          have hcz124_2 := bc_ BK316.out 2 (.slice none 0 0) rfl
                          have hfz124_0 := blk_frozen BK316.out 0
                          have hfz124_1 := blk_frozen BK316.out 1
                          have hfz124_2 := blk_frozen BK316.out 2
                          have hnb125 := NB278_265.out
                          have hnc125 := NB265_278.out
                          have hnb126 := NB278_284.out
                          have hnc126 := NB284_278.out
                          have hnb127 := NB278_291.out
                          have hnc127 := NB291_278.out
                          have hcz128_0 := bc_ BK278.out 0 (.int .i64 t272) rfl
                          have hcz128_1 := bc_ BK278.out 1 (.int .i64 t273) rfl
                          have hcz128_2 := bc_ BK278.out 2 (.slice Ao23 t274.length co23) rfl
                          have hfz128_0 := blk_frozen BK278.out 0
                          have hfz128_1 := blk_frozen BK278.out 1
                          have hfz128_2 := blk_frozen BK278.out 2
                          go_wp2_with (first | ((with_reducible refine gate_callee (f := 17) rfl ?_); refine goesL_ (some 86) rfl rfl Try.func17 (by kernel_rfl) rfl #[.agg #[.int .i64 t310, .int .i64 t311, .slice Ao117 t312.length co117], .agg #[.int .i64 t272, .int .i64 t273, .slice Ao23 t274.length co23]] rfl arr_ ?_; (with_reducible refine (laws_eqPlan.calls kj60 t310 t311 _ _ t312 t272 t273 _ _ t274 true _ ?side1 ?side2 ?side3 ?side4 A118.out).mono ?_); (case side1 => refine (Kd.R_reads' (e := 60) (base := w.heap.size) (ok := fun k_ => ((((True ∧ some k_ ≠ (.slice Ao23 t274.length co23 : Value).ownBlock) ∧ some k_ ≠ (.slice Ao30 t300.length co30 : Value).ownBlock) ∧ some k_ ≠ (.slice Ao37 t287.length co37 : Value).ownBlock) ∧ some k_ ≠ (.slice Ao109 t307.length co109 : Value).ownBlock)) (n := t312.length) (c := co117) ?_).2.2; exact (by (with_reducible repeat (first | apply Kd.R_alloc | apply Kd.R_drewN | apply Kd.R_drew)); exact (Kd.R_mono (Kd.R_far (p := ⟨gb316, 2, none⟩) (Kd.R_far (p := ⟨gb316, 1, none⟩) (Kd.R_far (p := ⟨gb316, 0, none⟩) (Kd.R_types HO314.out BK316.out (by decide)) (fun _ hk => hk.2) (.int .i64 t310)) (fun _ hk => hk.2) (.int .i64 t311)) (fun _ hk => hk.2) (.slice Ao117 t312.length co117)) (fun _ h_ => h_.1)))); (case side2 => exact (Kd.R_reads' HO314.out).2.1); (case side3 => refine (Kd.R_reads' (e := 60) (base := w.heap.size) (ok := fun k_ => (((some k_ ≠ (.slice Ao30 t300.length co30 : Value).ownBlock ∧ some k_ ≠ (.slice Ao37 t287.length co37 : Value).ownBlock) ∧ some k_ ≠ (.slice Ao109 t307.length co109 : Value).ownBlock) ∧ some k_ ≠ (.slice Ao117 t312.length co117 : Value).ownBlock)) (n := t274.length) (c := co23) ?_).2.2; exact (by (with_reducible repeat (first | apply Kd.R_alloc | apply Kd.R_drewN | apply Kd.R_drew)); exact (Kd.R_mono (Kd.R_far (p := ⟨gb316, 2, none⟩) (Kd.R_far (p := ⟨gb316, 1, none⟩) (Kd.R_far (p := ⟨gb316, 0, none⟩) (Kd.R_types HO_279002.out BK316.out (by decide)) (fun _ hk => hk.2) (.int .i64 t310)) (fun _ hk => hk.2) (.int .i64 t311)) (fun _ hk => hk.2) (.slice Ao117 t312.length co117)) (fun _ h_ => h_.1)))); (case side4 => exact (Kd.R_reads' HO_279002.out).2.1); rintro e w129 ⟨rfl, hb⟩; refine ⟨_, rfl, ?_⟩; have n0_ := Aside0.mk (Kd.R_below (by (with_reducible repeat (first | apply Kd.R_alloc | apply Kd.R_drewN | apply Kd.R_drew)); exact (Kd.R_mono (Kd.R_far (p := ⟨gb316, 2, none⟩) (Kd.R_far (p := ⟨gb316, 1, none⟩) (Kd.R_far (p := ⟨gb316, 0, none⟩) (Kd.R_types HO_279002.out BK316.out (by decide)) (fun _ hk => hk.2) (.int .i64 t310)) (fun _ hk => hk.2) (.int .i64 t311)) (fun _ hk => hk.2) (.slice Ao117 t312.length co117)) (fun _ h_ => h_.1))) hb); have n1_ := Aside0.mk (Kd.R_below (by (with_reducible repeat (first | apply Kd.R_alloc | apply Kd.R_drewN | apply Kd.R_drew)); exact (Kd.R_mono (Kd.R_far (p := ⟨gb316, 2, none⟩) (Kd.R_far (p := ⟨gb316, 1, none⟩) (Kd.R_far (p := ⟨gb316, 0, none⟩) (Kd.R_types HO_285002.out BK316.out (by decide)) (fun _ hk => hk.2) (.int .i64 t310)) (fun _ hk => hk.2) (.int .i64 t311)) (fun _ hk => hk.2) (.slice Ao117 t312.length co117)) (fun _ h_ => h_.1))) hb); have n2_ := Aside0.mk (Kd.R_below (by (with_reducible repeat (first | apply Kd.R_alloc | apply Kd.R_drewN | apply Kd.R_drew)); exact (Kd.R_mono (Kd.R_far (p := ⟨gb316, 2, none⟩) (Kd.R_far (p := ⟨gb316, 1, none⟩) (Kd.R_far (p := ⟨gb316, 0, none⟩) (Kd.R_types HO_292002.out BK316.out (by decide)) (fun _ hk => hk.2) (.int .i64 t310)) (fun _ hk => hk.2) (.int .i64 t311)) (fun _ hk => hk.2) (.slice Ao117 t312.length co117)) (fun _ h_ => h_.1))) hb); have n3_ := Aside0.mk (Kd.R_below (by (with_reducible repeat (first | apply Kd.R_alloc | apply Kd.R_drewN | apply Kd.R_drew)); exact (Kd.R_mono (Kd.R_far (p := ⟨gb316, 2, none⟩) (Kd.R_far (p := ⟨gb316, 1, none⟩) (Kd.R_far (p := ⟨gb316, 0, none⟩) (Kd.R_types HO309.out BK316.out (by decide)) (fun _ hk => hk.2) (.int .i64 t310)) (fun _ hk => hk.2) (.int .i64 t311)) (fun _ hk => hk.2) (.slice Ao117 t312.length co117)) (fun _ h_ => h_.1))) hb); have n4_ := Aside0.mk (Kd.R_below (by (with_reducible repeat (first | apply Kd.R_alloc | apply Kd.R_drewN | apply Kd.R_drew)); exact (Kd.R_mono (Kd.R_far (p := ⟨gb316, 2, none⟩) (Kd.R_far (p := ⟨gb316, 1, none⟩) (Kd.R_far (p := ⟨gb316, 0, none⟩) (Kd.R_types HO314.out BK316.out (by decide)) (fun _ hk => hk.2) (.int .i64 t310)) (fun _ hk => hk.2) (.int .i64 t311)) (fun _ hk => hk.2) (.slice Ao117 t312.length co117)) (fun _ h_ => h_.1))) hb); have n5_ := Aside0.mk (blk_below (g := gb265) (o := .cells #[.int .i64 a0_0, .int .i64 a0_1, .slice A0_2 l0_2.length c0_2] 24 (0, 0)) (by (with_reducible repeat (first | refine blk_drewN ?_ _ | refine blk_drew ?_ | refine blk_alloc ?_ _)); refine blk_far ?_ NB265_316.out _; (with_reducible repeat (first | refine blk_drewN ?_ _ | refine blk_drew ?_ | refine blk_alloc ?_ _)); refine blk_far ?_ NB265_316.out _; (with_reducible repeat (first | refine blk_drewN ?_ _ | refine blk_drew ?_ | refine blk_alloc ?_ _)); refine blk_far ?_ NB265_316.out _; (with_reducible repeat (first | refine blk_drewN ?_ _ | refine blk_drew ?_ | refine blk_alloc ?_ _)); exact BK265.out) hb); have n6_ := Aside0.mk (blk_below (g := gb278) (o := .cells #[.int .i64 t272, .int .i64 t273, .slice Ao23 t274.length co23] 29 (0, 0)) (by (with_reducible repeat (first | refine blk_drewN ?_ _ | refine blk_drew ?_ | refine blk_alloc ?_ _)); refine blk_far ?_ NB278_316.out _; (with_reducible repeat (first | refine blk_drewN ?_ _ | refine blk_drew ?_ | refine blk_alloc ?_ _)); refine blk_far ?_ NB278_316.out _; (with_reducible repeat (first | refine blk_drewN ?_ _ | refine blk_drew ?_ | refine blk_alloc ?_ _)); refine blk_far ?_ NB278_316.out _; (with_reducible repeat (first | refine blk_drewN ?_ _ | refine blk_drew ?_ | refine blk_alloc ?_ _)); exact BK278.out) hb); have n7_ := Aside0.mk (blk_below (g := gb284) (o := .cells #[.int .i64 t279, .int .i64 t280, .slice Ao30 t300.length co30] 29 (0, 0)) (by (with_reducible repeat (first | refine blk_drewN ?_ _ | refine blk_drew ?_ | refine blk_alloc ?_ _)); refine blk_far ?_ NB284_316.out _; (with_reducible repeat (first | refine blk_drewN ?_ _ | refine blk_drew ?_ | refine blk_alloc ?_ _)); refine blk_far ?_ NB284_316.out _; (with_reducible repeat (first | refine blk_drewN ?_ _ | refine blk_drew ?_ | refine blk_alloc ?_ _)); refine blk_far ?_ NB284_316.out _; (with_reducible repeat (first | refine blk_drewN ?_ _ | refine blk_drew ?_ | refine blk_alloc ?_ _)); exact BK284.out) hb); have n8_ := Aside0.mk (blk_below (g := gb291) (o := .cells #[.int .i64 t285, .int .i64 t286, .slice Ao37 t287.length co37] 29 (0, 0)) (by (with_reducible repeat (first | refine blk_drewN ?_ _ | refine blk_drew ?_ | refine blk_alloc ?_ _)); refine blk_far ?_ NB291_316.out _; (with_reducible repeat (first | refine blk_drewN ?_ _ | refine blk_drew ?_ | refine blk_alloc ?_ _)); refine blk_far ?_ NB291_316.out _; (with_reducible repeat (first | refine blk_drewN ?_ _ | refine blk_drew ?_ | refine blk_alloc ?_ _)); refine blk_far ?_ NB291_316.out _; (with_reducible repeat (first | refine blk_drewN ?_ _ | refine blk_drew ?_ | refine blk_alloc ?_ _)); exact BK291.out) hb); have n9_ := Aside0.mk (blk_below (g := gb316) (o := .cells #[.int .i64 t310, .int .i64 t311, .slice Ao117 t312.length co117] 29 (0, 0)) (by (with_reducible repeat (first | refine blk_drewN ?_ _ | refine blk_drew ?_ | refine blk_alloc ?_ _)); refine blk_put (cs := #[.int .i64 t310, .int .i64 t311, .slice none 0 0]) ?_ 2 _ rfl; (with_reducible repeat (first | refine blk_drewN ?_ _ | refine blk_drew ?_ | refine blk_alloc ?_ _)); refine blk_put (cs := #[.int .i64 t310, .int .i64 0, .slice none 0 0]) ?_ 1 _ rfl; (with_reducible repeat (first | refine blk_drewN ?_ _ | refine blk_drew ?_ | refine blk_alloc ?_ _)); refine blk_put (cs := #[.int .i64 0, .int .i64 0, .slice none 0 0]) ?_ 0 _ rfl; (with_reducible repeat (first | refine blk_drewN ?_ _ | refine blk_drew ?_ | refine blk_alloc ?_ _)); exact BK316.out) hb); have n10_ := Aside0.mk (below_step (hb5_ HB.out GE265.out GE278.out GE284.out GE291.out GE316.out) hb); clear HO_279002; clear HO_285002; clear HO_292002; clear HO309; clear HO314; clear BK265; clear BK278; clear BK284; clear BK291; clear BK316; clear HB; have HO_279002 := n0_; have HO_285002 := n1_; have HO_292002 := n2_; have HO309 := n3_; have HO314 := n4_; have BK265 := n5_; have BK278 := n6_; have BK284 := n7_; have BK291 := n8_; have BK316 := n9_; have HB := n10_; clear n0_ n1_ n2_ n3_ n4_ n5_ n6_ n7_ n8_ n9_ n10_; (try clear hb); (try clear hb2); (try clear hk); (try clear hi)))
                          go_meet
                          case rel => exact ⟨_, ((t315 != t277)), (by first | rfl | (simp; done) | (simp [*]; done)), H', ⟨by have := HJ11.out; have := HJ60.out; first | omega | exact Nat.le_refl _⟩, ⟨by (try simp only [hl285002_60]); (with_reducible repeat (first | apply Kd.R_alloc | apply Kd.R_drewN | apply Kd.R_drew)); exact Kd.R_mono HO_279002.out (fun _ hk => ⟨hk.1.1.1, ⟨hk.1.1.2, hk.2⟩⟩)⟩, ⟨by (try simp only [hl285002_60]); (with_reducible repeat (first | apply Kd.R_alloc | apply Kd.R_drewN | apply Kd.R_drew)); exact Kd.R_mono HO_285002.out (fun _ hk => ⟨hk.1.1.1, ⟨hk.1.1.2, hk.2⟩⟩)⟩, ⟨by (try simp only [hl285002_60]); (with_reducible repeat (first | apply Kd.R_alloc | apply Kd.R_drewN | apply Kd.R_drew)); exact Kd.R_mono HO_292002.out (fun _ hk => ⟨hk.1.1.1, ⟨hk.1.1.2, hk.2⟩⟩)⟩, ⟨by (try simp only [hl285002_60]); (with_reducible repeat (first | apply Kd.R_alloc | apply Kd.R_drewN | apply Kd.R_drew)); exact Kd.R_mono HO314.out (fun _ hk => ⟨hk.1.1.1.2, ⟨hk.1.1.2, hk.1.2⟩⟩)⟩, ⟨by (try simp only [hl285002_60]); (with_reducible repeat (first | refine blk_drewN ?_ _ | refine blk_drew ?_ | refine blk_alloc ?_ _)); exact BK265.out⟩, ⟨by (try simp only [hl285002_60]); (with_reducible repeat (first | refine blk_drewN ?_ _ | refine blk_drew ?_ | refine blk_alloc ?_ _)); exact BK278.out⟩, ⟨by (try simp only [hl285002_60]); (with_reducible repeat (first | refine blk_drewN ?_ _ | refine blk_drew ?_ | refine blk_alloc ?_ _)); exact BK284.out⟩, ⟨by (try simp only [hl285002_60]); (with_reducible repeat (first | refine blk_drewN ?_ _ | refine blk_drew ?_ | refine blk_alloc ?_ _)); exact BK291.out⟩, ⟨by (try simp only [hl285002_60]); (with_reducible repeat (first | refine blk_drewN ?_ _ | refine blk_drew ?_ | refine blk_alloc ?_ _)); exact BK316.out⟩, ⟨hb5_ HB.out GE265.out GE278.out GE284.out GE291.out GE316.out⟩⟩
                        · replace c119 := Bool.eq_false_iff.mpr c119
                          subst c119
                          have H1 : (laws_FnExactPlanMoved.j2 kj60 t302 true t285 t286 t303) = some r := by rw [if_neg (show ¬ (false = true) by decide)] at H; exact H
                          clear H
                          have H := H1
                          clear H1
                          have H' := Aside0.mk H
                          clear H
                          have hnb130 := NB316_265.out
                          have hnc130 := NB265_316.out
                          have hnb131 := NB316_278.out
                          have hnc131 := NB278_316.out
                          have hnb132 := NB316_284.out
                          have hnc132 := NB284_316.out
                          have hnb133 := NB316_291.out
                          have hnc133 := NB291_316.out
                          have hcz134_0 := bc_ BK316.out 0 (.int .i64 0) rfl
                          have hcz134_1 := bc_ BK316.out 1 (.int .i64 0) rfl
                          have hcz134_2 := bc_ BK316.out 2 (.slice none 0 0) rfl
                          have hfz134_0 := blk_frozen BK316.out 0
                          have hfz134_1 := blk_frozen BK316.out 1
                          have hfz134_2 := blk_frozen BK316.out 2
                          have hnb135 := NB278_265.out
                          have hnc135 := NB265_278.out
                          have hnb136 := NB278_284.out
                          have hnc136 := NB284_278.out
                          have hnb137 := NB278_291.out
                          have hnc137 := NB291_278.out
                          have hcz138_0 := bc_ BK278.out 0 (.int .i64 t272) rfl
                          have hcz138_1 := bc_ BK278.out 1 (.int .i64 t273) rfl
                          have hcz138_2 := bc_ BK278.out 2 (.slice Ao23 t274.length co23) rfl
                          have hfz138_0 := blk_frozen BK278.out 0
                          have hfz138_1 := blk_frozen BK278.out 1
                          have hfz138_2 := blk_frozen BK278.out 2
                          go_wp2_with (first | ((with_reducible refine gate_callee (f := 17) rfl ?_); refine goesL_ (some 86) rfl rfl Try.func17 (by kernel_rfl) rfl #[.agg #[.int .i64 t310, .int .i64 t311, .slice Ao117 t312.length co117], .agg #[.int .i64 t272, .int .i64 t273, .slice Ao23 t274.length co23]] rfl arr_ ?_; (with_reducible refine (laws_eqPlan.calls kj60 t310 t311 _ _ t312 t272 t273 _ _ t274 false _ ?side1 ?side2 ?side3 ?side4 A118.out).mono ?_); (case side1 => refine (Kd.R_reads' (e := 60) (base := w.heap.size) (ok := fun k_ => ((((True ∧ some k_ ≠ (.slice Ao23 t274.length co23 : Value).ownBlock) ∧ some k_ ≠ (.slice Ao30 t300.length co30 : Value).ownBlock) ∧ some k_ ≠ (.slice Ao37 t287.length co37 : Value).ownBlock) ∧ some k_ ≠ (.slice Ao109 t307.length co109 : Value).ownBlock)) (n := t312.length) (c := co117) ?_).2.2; exact (by (with_reducible repeat (first | apply Kd.R_alloc | apply Kd.R_drewN | apply Kd.R_drew)); exact (Kd.R_mono (Kd.R_far (p := ⟨gb316, 2, none⟩) (Kd.R_far (p := ⟨gb316, 1, none⟩) (Kd.R_far (p := ⟨gb316, 0, none⟩) (Kd.R_types HO314.out BK316.out (by decide)) (fun _ hk => hk.2) (.int .i64 t310)) (fun _ hk => hk.2) (.int .i64 t311)) (fun _ hk => hk.2) (.slice Ao117 t312.length co117)) (fun _ h_ => h_.1)))); (case side2 => exact (Kd.R_reads' HO314.out).2.1); (case side3 => refine (Kd.R_reads' (e := 60) (base := w.heap.size) (ok := fun k_ => (((some k_ ≠ (.slice Ao30 t300.length co30 : Value).ownBlock ∧ some k_ ≠ (.slice Ao37 t287.length co37 : Value).ownBlock) ∧ some k_ ≠ (.slice Ao109 t307.length co109 : Value).ownBlock) ∧ some k_ ≠ (.slice Ao117 t312.length co117 : Value).ownBlock)) (n := t274.length) (c := co23) ?_).2.2; exact (by (with_reducible repeat (first | apply Kd.R_alloc | apply Kd.R_drewN | apply Kd.R_drew)); exact (Kd.R_mono (Kd.R_far (p := ⟨gb316, 2, none⟩) (Kd.R_far (p := ⟨gb316, 1, none⟩) (Kd.R_far (p := ⟨gb316, 0, none⟩) (Kd.R_types HO_279002.out BK316.out (by decide)) (fun _ hk => hk.2) (.int .i64 t310)) (fun _ hk => hk.2) (.int .i64 t311)) (fun _ hk => hk.2) (.slice Ao117 t312.length co117)) (fun _ h_ => h_.1)))); (case side4 => exact (Kd.R_reads' HO_279002.out).2.1); rintro e w139 ⟨rfl, hb⟩; refine ⟨_, rfl, ?_⟩; have n0_ := Aside0.mk (Kd.R_below (by (with_reducible repeat (first | apply Kd.R_alloc | apply Kd.R_drewN | apply Kd.R_drew)); exact (Kd.R_mono (Kd.R_far (p := ⟨gb316, 2, none⟩) (Kd.R_far (p := ⟨gb316, 1, none⟩) (Kd.R_far (p := ⟨gb316, 0, none⟩) (Kd.R_types HO_279002.out BK316.out (by decide)) (fun _ hk => hk.2) (.int .i64 t310)) (fun _ hk => hk.2) (.int .i64 t311)) (fun _ hk => hk.2) (.slice Ao117 t312.length co117)) (fun _ h_ => h_.1))) hb); have n1_ := Aside0.mk (Kd.R_below (by (with_reducible repeat (first | apply Kd.R_alloc | apply Kd.R_drewN | apply Kd.R_drew)); exact (Kd.R_mono (Kd.R_far (p := ⟨gb316, 2, none⟩) (Kd.R_far (p := ⟨gb316, 1, none⟩) (Kd.R_far (p := ⟨gb316, 0, none⟩) (Kd.R_types HO_285002.out BK316.out (by decide)) (fun _ hk => hk.2) (.int .i64 t310)) (fun _ hk => hk.2) (.int .i64 t311)) (fun _ hk => hk.2) (.slice Ao117 t312.length co117)) (fun _ h_ => h_.1))) hb); have n2_ := Aside0.mk (Kd.R_below (by (with_reducible repeat (first | apply Kd.R_alloc | apply Kd.R_drewN | apply Kd.R_drew)); exact (Kd.R_mono (Kd.R_far (p := ⟨gb316, 2, none⟩) (Kd.R_far (p := ⟨gb316, 1, none⟩) (Kd.R_far (p := ⟨gb316, 0, none⟩) (Kd.R_types HO_292002.out BK316.out (by decide)) (fun _ hk => hk.2) (.int .i64 t310)) (fun _ hk => hk.2) (.int .i64 t311)) (fun _ hk => hk.2) (.slice Ao117 t312.length co117)) (fun _ h_ => h_.1))) hb); have n3_ := Aside0.mk (Kd.R_below (by (with_reducible repeat (first | apply Kd.R_alloc | apply Kd.R_drewN | apply Kd.R_drew)); exact (Kd.R_mono (Kd.R_far (p := ⟨gb316, 2, none⟩) (Kd.R_far (p := ⟨gb316, 1, none⟩) (Kd.R_far (p := ⟨gb316, 0, none⟩) (Kd.R_types HO309.out BK316.out (by decide)) (fun _ hk => hk.2) (.int .i64 t310)) (fun _ hk => hk.2) (.int .i64 t311)) (fun _ hk => hk.2) (.slice Ao117 t312.length co117)) (fun _ h_ => h_.1))) hb); have n4_ := Aside0.mk (Kd.R_below (by (with_reducible repeat (first | apply Kd.R_alloc | apply Kd.R_drewN | apply Kd.R_drew)); exact (Kd.R_mono (Kd.R_far (p := ⟨gb316, 2, none⟩) (Kd.R_far (p := ⟨gb316, 1, none⟩) (Kd.R_far (p := ⟨gb316, 0, none⟩) (Kd.R_types HO314.out BK316.out (by decide)) (fun _ hk => hk.2) (.int .i64 t310)) (fun _ hk => hk.2) (.int .i64 t311)) (fun _ hk => hk.2) (.slice Ao117 t312.length co117)) (fun _ h_ => h_.1))) hb); have n5_ := Aside0.mk (blk_below (g := gb265) (o := .cells #[.int .i64 a0_0, .int .i64 a0_1, .slice A0_2 l0_2.length c0_2] 24 (0, 0)) (by (with_reducible repeat (first | refine blk_drewN ?_ _ | refine blk_drew ?_ | refine blk_alloc ?_ _)); refine blk_far ?_ NB265_316.out _; (with_reducible repeat (first | refine blk_drewN ?_ _ | refine blk_drew ?_ | refine blk_alloc ?_ _)); refine blk_far ?_ NB265_316.out _; (with_reducible repeat (first | refine blk_drewN ?_ _ | refine blk_drew ?_ | refine blk_alloc ?_ _)); refine blk_far ?_ NB265_316.out _; (with_reducible repeat (first | refine blk_drewN ?_ _ | refine blk_drew ?_ | refine blk_alloc ?_ _)); exact BK265.out) hb); have n6_ := Aside0.mk (blk_below (g := gb278) (o := .cells #[.int .i64 t272, .int .i64 t273, .slice Ao23 t274.length co23] 29 (0, 0)) (by (with_reducible repeat (first | refine blk_drewN ?_ _ | refine blk_drew ?_ | refine blk_alloc ?_ _)); refine blk_far ?_ NB278_316.out _; (with_reducible repeat (first | refine blk_drewN ?_ _ | refine blk_drew ?_ | refine blk_alloc ?_ _)); refine blk_far ?_ NB278_316.out _; (with_reducible repeat (first | refine blk_drewN ?_ _ | refine blk_drew ?_ | refine blk_alloc ?_ _)); refine blk_far ?_ NB278_316.out _; (with_reducible repeat (first | refine blk_drewN ?_ _ | refine blk_drew ?_ | refine blk_alloc ?_ _)); exact BK278.out) hb); have n7_ := Aside0.mk (blk_below (g := gb284) (o := .cells #[.int .i64 t279, .int .i64 t280, .slice Ao30 t300.length co30] 29 (0, 0)) (by (with_reducible repeat (first | refine blk_drewN ?_ _ | refine blk_drew ?_ | refine blk_alloc ?_ _)); refine blk_far ?_ NB284_316.out _; (with_reducible repeat (first | refine blk_drewN ?_ _ | refine blk_drew ?_ | refine blk_alloc ?_ _)); refine blk_far ?_ NB284_316.out _; (with_reducible repeat (first | refine blk_drewN ?_ _ | refine blk_drew ?_ | refine blk_alloc ?_ _)); refine blk_far ?_ NB284_316.out _; (with_reducible repeat (first | refine blk_drewN ?_ _ | refine blk_drew ?_ | refine blk_alloc ?_ _)); exact BK284.out) hb); have n8_ := Aside0.mk (blk_below (g := gb291) (o := .cells #[.int .i64 t285, .int .i64 t286, .slice Ao37 t287.length co37] 29 (0, 0)) (by (with_reducible repeat (first | refine blk_drewN ?_ _ | refine blk_drew ?_ | refine blk_alloc ?_ _)); refine blk_far ?_ NB291_316.out _; (with_reducible repeat (first | refine blk_drewN ?_ _ | refine blk_drew ?_ | refine blk_alloc ?_ _)); refine blk_far ?_ NB291_316.out _; (with_reducible repeat (first | refine blk_drewN ?_ _ | refine blk_drew ?_ | refine blk_alloc ?_ _)); refine blk_far ?_ NB291_316.out _; (with_reducible repeat (first | refine blk_drewN ?_ _ | refine blk_drew ?_ | refine blk_alloc ?_ _)); exact BK291.out) hb); have n9_ := Aside0.mk (blk_below (g := gb316) (o := .cells #[.int .i64 t310, .int .i64 t311, .slice Ao117 t312.length co117] 29 (0, 0)) (by (with_reducible repeat (first | refine blk_drewN ?_ _ | refine blk_drew ?_ | refine blk_alloc ?_ _)); refine blk_put (cs := #[.int .i64 t310, .int .i64 t311, .slice none 0 0]) ?_ 2 _ rfl; (with_reducible repeat (first | refine blk_drewN ?_ _ | refine blk_drew ?_ | refine blk_alloc ?_ _)); refine blk_put (cs := #[.int .i64 t310, .int .i64 0, .slice none 0 0]) ?_ 1 _ rfl; (with_reducible repeat (first | refine blk_drewN ?_ _ | refine blk_drew ?_ | refine blk_alloc ?_ _)); refine blk_put (cs := #[.int .i64 0, .int .i64 0, .slice none 0 0]) ?_ 0 _ rfl; (with_reducible repeat (first | refine blk_drewN ?_ _ | refine blk_drew ?_ | refine blk_alloc ?_ _)); exact BK316.out) hb); have n10_ := Aside0.mk (below_step (hb5_ HB.out GE265.out GE278.out GE284.out GE291.out GE316.out) hb); clear HO_279002; clear HO_285002; clear HO_292002; clear HO309; clear HO314; clear BK265; clear BK278; clear BK284; clear BK291; clear BK316; clear HB; have HO_279002 := n0_; have HO_285002 := n1_; have HO_292002 := n2_; have HO309 := n3_; have HO314 := n4_; have BK265 := n5_; have BK278 := n6_; have BK284 := n7_; have BK291 := n8_; have BK316 := n9_; have HB := n10_; clear n0_ n1_ n2_ n3_ n4_ n5_ n6_ n7_ n8_ n9_ n10_; (try clear hb); (try clear hb2); (try clear hk); (try clear hi)))
                          go_meet
                          case rel => exact ⟨_, (true), (by first | rfl | (simp; done) | (simp [*]; done)), H', ⟨by have := HJ11.out; have := HJ60.out; first | omega | exact Nat.le_refl _⟩, ⟨by (try simp only [hl285002_60]); (with_reducible repeat (first | apply Kd.R_alloc | apply Kd.R_drewN | apply Kd.R_drew)); exact Kd.R_mono HO_279002.out (fun _ hk => ⟨hk.1.1.1, ⟨hk.1.1.2, hk.2⟩⟩)⟩, ⟨by (try simp only [hl285002_60]); (with_reducible repeat (first | apply Kd.R_alloc | apply Kd.R_drewN | apply Kd.R_drew)); exact Kd.R_mono HO_285002.out (fun _ hk => ⟨hk.1.1.1, ⟨hk.1.1.2, hk.2⟩⟩)⟩, ⟨by (try simp only [hl285002_60]); (with_reducible repeat (first | apply Kd.R_alloc | apply Kd.R_drewN | apply Kd.R_drew)); exact Kd.R_mono HO_292002.out (fun _ hk => ⟨hk.1.1.1, ⟨hk.1.1.2, hk.2⟩⟩)⟩, ⟨by (try simp only [hl285002_60]); (with_reducible repeat (first | apply Kd.R_alloc | apply Kd.R_drewN | apply Kd.R_drew)); exact Kd.R_mono HO314.out (fun _ hk => ⟨hk.1.1.1.2, ⟨hk.1.1.2, hk.1.2⟩⟩)⟩, ⟨by (try simp only [hl285002_60]); (with_reducible repeat (first | refine blk_drewN ?_ _ | refine blk_drew ?_ | refine blk_alloc ?_ _)); exact BK265.out⟩, ⟨by (try simp only [hl285002_60]); (with_reducible repeat (first | refine blk_drewN ?_ _ | refine blk_drew ?_ | refine blk_alloc ?_ _)); exact BK278.out⟩, ⟨by (try simp only [hl285002_60]); (with_reducible repeat (first | refine blk_drewN ?_ _ | refine blk_drew ?_ | refine blk_alloc ?_ _)); exact BK284.out⟩, ⟨by (try simp only [hl285002_60]); (with_reducible repeat (first | refine blk_drewN ?_ _ | refine blk_drew ?_ | refine blk_alloc ?_ _)); exact BK291.out⟩, ⟨by (try simp only [hl285002_60]); (with_reducible repeat (first | refine blk_drewN ?_ _ | refine blk_drew ?_ | refine blk_alloc ?_ _)); exact BK316.out⟩, ⟨hb5_ HB.out GE265.out GE278.out GE284.out GE291.out GE316.out⟩⟩
                      case rest =>
                        clear HC97
                        try clear c1
                        try clear c2
                        try clear p2
                        try clear c3
                        try clear c4
                        try clear c4b0
                        try clear c5
                        try clear c6
                        try clear c7
                        try clear c8
                        try clear c9
                        try clear c10
                        try clear c11
                        try clear c12
                        try clear c13
                        try clear c15
                        try clear c17
                        try clear c20
                        try clear c21
                        try clear c22
                        try clear c23
                        try clear c27
                        try clear c28
                        try clear c33
                        try clear c34
                        try clear c35
                        try clear c39
                        try clear c40
                        try clear c41
                        try clear c42
                        try clear c44
                        try clear c45
                        try clear c48
                        try clear c49
                        try clear c50
                        try clear c52
                        try clear c53
                        try clear c56
                        try clear c59
                        try clear c66
                        try clear c67
                        try clear c68
                        try clear c71
                        try clear c71b0
                        try clear c73
                        try clear c74
                        try clear c75
                        try clear c76
                        try clear c78
                        try clear c79
                        try clear c82
                        try clear c83
                        try clear c84
                        try clear c86
                        try clear c87
                        try clear c90
                        try clear c93
                        try clear c93b0
                        try clear c94
                        try clear c94b0
                        try clear c94b1
                        try clear c98
                        try clear c99
                        try clear c100
                        try clear c105
                        try clear c106
                        try clear c112
                        try clear c113
                        try clear c114
                        try clear c115
                        try clear c119
                        try clear c120
                        try clear c121
                        try clear c122
                        try clear c123
                        try clear c125
                        try clear c126
                        try clear c127
                        try clear c130
                        try clear c131
                        try clear c132
                        try clear c133
                        try clear c135
                        try clear c136
                        try clear c137
                        try clear hcz101_0
                        try clear hcz101_1
                        try clear hcz101_2
                        try clear hcz103_0
                        try clear hcz103_1
                        try clear hcz103_2
                        try clear hcz107_0
                        try clear hcz107_1
                        try clear hcz107_2
                        try clear hcz116_0
                        try clear hcz116_1
                        try clear hcz116_2
                        try clear hcz124_0
                        try clear hcz124_1
                        try clear hcz124_2
                        try clear hcz128_0
                        try clear hcz128_1
                        try clear hcz128_2
                        try clear hcz134_0
                        try clear hcz134_1
                        try clear hcz134_2
                        try clear hcz138_0
                        try clear hcz138_1
                        try clear hcz138_2
                        try clear hcz14_0
                        try clear hcz14_1
                        try clear hcz14_2
                        try clear hcz16_0
                        try clear hcz16_1
                        try clear hcz16_2
                        try clear hcz22_0
                        try clear hcz22_1
                        try clear hcz22_2
                        try clear hcz24_0
                        try clear hcz24_1
                        try clear hcz24_2
                        try clear hcz29_0
                        try clear hcz29_1
                        try clear hcz29_2
                        try clear hcz36_0
                        try clear hcz36_1
                        try clear hcz36_2
                        try clear hcz43_0
                        try clear hcz43_1
                        try clear hcz43_2
                        try clear hcz46_0
                        try clear hcz46_1
                        try clear hcz46_2
                        try clear hcz51_0
                        try clear hcz51_1
                        try clear hcz51_2
                        try clear hcz54_0
                        try clear hcz54_1
                        try clear hcz54_2
                        try clear hcz69_0
                        try clear hcz69_1
                        try clear hcz69_2
                        try clear hcz6_0
                        try clear hcz6_1
                        try clear hcz6_2
                        try clear hcz77_0
                        try clear hcz77_1
                        try clear hcz77_2
                        try clear hcz80_0
                        try clear hcz80_1
                        try clear hcz80_2
                        try clear hcz85_0
                        try clear hcz85_1
                        try clear hcz85_2
                        try clear hcz88_0
                        try clear hcz88_1
                        try clear hcz88_2
                        try clear hfz101_0
                        try clear hfz101_1
                        try clear hfz101_2
                        try clear hfz103_0
                        try clear hfz103_1
                        try clear hfz103_2
                        try clear hfz107_0
                        try clear hfz107_1
                        try clear hfz107_2
                        try clear hfz116_0
                        try clear hfz116_1
                        try clear hfz116_2
                        try clear hfz124_0
                        try clear hfz124_1
                        try clear hfz124_2
                        try clear hfz128_0
                        try clear hfz128_1
                        try clear hfz128_2
                        try clear hfz134_0
                        try clear hfz134_1
                        try clear hfz134_2
                        try clear hfz138_0
                        try clear hfz138_1
                        try clear hfz138_2
                        try clear hfz14_0
                        try clear hfz14_1
                        try clear hfz14_2
                        try clear hfz16_0
                        try clear hfz16_1
                        try clear hfz16_2
                        try clear hfz22_0
                        try clear hfz22_1
                        try clear hfz22_2
                        try clear hfz24_0
                        try clear hfz24_1
                        try clear hfz24_2
                        try clear hfz29_0
                        try clear hfz29_1
                        try clear hfz29_2
                        try clear hfz36_0
                        try clear hfz36_1
                        try clear hfz36_2
                        try clear hfz43_0
                        try clear hfz43_1
                        try clear hfz43_2
                        try clear hfz46_0
                        try clear hfz46_1
                        try clear hfz46_2
                        try clear hfz51_0
                        try clear hfz51_1
                        try clear hfz51_2
                        try clear hfz54_0
                        try clear hfz54_1
                        try clear hfz54_2
                        try clear hfz69_0
                        try clear hfz69_1
                        try clear hfz69_2
                        try clear hfz6_0
                        try clear hfz6_1
                        try clear hfz6_2
                        try clear hfz77_0
                        try clear hfz77_1
                        try clear hfz77_2
                        try clear hfz80_0
                        try clear hfz80_1
                        try clear hfz80_2
                        try clear hfz85_0
                        try clear hfz85_1
                        try clear hfz85_2
                        try clear hfz88_0
                        try clear hfz88_1
                        try clear hfz88_2
                        try clear p2
                        obtain ⟨kq, x92_96, rfl, HA, HJ96, HO_279002, HO_285002, HO_292002, HO_317002, BK265, BK278, BK284, BK291, BK316, HB⟩ := hcut
                        have hl292002_96 := (Kd.R_reads' HO_292002.out).1
                        rw [hl292002_96] at HO_292002
                        (try simp only [hl292002_96])
                        (try simp only [hl292002_96] at BK265)
                        (try simp only [hl292002_96] at BK278)
                        (try simp only [hl292002_96] at BK284)
                        (try simp only [hl292002_96] at BK291)
                        (try simp only [hl292002_96] at BK316)
                        (try simp only [hl292002_96] at HO_279002)
                        (try simp only [hl292002_96] at HO_285002)
                        (try simp only [hl292002_96] at HO_317002)
                        cases kq with
                        | zero => exact absurd HA.out (by simp [laws_FnExactPlanMoved.j2])
                        | succ kj96 =>
                          have H := HA.out
                          clear HA
                          simp only [laws_FnExactPlanMoved.j2] at H
                          by_cases c140 : x92_96 = true
                          · subst c140
                            have H1 : (some false) = some r := by rw [if_pos rfl] at H; exact H
                            clear H
                            have H := H1
                            clear H1
                            obtain rfl := Option.some.inj H
                            exact absurd hr_ (by decide)
                          · replace c140 := Bool.eq_false_iff.mpr c140
                            subst c140
                            have H1 : ((laws_heldPlan.f kj96 t285 t286 t303 1).bind fun t318 => (if t318 < 0 then (some false) else (if t318 = t302 then (some true) else (some false)))) = some r := by rw [if_neg (show ¬ (false = true) by decide)] at H; exact H
                            clear H
                            have H := H1
                            clear H1
                            replace H := Option.bind_eq_some_iff.mp H
                            obtain ⟨t318, A1410, H⟩ := H
                            replace H : (if t318 < 0 then (some false) else (if t318 = t302 then (some true) else (some false))) = some r := H
                            have A141 := Aside0.mk A1410
                            clear A1410
                            by_cases c142 : t318 < 0
                            · rw [if_pos c142] at H
                              have c142b0 : decide (t318 < 0) = true := decide_eq_true c142
                              clear c142
                              obtain rfl := Option.some.inj H
                              exact absurd hr_ (by decide)
                            · rw [if_neg c142] at H
                              have c142b0 : decide (t318 < 0) = false := decide_eq_false c142
                              clear c142
                              by_cases c143 : t318 = t302
                              · rw [if_pos c143] at H
                                have c143b0 : (t318 == t302) = true := beq_iff_eq.mpr c143
                                have c143b1 : (t318 != t302) = false := bne_eq_false_iff_eq.mpr c143
                                clear c143
                                obtain rfl := Option.some.inj H
                                have hnb144 := NB291_265.out
                                have hnc144 := NB265_291.out
                                have hnb145 := NB291_278.out
                                have hnc145 := NB278_291.out
                                have hnb146 := NB291_284.out
                                have hnc146 := NB284_291.out
                                have hnb147 := NB291_316.out
                                have hnc147 := NB316_291.out
                                have hcz148_0 := bc_ BK291.out 0 (.int .i64 t285) rfl
                                have hcz148_1 := bc_ BK291.out 1 (.int .i64 t286) rfl
                                have hcz148_2 := bc_ BK291.out 2 (.slice Ao37 t303.length co37) rfl
                                have hfz148_0 := blk_frozen BK291.out 0
                                have hfz148_1 := blk_frozen BK291.out 1
                                have hfz148_2 := blk_frozen BK291.out 2
                                go_wp2_with (first | ((with_reducible refine gate_callee (f := 23) rfl ?_); refine goesL_ (some 95) rfl rfl Try.func23 (by kernel_rfl) rfl #[.agg #[.int .i64 t285, .int .i64 t286, .slice Ao37 t303.length co37], .int .i64 1] rfl arr_ ?_; (with_reducible refine (laws_heldPlan.calls kj96 t285 t286 _ _ t303 1 t318 _ ?side1 ?side2 A141.out).mono ?_); (case side1 => repeat (first | exact (Kd.R_reads' HO_292002.out).2.2 | (with_reducible refine Kd.C_alloc ?_ _) | (with_reducible refine Kd.C_drewN ?_ _) | (with_reducible refine Kd.C_drew ?_))); (case side2 => exact (Kd.R_reads' HO_292002.out).2.1); rintro e w149 ⟨rfl, hb⟩; refine ⟨_, rfl, ?_⟩; have n0_ := Aside0.mk (Kd.R_below (by (with_reducible repeat (first | apply Kd.R_alloc | apply Kd.R_drewN | apply Kd.R_drew)); exact HO_279002.out) hb); have n1_ := Aside0.mk (Kd.R_below (by (with_reducible repeat (first | apply Kd.R_alloc | apply Kd.R_drewN | apply Kd.R_drew)); exact HO_285002.out) hb); have n2_ := Aside0.mk (Kd.R_below (by (with_reducible repeat (first | apply Kd.R_alloc | apply Kd.R_drewN | apply Kd.R_drew)); exact HO_292002.out) hb); have n3_ := Aside0.mk (Kd.R_below (by (with_reducible repeat (first | apply Kd.R_alloc | apply Kd.R_drewN | apply Kd.R_drew)); exact HO_317002.out) hb); have n4_ := Aside0.mk (bb_ BK265.out hb); have n5_ := Aside0.mk (bb_ BK278.out hb); have n6_ := Aside0.mk (bb_ BK284.out hb); have n7_ := Aside0.mk (bb_ BK291.out hb); have n8_ := Aside0.mk (bb_ BK316.out hb); have n9_ := Aside0.mk (below_step (hb5_ HB.out GE265.out GE278.out GE284.out GE291.out GE316.out) hb); clear HO_279002; clear HO_285002; clear HO_292002; clear HO_317002; clear BK265; clear BK278; clear BK284; clear BK291; clear BK316; clear HB; have HO_279002 := n0_; have HO_285002 := n1_; have HO_292002 := n2_; have HO_317002 := n3_; have BK265 := n4_; have BK278 := n5_; have BK284 := n6_; have BK291 := n7_; have BK316 := n8_; have HB := n9_; clear n0_ n1_ n2_ n3_ n4_ n5_ n6_ n7_ n8_ n9_; (try clear hb); (try clear hb2); (try clear hk); (try clear hi)))
                                go_ret
                                exact ⟨er_, hb5_ HB.out GE265.out GE278.out GE284.out GE291.out GE316.out⟩
                              · rw [if_neg c143] at H
                                have c143b0 : (t318 == t302) = false := beq_eq_false_iff_ne.mpr c143
                                have c143b1 : (t318 != t302) = true := bne_iff_ne.mpr c143
                                obtain rfl := Option.some.inj H
                                exact absurd hr_ (by decide)
                    · rw [if_neg c94] at H
                      have c94b0 : (t304 == t302) = false := beq_eq_false_iff_ne.mpr c94
                      have c94b1 : (t304 != t302) = true := bne_iff_ne.mpr c94
                      obtain rfl := Option.some.inj H
                      exact absurd hr_ (by decide)
          · replace c59 := Bool.eq_false_iff.mpr c59
            subst c59
            have H1 : (some false) = some r := by rw [if_neg (show ¬ (false = true) by decide)] at H; exact H
            clear H
            have H := H1
            clear H1
            obtain rfl := Option.some.inj H
            exact absurd hr_ (by decide)
end Go.Proofs.Ytakcaiigkdglhaa.P

