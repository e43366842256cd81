/- Texts of the seat's proofs, part 6: functions of the program told as plain functions, with their contracts, and what is shown of them. No condition. -/
import Derived.Test.YtknckcakcknbbaaU
import Derived.Test.YtknckcakcknbbaaM1
import Derived.Test.YtknckcakcknbbaaM3
import Derived.Test.YtknckcakcknbbaaM4
import Derived.Test.YtknckcakcknbbaaM5
import Derived.Test.YtknckcakcknbbaaM2
set_option linter.unusedVariables false
set_option linter.unusedSimpArgs false
namespace Go.Proofs.Ytknckcakcknbbaa.P
open Go.RowKit Go.Proofs.YtknckcakcknbbaaW.PrintWords Go.Proofs.YtknckcakcknbbaaW.PrintLast Go.Proofs.YtknckcakcknbbaaW.PrintMore
attribute [local go_sem] max2_int min2_int max_two min_two max_three min_three max_four min_four
set_option linter.unusedVariables false
set_option linter.unusedSimpArgs false
def laws_FnExactHeardNow.j0 : Nat → List (S75) → Int → List Int → List Int → Bool → Int → Int → List (S110) → Int → Int → Option (Bool)
  | 0, _, _, _, _, _, _, _, _, _, _ => none
  | k + 1, x0, x3, x10, x13, x73, x358000, x358001, x358002, x359000, x359001 => if x73 = true then (some false) else ((laws_markIntS.f k x13 1).bind fun bt404 => ((laws_heldIntS.f k bt404.2 1).bind fun t406 => (if t406 < 0 then (some false) else (if t406 = bt404.1 then ((laws_toHeardS.f k x0).bind fun t407 => ((laws_toPlan.f k x358000 x358001 x358002).bind fun bt410 => ((laws_toDrift.f x359000 x359001).bind fun bt415 => ((impl_HeardNow.f k t407 bt410.1 bt410.2.1 bt410.2.2 bt415.1 bt415.2 x3).bind fun t417 => ((laws_eqIntS.f k t417 x10).bind fun t420 => (if t420 = true then ((laws_heldIntS.f k bt404.2 1).bind fun t421 => (if t421 < 0 then (some false) else (if t421 = bt404.1 then (some true) else (some false)))) else (some false))))))) else (some false)))))
def laws_FnExactHeardNow.f (k : Nat) (l0 : List (S75)) (a1_0 : Int) (a1_1 : Int) (l1_2 : List (S110)) (a2_0 : Int) (a2_1 : Int) (a3 : Int) : Option (Bool) := (laws_szHeardS.f l0 1048576).bind fun t359 => (if t359 < 0 then (some true) else ((laws_szPlan.f a1_0 a1_1 l1_2 t359).bind fun t360 => (if t360 < 0 then (some true) else ((laws_toHeardS.f k l0).bind fun t361 => ((laws_toPlan.f k a1_0 a1_1 l1_2).bind fun bt364 => ((laws_toDrift.f a2_0 a2_1).bind fun bt369 => ((spec_HeardNow.f k t361 bt364.1 bt364.2.1 bt364.2.2 bt369.1 bt369.2 a3).bind fun t371 => ((laws_toHeardS.f k l0).bind fun t374 => ((laws_toPlan.f k a1_0 a1_1 l1_2).bind fun bt377 => ((laws_toDrift.f a2_0 a2_1).bind fun bt383 => ((impl_HeardNow.f k t374 bt377.1 bt377.2.1 bt377.2.2 bt383.1 bt383.2 a3).bind fun t385 => ((laws_eqIntS.f k t385 t371).bind fun t388 => (if t388 = true then ((laws_toHeardS.f k l0).bind fun t389 => ((laws_eqHeardS.f k t374 t389).bind fun t392 => (if t392 = true then ((laws_toPlan.f k a1_0 a1_1 l1_2).bind fun bt393 => ((laws_eqPlan.f k bt377.1 bt377.2.1 bt377.2.2 bt393.1 bt393.2.1 bt393.2.2).bind fun t398 => (if t398 = true then ((laws_markHeardS.f k t374 1).bind fun bt399 => ((laws_markPlan.f k bt377.1 bt377.2.1 bt377.2.2 bt399.1).bind fun bt401 => (if bt401.1 < 0 then (laws_FnExactHeardNow.j0 k l0 a3 t371 t385 true a1_0 a1_1 l1_2 a2_0 a2_1) else ((laws_eqIntS.f k t385 t371).bind fun t403 => (laws_FnExactHeardNow.j0 k l0 a3 t371 t385 (!t403) a1_0 a1_1 l1_2 a2_0 a2_1))))) else (some false)))) else (some false)))) else (some false))))))))))))))
theorem laws_FnExactHeardNow.mono_l : ∀ k, (∀ y0 y1 y2 y3 y4 y5 y6 y7 y8 y9, LeO (laws_FnExactHeardNow.j0 k y0 y1 y2 y3 y4 y5 y6 y7 y8 y9) (laws_FnExactHeardNow.j0 (k + 1) y0 y1 y2 y3 y4 y5 y6 y7 y8 y9))
  | 0 => fun _ _ _ _ _ _ _ _ _ _ r h => by simp [laws_FnExactHeardNow.j0] at h
  | k + 1 => by
    have ih0 := laws_FnExactHeardNow.mono_l k
    · intro y0 y1 y2 y3 y4 y5 y6 y7 y8 y9
      unfold laws_FnExactHeardNow.j0
      repeat' first
      | (with_reducible exact ih0 _ _ _ _ _ _ _ _ _ _)
      | (with_reducible exact impl_HeardNow.mono _ _ _ _ _ _ _ _)
      | (with_reducible exact laws_eqHeardS.mono _ _ _)
      | (with_reducible exact laws_eqIntS.mono _ _ _)
      | (with_reducible exact laws_eqPlan.mono _ _ _ _ _ _ _)
      | (with_reducible exact laws_heldIntS.mono _ _ _)
      | (with_reducible exact laws_markHeardS.mono _ _ _)
      | (with_reducible exact laws_markIntS.mono _ _ _)
      | (with_reducible exact laws_markPlan.mono _ _ _ _ _)
      | (with_reducible exact laws_toHeardS.mono _ _)
      | (with_reducible exact laws_toPlan.mono _ _ _ _)
      | (with_reducible exact spec_HeardNow.mono _ _ _ _ _ _ _ _)
      | (with_reducible exact LeO.refl _)
      | (with_reducible exact LeO.none _)
      | (with_reducible refine LeO.ite ?_ ?_)
      | (with_reducible refine LeO.bind ?_ (fun _ => ?_))
      | exact ih0 _ _ _ _ _ _ _ _ _ _
      | exact impl_HeardNow.mono _ _ _ _ _ _ _ _
      | exact laws_eqHeardS.mono _ _ _
      | exact laws_eqIntS.mono _ _ _
      | exact laws_eqPlan.mono _ _ _ _ _ _ _
      | exact laws_heldIntS.mono _ _ _
      | exact laws_markHeardS.mono _ _ _
      | exact laws_markIntS.mono _ _ _
      | exact laws_markPlan.mono _ _ _ _ _
      | exact laws_toHeardS.mono _ _
      | exact laws_toPlan.mono _ _ _ _
      | exact spec_HeardNow.mono _ _ _ _ _ _ _ _
      | exact LeO.none _
      | refine LeO.ite ?_ ?_
      | refine LeO.bind ?_ (fun _ => ?_)
theorem laws_FnExactHeardNow.mono : ∀ a0 a1 a2 a3 a4 a5 a6 k, LeO (laws_FnExactHeardNow.f k a0 a1 a2 a3 a4 a5 a6) (laws_FnExactHeardNow.f (k + 1) a0 a1 a2 a3 a4 a5 a6) := by
  intro a0 a1 a2 a3 a4 a5 a6 k
  have ih0 := laws_FnExactHeardNow.mono_l k
  unfold laws_FnExactHeardNow.f
  repeat' first
      | (with_reducible exact ih0 _ _ _ _ _ _ _ _ _ _)
      | (with_reducible exact impl_HeardNow.mono _ _ _ _ _ _ _ _)
      | (with_reducible exact laws_eqHeardS.mono _ _ _)
      | (with_reducible exact laws_eqIntS.mono _ _ _)
      | (with_reducible exact laws_eqPlan.mono _ _ _ _ _ _ _)
      | (with_reducible exact laws_heldIntS.mono _ _ _)
      | (with_reducible exact laws_markHeardS.mono _ _ _)
      | (with_reducible exact laws_markIntS.mono _ _ _)
      | (with_reducible exact laws_markPlan.mono _ _ _ _ _)
      | (with_reducible exact laws_toHeardS.mono _ _)
      | (with_reducible exact laws_toPlan.mono _ _ _ _)
      | (with_reducible exact spec_HeardNow.mono _ _ _ _ _ _ _ _)
      | (with_reducible exact LeO.refl _)
      | (with_reducible exact LeO.none _)
      | (with_reducible refine LeO.ite ?_ ?_)
      | (with_reducible refine LeO.bind ?_ (fun _ => ?_))
      | exact ih0 _ _ _ _ _ _ _ _ _ _
      | exact impl_HeardNow.mono _ _ _ _ _ _ _ _
      | exact laws_eqHeardS.mono _ _ _
      | exact laws_eqIntS.mono _ _ _
      | exact laws_eqPlan.mono _ _ _ _ _ _ _
      | exact laws_heldIntS.mono _ _ _
      | exact laws_markHeardS.mono _ _ _
      | exact laws_markIntS.mono _ _ _
      | exact laws_markPlan.mono _ _ _ _ _
      | exact laws_toHeardS.mono _ _
      | exact laws_toPlan.mono _ _ _ _
      | exact spec_HeardNow.mono _ _ _ _ _ _ _ _
      | exact LeO.none _
      | refine LeO.ite ?_ ?_
      | refine LeO.bind ?_ (fun _ => ?_)
def laws_FnExactHeardNow.T8 : Bool × List (List Nat × List Nat) := (true, [([], []), ([0], [0]), ([], []), ([2, 1], [2]), ([], []), ([4, 3], [4]), ([], []), ([1, 3, 5, 6, 5], [1, 3, 5, 6]), ([7, 7, 0, 1, 2, 3, 4, 5, 6, 7], [7])])
def laws_FnExactHeardNow.B8 : List Nat := [0, 1, 0, 7, 0, 31, 0, 127, 255]
theorem laws_FnExactHeardNow.tab8 : rtab .any (opsOf Try.f4 8) = laws_FnExactHeardNow.T8 := by kernel_rfl
theorem laws_FnExactHeardNow.bits8 : waitsOk laws_FnExactHeardNow.T8.2 laws_FnExactHeardNow.B8 = true := by kernel_rfl
def laws_FnExactHeardNow.T31 : Bool × List (List Nat × List Nat) := (true, [([], []), ([0], [0]), ([], []), ([2, 1], [2]), ([], []), ([4, 3], [4]), ([], []), ([1, 3, 5, 6, 5], [1, 3, 5, 6]), ([7, 7, 0, 1, 2, 3, 4, 5, 6, 7], [7])])
def laws_FnExactHeardNow.B31 : List Nat := [0, 1, 0, 7, 0, 31, 0, 127, 255]
theorem laws_FnExactHeardNow.tab31 : rtab .any (opsOf Try.f4 31) = laws_FnExactHeardNow.T31 := by kernel_rfl
theorem laws_FnExactHeardNow.bits31 : waitsOk laws_FnExactHeardNow.T31.2 laws_FnExactHeardNow.B31 = true := by kernel_rfl
set_option maxHeartbeats 8000000 in
set_option maxRecDepth 100000 in
theorem laws_FnExactHeardNow.calls (k : Nat) (A0 : Option Addr) (c0 : Nat) (l0 : List (S75)) (a1_0 : Int) (a1_1 : Int) (A1_2 : Option Addr) (c1_2 : Nat) (l1_2 : List (S110)) (a2_0 : Int) (a2_1 : Int) (a3 : Int) (r : Bool) (w : World) (hr0 : Kd.C k75 w A0 l0.length l0) (hc0 : l0.length ≤ c0) (hr1_2 : Kd.C k110 w A1_2 l1_2.length l1_2) (hc1_2 : l1_2.length ≤ c1_2) (hr_ : r = true) (h : laws_FnExactHeardNow.f k l0 a1_0 a1_1 l1_2 a2_0 a2_1 a3 = some r) :
    Calls Try.prog 4 #[.slice A0 l0.length c0, .agg #[.int .i64 a1_0, .int .i64 a1_1, .slice A1_2 l1_2.length c1_2], .agg #[.int .i64 a2_0, .int .i64 a2_1], .int .i64 a3] w fun e w' => e = .returned (.bool r) ∧ Below w.heap.size w w' := by
  have hu35 := Try.underlying35
  have hu37 := Try.underlying37
  have hu42 := Try.underlying42
  have HR0 := Aside0.mk hr0
  have HC0 := Aside0.mk hc0
  clear hr0 hc0
  have HR1_2 := Aside0.mk hr1_2
  have HC1_2 := Aside0.mk hc1_2
  clear hr1_2 hc1_2
  have HB := Aside0.mk (Below.refl w.heap.size w)
  have H : ((laws_szHeardS.f l0 1048576).bind fun t359 => (if t359 < 0 then (some true) else ((laws_szPlan.f a1_0 a1_1 l1_2 t359).bind fun t360 => (if t360 < 0 then (some true) else ((laws_toHeardS.f k l0).bind fun t361 => ((laws_toPlan.f k a1_0 a1_1 l1_2).bind fun bt364 => ((laws_toDrift.f a2_0 a2_1).bind fun bt369 => ((spec_HeardNow.f k t361 bt364.1 bt364.2.1 bt364.2.2 bt369.1 bt369.2 a3).bind fun t371 => ((laws_toHeardS.f k l0).bind fun t374 => ((laws_toPlan.f k a1_0 a1_1 l1_2).bind fun bt377 => ((laws_toDrift.f a2_0 a2_1).bind fun bt383 => ((impl_HeardNow.f k t374 bt377.1 bt377.2.1 bt377.2.2 bt383.1 bt383.2 a3).bind fun t385 => ((laws_eqIntS.f k t385 t371).bind fun t388 => (if t388 = true then ((laws_toHeardS.f k l0).bind fun t389 => ((laws_eqHeardS.f k t374 t389).bind fun t392 => (if t392 = true then ((laws_toPlan.f k a1_0 a1_1 l1_2).bind fun bt393 => ((laws_eqPlan.f k bt377.1 bt377.2.1 bt377.2.2 bt393.1 bt393.2.1 bt393.2.2).bind fun t398 => (if t398 = true then ((laws_markHeardS.f k t374 1).bind fun bt399 => ((laws_markPlan.f k bt377.1 bt377.2.1 bt377.2.2 bt399.1).bind fun bt401 => (if bt401.1 < 0 then (laws_FnExactHeardNow.j0 k l0 a3 t371 t385 true a1_0 a1_1 l1_2 a2_0 a2_1) else ((laws_eqIntS.f k t385 t371).bind fun t403 => (laws_FnExactHeardNow.j0 k l0 a3 t371 t385 (!t403) a1_0 a1_1 l1_2 a2_0 a2_1))))) else (some false)))) else (some false)))) else (some false))))))))))))))) = some r := h
  clear h
  replace H := Option.bind_eq_some_iff.mp H
  obtain ⟨t359, A50, H⟩ := H
  replace H : (if t359 < 0 then (some true) else ((laws_szPlan.f a1_0 a1_1 l1_2 t359).bind fun t360 => (if t360 < 0 then (some true) else ((laws_toHeardS.f k l0).bind fun t361 => ((laws_toPlan.f k a1_0 a1_1 l1_2).bind fun bt364 => ((laws_toDrift.f a2_0 a2_1).bind fun bt369 => ((spec_HeardNow.f k t361 bt364.1 bt364.2.1 bt364.2.2 bt369.1 bt369.2 a3).bind fun t371 => ((laws_toHeardS.f k l0).bind fun t374 => ((laws_toPlan.f k a1_0 a1_1 l1_2).bind fun bt377 => ((laws_toDrift.f a2_0 a2_1).bind fun bt383 => ((impl_HeardNow.f k t374 bt377.1 bt377.2.1 bt377.2.2 bt383.1 bt383.2 a3).bind fun t385 => ((laws_eqIntS.f k t385 t371).bind fun t388 => (if t388 = true then ((laws_toHeardS.f k l0).bind fun t389 => ((laws_eqHeardS.f k t374 t389).bind fun t392 => (if t392 = true then ((laws_toPlan.f k a1_0 a1_1 l1_2).bind fun bt393 => ((laws_eqPlan.f k bt377.1 bt377.2.1 bt377.2.2 bt393.1 bt393.2.1 bt393.2.2).bind fun t398 => (if t398 = true then ((laws_markHeardS.f k t374 1).bind fun bt399 => ((laws_markPlan.f k bt377.1 bt377.2.1 bt377.2.2 bt399.1).bind fun bt401 => (if bt401.1 < 0 then (laws_FnExactHeardNow.j0 k l0 a3 t371 t385 true a1_0 a1_1 l1_2 a2_0 a2_1) else ((laws_eqIntS.f k t385 t371).bind fun t403 => (laws_FnExactHeardNow.j0 k l0 a3 t371 t385 (!t403) a1_0 a1_1 l1_2 a2_0 a2_1))))) else (some false)))) else (some false)))) else (some false)))))))))))))) = some r := H
  have A5 := Aside0.mk A50
  clear A50
  by_cases c6 : t359 < 0
  · rw [if_pos c6] at H
    have c6b0 : decide (t359 < 0) = true := decide_eq_true c6
    clear c6
    obtain rfl := Option.some.inj H
    go_enter Try.func4, Try.ntmps4
    go_wp2_with (first | ((with_reducible refine gate_dst (N := 5) rfl ?_); refine box_event ?hg (N := 5) ?hd (cs := #[.int .i64 a1_0, .int .i64 a1_1, .slice A1_2 l1_2.length c1_2]) (t := 35) ?hr ?_; (case hd => rfl); (case hg => rfl); (case hr => first | (go_simp; done) | (go_simp; rfl)); intro gb357 hg w7 hbox hb; have n0_ := Aside0.mk (below_step (hb_ HB.out) hb); have n1_ := Aside0.mk (hbox); have n2_ := Aside0.mk ((by rw [hg]; exact (below_size (hb_ HB.out)) : w.heap.size ≤ gb357)); have n3_ := Aside0.mk ((by rw [hg]; exact (below_size (hb_ HB.out)) : w.heap.size ≤ gb357)); clear HB; have HB := n0_; have BK357 := n1_; have GW357 := n2_; have GE357 := n3_; clear n0_ n1_ n2_ n3_; clear hb hbox hg) | ((with_reducible refine gate_dst (N := 6) rfl ?_); refine box_event ?hg (N := 6) ?hd (cs := #[.int .i64 a2_0, .int .i64 a2_1]) (t := 37) ?hr ?_; (case hd => rfl); (case hg => rfl); (case hr => first | (go_simp; done) | (go_simp; rfl)); intro gb358 hg w8 hbox hb; have n0_ := Aside0.mk (bb_ BK357.out hb); have n1_ := Aside0.mk (below_step (hb1_ HB.out GE357.out) hb); have n2_ := Aside0.mk (hbox); have n3_ := Aside0.mk ((by rw [hg]; exact (below_size (hb1_ HB.out GE357.out)) : w.heap.size ≤ gb358)); have n4_ := Aside0.mk ((by rw [hg]; exact (below_size (hb1_ HB.out GE357.out)) : w.heap.size ≤ gb358)); have n5_ := Aside0.mk ((bl_ hg BK357.out : gb357 ≠ gb358)); have n6_ := Aside0.mk ((bg_ hg BK357.out : gb358 ≠ gb357)); clear BK357; clear HB; have BK357 := n0_; have HB := n1_; have BK358 := n2_; have GW358 := n3_; have GE358 := n4_; have NB357_358 := n5_; have NB358_357 := n6_; clear n0_ n1_ n2_ n3_ n4_ n5_ n6_; clear hb hbox hg) | ((with_reducible refine gate_callee (f := 9) rfl ?_); refine goesL_ (some 20) rfl rfl Try.func9 (by kernel_rfl) rfl #[.slice A0 l0.length c0, .int .i64 1048576] rfl arr_ ?_; (with_reducible refine (laws_szHeardS.calls _ _ l0 1048576 t359 _ ?side1 ?side2 A5.out).mono ?_); (case side1 => exact kc_ (Kd.C_below HR0.out HB.out)); (case side2 => exact HC0.out); rintro e w' ⟨rfl, ⟨nd, rfl⟩⟩; refine ⟨_, rfl, ?_⟩))
    go_ret
    exact ⟨er_, hb2_ HB.out GE357.out GE358.out⟩
  · rw [if_neg c6] at H
    have c6b0 : decide (t359 < 0) = false := decide_eq_false c6
    clear c6
    replace H := Option.bind_eq_some_iff.mp H
    obtain ⟨t360, A90, H⟩ := H
    replace H : (if t360 < 0 then (some true) else ((laws_toHeardS.f k l0).bind fun t361 => ((laws_toPlan.f k a1_0 a1_1 l1_2).bind fun bt364 => ((laws_toDrift.f a2_0 a2_1).bind fun bt369 => ((spec_HeardNow.f k t361 bt364.1 bt364.2.1 bt364.2.2 bt369.1 bt369.2 a3).bind fun t371 => ((laws_toHeardS.f k l0).bind fun t374 => ((laws_toPlan.f k a1_0 a1_1 l1_2).bind fun bt377 => ((laws_toDrift.f a2_0 a2_1).bind fun bt383 => ((impl_HeardNow.f k t374 bt377.1 bt377.2.1 bt377.2.2 bt383.1 bt383.2 a3).bind fun t385 => ((laws_eqIntS.f k t385 t371).bind fun t388 => (if t388 = true then ((laws_toHeardS.f k l0).bind fun t389 => ((laws_eqHeardS.f k t374 t389).bind fun t392 => (if t392 = true then ((laws_toPlan.f k a1_0 a1_1 l1_2).bind fun bt393 => ((laws_eqPlan.f k bt377.1 bt377.2.1 bt377.2.2 bt393.1 bt393.2.1 bt393.2.2).bind fun t398 => (if t398 = true then ((laws_markHeardS.f k t374 1).bind fun bt399 => ((laws_markPlan.f k bt377.1 bt377.2.1 bt377.2.2 bt399.1).bind fun bt401 => (if bt401.1 < 0 then (laws_FnExactHeardNow.j0 k l0 a3 t371 t385 true a1_0 a1_1 l1_2 a2_0 a2_1) else ((laws_eqIntS.f k t385 t371).bind fun t403 => (laws_FnExactHeardNow.j0 k l0 a3 t371 t385 (!t403) a1_0 a1_1 l1_2 a2_0 a2_1))))) else (some false)))) else (some false)))) else (some false)))))))))))) = some r := H
    have A9 := Aside0.mk A90
    clear A90
    by_cases c10 : t360 < 0
    · rw [if_pos c10] at H
      have c10b0 : decide (t360 < 0) = true := decide_eq_true c10
      clear c10
      obtain rfl := Option.some.inj H
      go_enter Try.func4, Try.ntmps4
      go_wp2_with (first | ((with_reducible refine gate_dst (N := 5) rfl ?_); refine box_event ?hg (N := 5) ?hd (cs := #[.int .i64 a1_0, .int .i64 a1_1, .slice A1_2 l1_2.length c1_2]) (t := 35) ?hr ?_; (case hd => rfl); (case hg => rfl); (case hr => first | (go_simp; done) | (go_simp; rfl)); intro gb357 hg w11 hbox hb; have n0_ := Aside0.mk (below_step (hb_ HB.out) hb); have n1_ := Aside0.mk (hbox); have n2_ := Aside0.mk ((by rw [hg]; exact (below_size (hb_ HB.out)) : w.heap.size ≤ gb357)); have n3_ := Aside0.mk ((by rw [hg]; exact (below_size (hb_ HB.out)) : w.heap.size ≤ gb357)); clear HB; have HB := n0_; have BK357 := n1_; have GW357 := n2_; have GE357 := n3_; clear n0_ n1_ n2_ n3_; clear hb hbox hg) | ((with_reducible refine gate_dst (N := 6) rfl ?_); refine box_event ?hg (N := 6) ?hd (cs := #[.int .i64 a2_0, .int .i64 a2_1]) (t := 37) ?hr ?_; (case hd => rfl); (case hg => rfl); (case hr => first | (go_simp; done) | (go_simp; rfl)); intro gb358 hg w12 hbox hb; have n0_ := Aside0.mk (bb_ BK357.out hb); have n1_ := Aside0.mk (below_step (hb1_ HB.out GE357.out) hb); have n2_ := Aside0.mk (hbox); have n3_ := Aside0.mk ((by rw [hg]; exact (below_size (hb1_ HB.out GE357.out)) : w.heap.size ≤ gb358)); have n4_ := Aside0.mk ((by rw [hg]; exact (below_size (hb1_ HB.out GE357.out)) : w.heap.size ≤ gb358)); have n5_ := Aside0.mk ((bl_ hg BK357.out : gb357 ≠ gb358)); have n6_ := Aside0.mk ((bg_ hg BK357.out : gb358 ≠ gb357)); clear BK357; clear HB; have BK357 := n0_; have HB := n1_; have BK358 := n2_; have GW358 := n3_; have GE358 := n4_; have NB357_358 := n5_; have NB358_357 := n6_; clear n0_ n1_ n2_ n3_ n4_ n5_ n6_; clear hb hbox hg) | ((with_reducible refine gate_callee (f := 9) rfl ?_); refine goesL_ (some 20) rfl rfl Try.func9 (by kernel_rfl) rfl #[.slice A0 l0.length c0, .int .i64 1048576] rfl arr_ ?_; (with_reducible refine (laws_szHeardS.calls _ _ l0 1048576 t359 _ ?side1 ?side2 A5.out).mono ?_); (case side1 => exact kc_ (Kd.C_below HR0.out HB.out)); (case side2 => exact HC0.out); rintro e w' ⟨rfl, ⟨nd, rfl⟩⟩; refine ⟨_, rfl, ?_⟩; have hnb13 := NB357_358.out; have hnc13 := NB358_357.out; have hcz14_0 := bc_ BK357.out 0 (.int .i64 a1_0) rfl; have hcz14_1 := bc_ BK357.out 1 (.int .i64 a1_1) rfl; have hcz14_2 := bc_ BK357.out 2 (.slice A1_2 l1_2.length c1_2) rfl; have hfz14_0 := blk_frozen BK357.out 0; have hfz14_1 := blk_frozen BK357.out 1; have hfz14_2 := blk_frozen BK357.out 2) | ((with_reducible refine gate_callee (f := 18) rfl ?_); refine goesL_ (some 25) rfl rfl Try.func18 (by kernel_rfl) rfl #[.agg #[.int .i64 a1_0, .int .i64 a1_1, .slice A1_2 l1_2.length c1_2], .int .i64 t359] rfl arr_ ?_; (with_reducible refine (laws_szPlan.calls a1_0 a1_1 _ _ l1_2 t359 t360 _ ?side1 ?side2 A9.out).mono ?_); (case side1 => repeat (first | exact (Kd.C_below HR1_2.out (hb2_ HB.out GE357.out GE358.out)) | (with_reducible refine Kd.C_alloc ?_ _) | (with_reducible refine Kd.C_drewN ?_ _) | (with_reducible refine Kd.C_drew ?_))); (case side2 => exact HC1_2.out); rintro e w15 ⟨rfl, hb⟩; refine ⟨_, rfl, ?_⟩; have n0_ := Aside0.mk (bb_ BK357.out hb); have n1_ := Aside0.mk (bb_ BK358.out hb); have n2_ := Aside0.mk (below_step (hb2_ HB.out GE357.out GE358.out) hb); clear BK357; clear BK358; clear HB; have BK357 := n0_; have BK358 := n1_; have HB := n2_; clear n0_ n1_ n2_; (try clear hb); (try clear hb2); (try clear hk); (try clear hi)))
      go_ret
      exact ⟨er_, hb2_ HB.out GE357.out GE358.out⟩
    · rw [if_neg c10] at H
      have c10b0 : decide (t360 < 0) = false := decide_eq_false c10
      clear c10
      replace H := Option.bind_eq_some_iff.mp H
      obtain ⟨t361, A160, H⟩ := H
      replace H : ((laws_toPlan.f k a1_0 a1_1 l1_2).bind fun bt364 => ((laws_toDrift.f a2_0 a2_1).bind fun bt369 => ((spec_HeardNow.f k t361 bt364.1 bt364.2.1 bt364.2.2 bt369.1 bt369.2 a3).bind fun t371 => ((laws_toHeardS.f k l0).bind fun t374 => ((laws_toPlan.f k a1_0 a1_1 l1_2).bind fun bt377 => ((laws_toDrift.f a2_0 a2_1).bind fun bt383 => ((impl_HeardNow.f k t374 bt377.1 bt377.2.1 bt377.2.2 bt383.1 bt383.2 a3).bind fun t385 => ((laws_eqIntS.f k t385 t371).bind fun t388 => (if t388 = true then ((laws_toHeardS.f k l0).bind fun t389 => ((laws_eqHeardS.f k t374 t389).bind fun t392 => (if t392 = true then ((laws_toPlan.f k a1_0 a1_1 l1_2).bind fun bt393 => ((laws_eqPlan.f k bt377.1 bt377.2.1 bt377.2.2 bt393.1 bt393.2.1 bt393.2.2).bind fun t398 => (if t398 = true then ((laws_markHeardS.f k t374 1).bind fun bt399 => ((laws_markPlan.f k bt377.1 bt377.2.1 bt377.2.2 bt399.1).bind fun bt401 => (if bt401.1 < 0 then (laws_FnExactHeardNow.j0 k l0 a3 t371 t385 true a1_0 a1_1 l1_2 a2_0 a2_1) else ((laws_eqIntS.f k t385 t371).bind fun t403 => (laws_FnExactHeardNow.j0 k l0 a3 t371 t385 (!t403) a1_0 a1_1 l1_2 a2_0 a2_1))))) else (some false)))) else (some false)))) else (some false)))))))))) = some r := H
      have A16 := Aside0.mk A160
      clear A160
      replace H := Option.bind_eq_some_iff.mp H
      obtain ⟨⟨t364, t365, t366⟩, A170, H⟩ := H
      replace H : ((laws_toDrift.f a2_0 a2_1).bind fun bt369 => ((spec_HeardNow.f k t361 t364 t365 t366 bt369.1 bt369.2 a3).bind fun t371 => ((laws_toHeardS.f k l0).bind fun t374 => ((laws_toPlan.f k a1_0 a1_1 l1_2).bind fun bt377 => ((laws_toDrift.f a2_0 a2_1).bind fun bt383 => ((impl_HeardNow.f k t374 bt377.1 bt377.2.1 bt377.2.2 bt383.1 bt383.2 a3).bind fun t385 => ((laws_eqIntS.f k t385 t371).bind fun t388 => (if t388 = true then ((laws_toHeardS.f k l0).bind fun t389 => ((laws_eqHeardS.f k t374 t389).bind fun t392 => (if t392 = true then ((laws_toPlan.f k a1_0 a1_1 l1_2).bind fun bt393 => ((laws_eqPlan.f k bt377.1 bt377.2.1 bt377.2.2 bt393.1 bt393.2.1 bt393.2.2).bind fun t398 => (if t398 = true then ((laws_markHeardS.f k t374 1).bind fun bt399 => ((laws_markPlan.f k bt377.1 bt377.2.1 bt377.2.2 bt399.1).bind fun bt401 => (if bt401.1 < 0 then (laws_FnExactHeardNow.j0 k l0 a3 t371 t385 true a1_0 a1_1 l1_2 a2_0 a2_1) else ((laws_eqIntS.f k t385 t371).bind fun t403 => (laws_FnExactHeardNow.j0 k l0 a3 t371 t385 (!t403) a1_0 a1_1 l1_2 a2_0 a2_1))))) else (some false)))) else (some false)))) else (some false))))))))) = some r := H
      have A17 := Aside0.mk A170
      clear A170
      replace H := Option.bind_eq_some_iff.mp H
      obtain ⟨⟨t369, t370⟩, A180, H⟩ := H
      replace H : ((spec_HeardNow.f k t361 t364 t365 t366 t369 t370 a3).bind fun t371 => ((laws_toHeardS.f k l0).bind fun t374 => ((laws_toPlan.f k a1_0 a1_1 l1_2).bind fun bt377 => ((laws_toDrift.f a2_0 a2_1).bind fun bt383 => ((impl_HeardNow.f k t374 bt377.1 bt377.2.1 bt377.2.2 bt383.1 bt383.2 a3).bind fun t385 => ((laws_eqIntS.f k t385 t371).bind fun t388 => (if t388 = true then ((laws_toHeardS.f k l0).bind fun t389 => ((laws_eqHeardS.f k t374 t389).bind fun t392 => (if t392 = true then ((laws_toPlan.f k a1_0 a1_1 l1_2).bind fun bt393 => ((laws_eqPlan.f k bt377.1 bt377.2.1 bt377.2.2 bt393.1 bt393.2.1 bt393.2.2).bind fun t398 => (if t398 = true then ((laws_markHeardS.f k t374 1).bind fun bt399 => ((laws_markPlan.f k bt377.1 bt377.2.1 bt377.2.2 bt399.1).bind fun bt401 => (if bt401.1 < 0 then (laws_FnExactHeardNow.j0 k l0 a3 t371 t385 true a1_0 a1_1 l1_2 a2_0 a2_1) else ((laws_eqIntS.f k t385 t371).bind fun t403 => (laws_FnExactHeardNow.j0 k l0 a3 t371 t385 (!t403) a1_0 a1_1 l1_2 a2_0 a2_1))))) else (some false)))) else (some false)))) else (some false)))))))) = some r := H
      have A18 := Aside0.mk A180
      clear A180
      replace H := Option.bind_eq_some_iff.mp H
      obtain ⟨t371, A190, H⟩ := H
      replace H : ((laws_toHeardS.f k l0).bind fun t374 => ((laws_toPlan.f k a1_0 a1_1 l1_2).bind fun bt377 => ((laws_toDrift.f a2_0 a2_1).bind fun bt383 => ((impl_HeardNow.f k t374 bt377.1 bt377.2.1 bt377.2.2 bt383.1 bt383.2 a3).bind fun t385 => ((laws_eqIntS.f k t385 t371).bind fun t388 => (if t388 = true then ((laws_toHeardS.f k l0).bind fun t389 => ((laws_eqHeardS.f k t374 t389).bind fun t392 => (if t392 = true then ((laws_toPlan.f k a1_0 a1_1 l1_2).bind fun bt393 => ((laws_eqPlan.f k bt377.1 bt377.2.1 bt377.2.2 bt393.1 bt393.2.1 bt393.2.2).bind fun t398 => (if t398 = true then ((laws_markHeardS.f k t374 1).bind fun bt399 => ((laws_markPlan.f k bt377.1 bt377.2.1 bt377.2.2 bt399.1).bind fun bt401 => (if bt401.1 < 0 then (laws_FnExactHeardNow.j0 k l0 a3 t371 t385 true a1_0 a1_1 l1_2 a2_0 a2_1) else ((laws_eqIntS.f k t385 t371).bind fun t403 => (laws_FnExactHeardNow.j0 k l0 a3 t371 t385 (!t403) a1_0 a1_1 l1_2 a2_0 a2_1))))) else (some false)))) else (some false)))) else (some false))))))) = some r := H
      have A19 := Aside0.mk A190
      clear A190
      replace H := Option.bind_eq_some_iff.mp H
      obtain ⟨t374, A200, H⟩ := H
      replace H : ((laws_toPlan.f k a1_0 a1_1 l1_2).bind fun bt377 => ((laws_toDrift.f a2_0 a2_1).bind fun bt383 => ((impl_HeardNow.f k t374 bt377.1 bt377.2.1 bt377.2.2 bt383.1 bt383.2 a3).bind fun t385 => ((laws_eqIntS.f k t385 t371).bind fun t388 => (if t388 = true then ((laws_toHeardS.f k l0).bind fun t389 => ((laws_eqHeardS.f k t374 t389).bind fun t392 => (if t392 = true then ((laws_toPlan.f k a1_0 a1_1 l1_2).bind fun bt393 => ((laws_eqPlan.f k bt377.1 bt377.2.1 bt377.2.2 bt393.1 bt393.2.1 bt393.2.2).bind fun t398 => (if t398 = true then ((laws_markHeardS.f k t374 1).bind fun bt399 => ((laws_markPlan.f k bt377.1 bt377.2.1 bt377.2.2 bt399.1).bind fun bt401 => (if bt401.1 < 0 then (laws_FnExactHeardNow.j0 k l0 a3 t371 t385 true a1_0 a1_1 l1_2 a2_0 a2_1) else ((laws_eqIntS.f k t385 t371).bind fun t403 => (laws_FnExactHeardNow.j0 k l0 a3 t371 t385 (!t403) a1_0 a1_1 l1_2 a2_0 a2_1))))) else (some false)))) else (some false)))) else (some false)))))) = some r := H
      have A20 := Aside0.mk A200
      clear A200
      replace H := Option.bind_eq_some_iff.mp H
      obtain ⟨⟨t377, t378, t379⟩, A210, H⟩ := H
      replace H : ((laws_toDrift.f a2_0 a2_1).bind fun bt383 => ((impl_HeardNow.f k t374 t377 t378 t379 bt383.1 bt383.2 a3).bind fun t385 => ((laws_eqIntS.f k t385 t371).bind fun t388 => (if t388 = true then ((laws_toHeardS.f k l0).bind fun t389 => ((laws_eqHeardS.f k t374 t389).bind fun t392 => (if t392 = true then ((laws_toPlan.f k a1_0 a1_1 l1_2).bind fun bt393 => ((laws_eqPlan.f k t377 t378 t379 bt393.1 bt393.2.1 bt393.2.2).bind fun t398 => (if t398 = true then ((laws_markHeardS.f k t374 1).bind fun bt399 => ((laws_markPlan.f k t377 t378 t379 bt399.1).bind fun bt401 => (if bt401.1 < 0 then (laws_FnExactHeardNow.j0 k l0 a3 t371 t385 true a1_0 a1_1 l1_2 a2_0 a2_1) else ((laws_eqIntS.f k t385 t371).bind fun t403 => (laws_FnExactHeardNow.j0 k l0 a3 t371 t385 (!t403) a1_0 a1_1 l1_2 a2_0 a2_1))))) else (some false)))) else (some false)))) else (some false))))) = some r := H
      have A21 := Aside0.mk A210
      clear A210
      replace H := Option.bind_eq_some_iff.mp H
      obtain ⟨⟨t383, t384⟩, A220, H⟩ := H
      replace H : ((impl_HeardNow.f k t374 t377 t378 t379 t383 t384 a3).bind fun t385 => ((laws_eqIntS.f k t385 t371).bind fun t388 => (if t388 = true then ((laws_toHeardS.f k l0).bind fun t389 => ((laws_eqHeardS.f k t374 t389).bind fun t392 => (if t392 = true then ((laws_toPlan.f k a1_0 a1_1 l1_2).bind fun bt393 => ((laws_eqPlan.f k t377 t378 t379 bt393.1 bt393.2.1 bt393.2.2).bind fun t398 => (if t398 = true then ((laws_markHeardS.f k t374 1).bind fun bt399 => ((laws_markPlan.f k t377 t378 t379 bt399.1).bind fun bt401 => (if bt401.1 < 0 then (laws_FnExactHeardNow.j0 k l0 a3 t371 t385 true a1_0 a1_1 l1_2 a2_0 a2_1) else ((laws_eqIntS.f k t385 t371).bind fun t403 => (laws_FnExactHeardNow.j0 k l0 a3 t371 t385 (!t403) a1_0 a1_1 l1_2 a2_0 a2_1))))) else (some false)))) else (some false)))) else (some false)))) = some r := H
      have A22 := Aside0.mk A220
      clear A220
      replace H := Option.bind_eq_some_iff.mp H
      obtain ⟨t385, A230, H⟩ := H
      replace H : ((laws_eqIntS.f k t385 t371).bind fun t388 => (if t388 = true then ((laws_toHeardS.f k l0).bind fun t389 => ((laws_eqHeardS.f k t374 t389).bind fun t392 => (if t392 = true then ((laws_toPlan.f k a1_0 a1_1 l1_2).bind fun bt393 => ((laws_eqPlan.f k t377 t378 t379 bt393.1 bt393.2.1 bt393.2.2).bind fun t398 => (if t398 = true then ((laws_markHeardS.f k t374 1).bind fun bt399 => ((laws_markPlan.f k t377 t378 t379 bt399.1).bind fun bt401 => (if bt401.1 < 0 then (laws_FnExactHeardNow.j0 k l0 a3 t371 t385 true a1_0 a1_1 l1_2 a2_0 a2_1) else ((laws_eqIntS.f k t385 t371).bind fun t403 => (laws_FnExactHeardNow.j0 k l0 a3 t371 t385 (!t403) a1_0 a1_1 l1_2 a2_0 a2_1))))) else (some false)))) else (some false)))) else (some false))) = some r := H
      have A23 := Aside0.mk A230
      clear A230
      replace H := Option.bind_eq_some_iff.mp H
      obtain ⟨t388, A240, H⟩ := H
      replace H : (if t388 = true then ((laws_toHeardS.f k l0).bind fun t389 => ((laws_eqHeardS.f k t374 t389).bind fun t392 => (if t392 = true then ((laws_toPlan.f k a1_0 a1_1 l1_2).bind fun bt393 => ((laws_eqPlan.f k t377 t378 t379 bt393.1 bt393.2.1 bt393.2.2).bind fun t398 => (if t398 = true then ((laws_markHeardS.f k t374 1).bind fun bt399 => ((laws_markPlan.f k t377 t378 t379 bt399.1).bind fun bt401 => (if bt401.1 < 0 then (laws_FnExactHeardNow.j0 k l0 a3 t371 t385 true a1_0 a1_1 l1_2 a2_0 a2_1) else ((laws_eqIntS.f k t385 t371).bind fun t403 => (laws_FnExactHeardNow.j0 k l0 a3 t371 t385 (!t403) a1_0 a1_1 l1_2 a2_0 a2_1))))) else (some false)))) else (some false)))) else (some false)) = some r := H
      have A24 := Aside0.mk A240
      clear A240
      by_cases c25 : t388 = true
      · subst c25
        have H1 : ((laws_toHeardS.f k l0).bind fun t389 => ((laws_eqHeardS.f k t374 t389).bind fun t392 => (if t392 = true then ((laws_toPlan.f k a1_0 a1_1 l1_2).bind fun bt393 => ((laws_eqPlan.f k t377 t378 t379 bt393.1 bt393.2.1 bt393.2.2).bind fun t398 => (if t398 = true then ((laws_markHeardS.f k t374 1).bind fun bt399 => ((laws_markPlan.f k t377 t378 t379 bt399.1).bind fun bt401 => (if bt401.1 < 0 then (laws_FnExactHeardNow.j0 k l0 a3 t371 t385 true a1_0 a1_1 l1_2 a2_0 a2_1) else ((laws_eqIntS.f k t385 t371).bind fun t403 => (laws_FnExactHeardNow.j0 k l0 a3 t371 t385 (!t403) a1_0 a1_1 l1_2 a2_0 a2_1))))) else (some false)))) else (some false)))) = some r := by rw [if_pos rfl] at H; exact H
        clear H
        have H := H1
        clear H1
        replace H := Option.bind_eq_some_iff.mp H
        obtain ⟨t389, A260, H⟩ := H
        replace H : ((laws_eqHeardS.f k t374 t389).bind fun t392 => (if t392 = true then ((laws_toPlan.f k a1_0 a1_1 l1_2).bind fun bt393 => ((laws_eqPlan.f k t377 t378 t379 bt393.1 bt393.2.1 bt393.2.2).bind fun t398 => (if t398 = true then ((laws_markHeardS.f k t374 1).bind fun bt399 => ((laws_markPlan.f k t377 t378 t379 bt399.1).bind fun bt401 => (if bt401.1 < 0 then (laws_FnExactHeardNow.j0 k l0 a3 t371 t385 true a1_0 a1_1 l1_2 a2_0 a2_1) else ((laws_eqIntS.f k t385 t371).bind fun t403 => (laws_FnExactHeardNow.j0 k l0 a3 t371 t385 (!t403) a1_0 a1_1 l1_2 a2_0 a2_1))))) else (some false)))) else (some false))) = some r := H
        have A26 := Aside0.mk A260
        clear A260
        replace H := Option.bind_eq_some_iff.mp H
        obtain ⟨t392, A270, H⟩ := H
        replace H : (if t392 = true then ((laws_toPlan.f k a1_0 a1_1 l1_2).bind fun bt393 => ((laws_eqPlan.f k t377 t378 t379 bt393.1 bt393.2.1 bt393.2.2).bind fun t398 => (if t398 = true then ((laws_markHeardS.f k t374 1).bind fun bt399 => ((laws_markPlan.f k t377 t378 t379 bt399.1).bind fun bt401 => (if bt401.1 < 0 then (laws_FnExactHeardNow.j0 k l0 a3 t371 t385 true a1_0 a1_1 l1_2 a2_0 a2_1) else ((laws_eqIntS.f k t385 t371).bind fun t403 => (laws_FnExactHeardNow.j0 k l0 a3 t371 t385 (!t403) a1_0 a1_1 l1_2 a2_0 a2_1))))) else (some false)))) else (some false)) = some r := H
        have A27 := Aside0.mk A270
        clear A270
        by_cases c28 : t392 = true
        · subst c28
          have H1 : ((laws_toPlan.f k a1_0 a1_1 l1_2).bind fun bt393 => ((laws_eqPlan.f k t377 t378 t379 bt393.1 bt393.2.1 bt393.2.2).bind fun t398 => (if t398 = true then ((laws_markHeardS.f k t374 1).bind fun bt399 => ((laws_markPlan.f k t377 t378 t379 bt399.1).bind fun bt401 => (if bt401.1 < 0 then (laws_FnExactHeardNow.j0 k l0 a3 t371 t385 true a1_0 a1_1 l1_2 a2_0 a2_1) else ((laws_eqIntS.f k t385 t371).bind fun t403 => (laws_FnExactHeardNow.j0 k l0 a3 t371 t385 (!t403) a1_0 a1_1 l1_2 a2_0 a2_1))))) else (some false)))) = some r := by rw [if_pos rfl] at H; exact H
          clear H
          have H := H1
          clear H1
          replace H := Option.bind_eq_some_iff.mp H
          obtain ⟨⟨t393, t394, t395⟩, A290, H⟩ := H
          replace H : ((laws_eqPlan.f k t377 t378 t379 t393 t394 t395).bind fun t398 => (if t398 = true then ((laws_markHeardS.f k t374 1).bind fun bt399 => ((laws_markPlan.f k t377 t378 t379 bt399.1).bind fun bt401 => (if bt401.1 < 0 then (laws_FnExactHeardNow.j0 k l0 a3 t371 t385 true a1_0 a1_1 l1_2 a2_0 a2_1) else ((laws_eqIntS.f k t385 t371).bind fun t403 => (laws_FnExactHeardNow.j0 k l0 a3 t371 t385 (!t403) a1_0 a1_1 l1_2 a2_0 a2_1))))) else (some false))) = some r := H
          have A29 := Aside0.mk A290
          clear A290
          replace H := Option.bind_eq_some_iff.mp H
          obtain ⟨t398, A300, H⟩ := H
          replace H : (if t398 = true then ((laws_markHeardS.f k t374 1).bind fun bt399 => ((laws_markPlan.f k t377 t378 t379 bt399.1).bind fun bt401 => (if bt401.1 < 0 then (laws_FnExactHeardNow.j0 k l0 a3 t371 t385 true a1_0 a1_1 l1_2 a2_0 a2_1) else ((laws_eqIntS.f k t385 t371).bind fun t403 => (laws_FnExactHeardNow.j0 k l0 a3 t371 t385 (!t403) a1_0 a1_1 l1_2 a2_0 a2_1))))) else (some false)) = some r := H
          have A30 := Aside0.mk A300
          clear A300
          by_cases c31 : t398 = true
          · subst c31
            have H1 : ((laws_markHeardS.f k t374 1).bind fun bt399 => ((laws_markPlan.f k t377 t378 t379 bt399.1).bind fun bt401 => (if bt401.1 < 0 then (laws_FnExactHeardNow.j0 k l0 a3 t371 t385 true a1_0 a1_1 l1_2 a2_0 a2_1) else ((laws_eqIntS.f k t385 t371).bind fun t403 => (laws_FnExactHeardNow.j0 k l0 a3 t371 t385 (!t403) a1_0 a1_1 l1_2 a2_0 a2_1))))) = some r := by rw [if_pos rfl] at H; exact H
            clear H
            have H := H1
            clear H1
            replace H := Option.bind_eq_some_iff.mp H
            obtain ⟨⟨t399, t400⟩, A320, H⟩ := H
            replace H : ((laws_markPlan.f k t377 t378 t379 t399).bind fun bt401 => (if bt401.1 < 0 then (laws_FnExactHeardNow.j0 k l0 a3 t371 t385 true a1_0 a1_1 l1_2 a2_0 a2_1) else ((laws_eqIntS.f k t385 t371).bind fun t403 => (laws_FnExactHeardNow.j0 k l0 a3 t371 t385 (!t403) a1_0 a1_1 l1_2 a2_0 a2_1)))) = some r := H
            have A32 := Aside0.mk A320
            clear A320
            replace H := Option.bind_eq_some_iff.mp H
            obtain ⟨⟨t401, t402⟩, A330, H⟩ := H
            replace H : (if t401 < 0 then (laws_FnExactHeardNow.j0 k l0 a3 t371 t385 true a1_0 a1_1 l1_2 a2_0 a2_1) else ((laws_eqIntS.f k t385 t371).bind fun t403 => (laws_FnExactHeardNow.j0 k l0 a3 t371 t385 (!t403) a1_0 a1_1 l1_2 a2_0 a2_1))) = some r := H
            have A33 := Aside0.mk A330
            clear A330
            have HC34 := Aside0.mk H
            clear H
            go_enter Try.func4, Try.ntmps4
            try go_wp2_with (first | ((with_reducible refine gate_dst (N := 5) rfl ?_); refine box_event ?hg (N := 5) ?hd (cs := #[.int .i64 a1_0, .int .i64 a1_1, .slice A1_2 l1_2.length c1_2]) (t := 35) ?hr ?_; (case hd => rfl); (case hg => rfl); (case hr => first | (go_simp; done) | (go_simp; rfl)); intro gb357 hg w35 hbox hb; have n0_ := Aside0.mk (below_step (hb_ HB.out) hb); have n1_ := Aside0.mk (hbox); have n2_ := Aside0.mk ((by rw [hg]; exact (below_size (hb_ HB.out)) : w.heap.size ≤ gb357)); have n3_ := Aside0.mk ((by rw [hg]; exact (below_size (hb_ HB.out)) : w.heap.size ≤ gb357)); clear HB; have HB := n0_; have BK357 := n1_; have GW357 := n2_; have GE357 := n3_; clear n0_ n1_ n2_ n3_; clear hb hbox hg) | ((with_reducible refine gate_dst (N := 6) rfl ?_); refine box_event ?hg (N := 6) ?hd (cs := #[.int .i64 a2_0, .int .i64 a2_1]) (t := 37) ?hr ?_; (case hd => rfl); (case hg => rfl); (case hr => first | (go_simp; done) | (go_simp; rfl)); intro gb358 hg w36 hbox hb; have n0_ := Aside0.mk (bb_ BK357.out hb); have n1_ := Aside0.mk (below_step (hb1_ HB.out GE357.out) hb); have n2_ := Aside0.mk (hbox); have n3_ := Aside0.mk ((by rw [hg]; exact (below_size (hb1_ HB.out GE357.out)) : w.heap.size ≤ gb358)); have n4_ := Aside0.mk ((by rw [hg]; exact (below_size (hb1_ HB.out GE357.out)) : w.heap.size ≤ gb358)); have n5_ := Aside0.mk ((bl_ hg BK357.out : gb357 ≠ gb358)); have n6_ := Aside0.mk ((bg_ hg BK357.out : gb358 ≠ gb357)); clear BK357; clear HB; have BK357 := n0_; have HB := n1_; have BK358 := n2_; have GW358 := n3_; have GE358 := n4_; have NB357_358 := n5_; have NB358_357 := n6_; clear n0_ n1_ n2_ n3_ n4_ n5_ n6_; clear hb hbox hg) | ((with_reducible refine gate_callee (f := 9) rfl ?_); refine goesL_ (some 20) rfl rfl Try.func9 (by kernel_rfl) rfl #[.slice A0 l0.length c0, .int .i64 1048576] rfl arr_ ?_; (with_reducible refine (laws_szHeardS.calls _ _ l0 1048576 t359 _ ?side1 ?side2 A5.out).mono ?_); (case side1 => exact kc_ (Kd.C_below HR0.out HB.out)); (case side2 => exact HC0.out); rintro e w' ⟨rfl, ⟨nd, rfl⟩⟩; refine ⟨_, rfl, ?_⟩; (try (rw [drewN_self w36]; generalize hq_ : World.drewN w36 _ = w36; have n0_ : Aside0 (w36.heap[gb357]? = some (.cells #[.int .i64 a1_0, .int .i64 a1_1, .slice A1_2 l1_2.length c1_2] 35 (0, 0))) := ⟨by rw [← hq_]; exact (bk_ BK357.out)⟩; have n1_ : Aside0 (w36.heap[gb358]? = some (.cells #[.int .i64 a2_0, .int .i64 a2_1] 37 (0, 0))) := ⟨by rw [← hq_]; exact (bk_ BK358.out)⟩; have n2_ : Aside0 (Below w.heap.size w w36) := ⟨by rw [← hq_]; exact (hb2_ HB.out GE357.out GE358.out)⟩; clear BK357 BK358 HB hq_; have BK357 := n0_; have BK358 := n1_; have HB := n2_; clear n0_ n1_ n2_)); have hnb37 := NB357_358.out; have hnc37 := NB358_357.out; have hcz38_0 := bc_ BK357.out 0 (.int .i64 a1_0) rfl; have hcz38_1 := bc_ BK357.out 1 (.int .i64 a1_1) rfl; have hcz38_2 := bc_ BK357.out 2 (.slice A1_2 l1_2.length c1_2) rfl; have hfz38_0 := blk_frozen BK357.out 0; have hfz38_1 := blk_frozen BK357.out 1; have hfz38_2 := blk_frozen BK357.out 2) | ((with_reducible refine gate_callee (f := 18) rfl ?_); refine goesL_ (some 25) rfl rfl Try.func18 (by kernel_rfl) rfl #[.agg #[.int .i64 a1_0, .int .i64 a1_1, .slice A1_2 l1_2.length c1_2], .int .i64 t359] rfl arr_ ?_; (with_reducible refine (laws_szPlan.calls a1_0 a1_1 _ _ l1_2 t359 t360 _ ?side1 ?side2 A9.out).mono ?_); (case side1 => exact kc_ (Kd.C_below HR1_2.out HB.out)); (case side2 => exact HC1_2.out); rintro e w39 ⟨rfl, hb⟩; refine ⟨_, rfl, ?_⟩; have n0_ := Aside0.mk (bb_ BK357.out hb); have n1_ := Aside0.mk (bb_ BK358.out hb); have n2_ := Aside0.mk (below_step (hb2_ HB.out GE357.out GE358.out) hb); clear BK357; clear BK358; clear HB; have BK357 := n0_; have BK358 := n1_; have HB := n2_; clear n0_ n1_ n2_; (try clear hb); (try clear hb2); (try clear hk); (try clear hi)))
            have n0_ := Aside0.mk (blk_drew BK357.out)
            have n1_ := Aside0.mk (blk_drew BK358.out)
            have n2_ := Aside0.mk (below_drew1 HB.out)
            clear BK357
            clear BK358
            clear HB
            have BK357 := n0_
            have BK358 := n1_
            have HB := n2_
            clear n0_ n1_ n2_
            refine start_ (n := 9) (S := fun w' => w'.cell? ⟨gb357, 0, none⟩ = some (.int .i64 a1_0) ∧ w'.cell? ⟨gb357, 1, none⟩ = some (.int .i64 a1_1) ∧ w'.cell? ⟨gb357, 2, none⟩ = some (.slice A1_2 l1_2.length c1_2) ∧ w'.cell? ⟨gb358, 0, none⟩ = some (.int .i64 a2_0) ∧ w'.cell? ⟨gb358, 1, none⟩ = some (.int .i64 a2_1)) (ds := []) #[false, false, false, false, false, false, false, false, false] (by kernel_rfl) rfl rfl ⟨(blk_cell BK357.out 0).trans rfl, (blk_cell BK357.out 1).trans rfl, (blk_cell BK357.out 2).trans rfl, (blk_cell BK358.out 0).trans rfl, (blk_cell BK358.out 1).trans rfl⟩ (fun hHeld => ?_); refine with_tabW laws_FnExactHeardNow.tab8 laws_FnExactHeardNow.bits8 (fun HT_ HW_ => ?_)
            generalize w39.drew = w40 at BK357 BK358 HB hHeld ⊢
            refine pure_ (i := 0) (N := some 28) (v := ?_) (a' := ?_) #[true, false, false, false, false, false, false, false, false] rfl rfl (any_of HT_.out (by kernel_rfl)) (fun _ _ _ h => h) (Or.inl ⟨by rfl, ?_⟩) ?_ ?_
            rotate_left
            · intro w'
              go_simp
              with_reducible rfl
            rotate_left
            · simp only [Act.put, List.setIfInBounds_toArray, List.set_cons_zero, List.set_cons_succ, i64_w, i32_w]
              rfl
            refine pure_ (i := 6) (N := some 34) (v := ?_) (a' := ?_) #[true, false, false, false, false, false, true, false, false] rfl rfl (any_of HT_.out (by kernel_rfl)) (fun _ _ _ h => h) (Or.inl ⟨by rfl, ?_⟩) ?_ ?_
            rotate_left
            · intro w'
              go_simp
              with_reducible rfl
            rotate_left
            · simp only [Act.put, List.setIfInBounds_toArray, List.set_cons_zero, List.set_cons_succ, i64_w, i32_w]
              rfl
            refine take_ (i := 2) (N := some 30) (v := ?_) (a' := ?_) #[true, false, true, false, false, false, true, false, false] rfl rfl (take_ofW HT_.out HW_.out (by kernel_rfl)) (fun _ _ _ h => h) (Or.inl ⟨by rfl, ?_⟩) hHeld ?_ ?_
            rotate_left
            · rintro w' ⟨s0, s1, s2, s3, s4⟩
              go_simp
              with_reducible rfl
            rotate_left
            · simp only [Act.put, List.setIfInBounds_toArray, List.set_cons_zero, List.set_cons_succ, i64_w, i32_w]
              rfl
            refine take_ (i := 4) (N := some 32) (v := ?_) (a' := ?_) #[true, false, true, false, true, false, true, false, false] rfl rfl (take_ofW HT_.out HW_.out (by kernel_rfl)) (fun _ _ _ h => h) (Or.inl ⟨by rfl, ?_⟩) hHeld ?_ ?_
            rotate_left
            · rintro w' ⟨s0, s1, s2, s3, s4⟩
              go_simp
              with_reducible rfl
            rotate_left
            · simp only [Act.put, List.setIfInBounds_toArray, List.set_cons_zero, List.set_cons_succ, i64_w, i32_w]
              rfl
            refine one_ (i := 1) (N := some 29) #[true, true, true, false, true, false, true, false, false] rfl rfl (one_of HT_.out (by kernel_rfl)) (by decide) (fun K hK => ?_)
            refine goes_ Try.func11 (by kernel_rfl) rfl #[.slice A0 l0.length c0] (by rfl) rfl rfl arr_ ?_
            with_reducible refine (laws_toHeardS.calls k _ _ l0 t361 _ ?side1 ?side2 A16.out).mono ?_
            (case side1 => exact kc_ (Kd.C_below HR0.out HB.out))
            (case side2 => exact HC0.out)
            rintro e w41 ⟨v362, rfl, ho0, hb⟩
            refine ⟨_, rfl, ?_⟩
            have n0_ := Aside0.mk (Kd.R_lower ho0 (below_size (hb2_ HB.out GE357.out GE358.out)))
            have n1_ := Aside0.mk (bb_ BK357.out hb)
            have n2_ := Aside0.mk (bb_ BK358.out hb)
            have n3_ := Aside0.mk (below_step (hb2_ HB.out GE357.out GE358.out) hb)
            clear BK357
            clear BK358
            clear HB
            have HO363 := n0_
            have BK357 := n1_
            have BK358 := n2_
            have HB := n3_
            clear n0_ n1_ n2_ n3_
            (try clear hb)
            (try clear hb2)
            (try clear hk)
            (try clear hi)
            (try clear ho0)
            refine hK.out _ _ ⟨(blk_cell BK357.out 0).trans rfl, (blk_cell BK357.out 1).trans rfl, (blk_cell BK357.out 2).trans rfl, (blk_cell BK358.out 0).trans rfl, (blk_cell BK358.out 1).trans rfl⟩ (fun hHeld => ?_)
            clear hK K
            refine norm_ (a' := ?_) ?_ ?_
            rotate_left
            · show Act.put _ (some 29) _ = _
              simp only [Act.put, List.setIfInBounds_toArray, List.set_cons_zero, List.set_cons_succ, i64_w, i32_w]
              rfl
            refine one_ (i := 3) (N := some 31) #[true, true, true, true, true, false, true, false, false] rfl rfl (one_of HT_.out (by kernel_rfl)) (by decide) (fun K hK => ?_)
            refine goes_ Try.func20 (by kernel_rfl) rfl #[.agg #[.int .i64 a1_0, .int .i64 a1_1, .slice A1_2 l1_2.length c1_2]] (by rfl) rfl rfl arr_ ?_
            with_reducible refine (laws_toPlan.calls k a1_0 a1_1 _ _ l1_2 t364 t365 t366 _ ?side1 ?side2 A17.out).mono ?_
            (case side1 => exact kc_ (Kd.C_below HR1_2.out HB.out))
            (case side2 => exact HC1_2.out)
            rintro e w42 ⟨v367, rfl, ho0, hb⟩
            refine ⟨_, rfl, ?_⟩
            have n0_ := Aside0.mk (Kd.R_below (by (with_reducible repeat (first | apply Kd.R_alloc | apply Kd.R_drewN | apply Kd.R_drew)); exact HO363.out) hb)
            have n1_ := Aside0.mk (Kd.R_lower ho0 (below_size (hb2_ HB.out GE357.out GE358.out)))
            have n2_ := Aside0.mk (bb_ BK357.out hb)
            have n3_ := Aside0.mk (bb_ BK358.out hb)
            have n4_ := Aside0.mk (below_step (hb2_ HB.out GE357.out GE358.out) hb)
            clear HO363
            clear BK357
            clear BK358
            clear HB
            have HO363 := n0_
            have HO368 := n1_
            have BK357 := n2_
            have BK358 := n3_
            have HB := n4_
            clear n0_ n1_ n2_ n3_ n4_
            (try clear hb)
            (try clear hb2)
            (try clear hk)
            (try clear hi)
            (try clear ho0)
            refine hK.out _ _ ⟨(blk_cell BK357.out 0).trans rfl, (blk_cell BK357.out 1).trans rfl, (blk_cell BK357.out 2).trans rfl, (blk_cell BK358.out 0).trans rfl, (blk_cell BK358.out 1).trans rfl⟩ (fun hHeld => ?_)
            clear hK K
            refine norm_ (a' := ?_) ?_ ?_
            rotate_left
            · show Act.put _ (some 31) _ = _
              simp only [Act.put, List.setIfInBounds_toArray, List.set_cons_zero, List.set_cons_succ, i64_w, i32_w]
              rfl
            refine one_ (i := 5) (N := some 33) #[true, true, true, true, true, true, true, false, false] rfl rfl (one_of HT_.out (by kernel_rfl)) (by decide) (fun K hK => ?_)
            refine goes_ Try.func21 (by kernel_rfl) rfl #[.agg #[.int .i64 a2_0, .int .i64 a2_1]] (by rfl) rfl rfl arr_ ?_
            with_reducible refine (laws_toDrift.calls a2_0 a2_1 t369 t370 _ A18.out).mono ?_
            rintro e w43 ⟨rfl, hb⟩
            refine ⟨_, rfl, ?_⟩
            have n0_ := Aside0.mk (Kd.R_below (by (with_reducible repeat (first | apply Kd.R_alloc | apply Kd.R_drewN | apply Kd.R_drew)); exact HO363.out) hb)
            have n1_ := Aside0.mk (Kd.R_below (by (with_reducible repeat (first | apply Kd.R_alloc | apply Kd.R_drewN | apply Kd.R_drew)); exact HO368.out) hb)
            have n2_ := Aside0.mk (bb_ BK357.out hb)
            have n3_ := Aside0.mk (bb_ BK358.out hb)
            have n4_ := Aside0.mk (below_step (hb2_ HB.out GE357.out GE358.out) hb)
            clear HO363
            clear HO368
            clear BK357
            clear BK358
            clear HB
            have HO363 := n0_
            have HO368 := n1_
            have BK357 := n2_
            have BK358 := n3_
            have HB := n4_
            clear n0_ n1_ n2_ n3_ n4_
            (try clear hb)
            (try clear hb2)
            (try clear hk)
            (try clear hi)
            obtain ⟨Ao44, co44, eo44⟩ := Kd.R_slice HO363.out
            (first | subst eo44 | (injection eo44 with f1_ f2_ f3_; have f4_ := f1_.symm; have f5_ := f3_.symm; clear f1_ f2_ f3_; subst f4_; subst f5_))
            obtain ⟨Ao45, co45, eo45⟩ := Kd.R_slice HO368.out
            (first | subst eo45 | (injection eo45 with f1_ f2_ f3_; have f4_ := f1_.symm; have f5_ := f3_.symm; clear f1_ f2_ f3_; subst f4_; subst f5_))
            refine hK.out _ _ ⟨(blk_cell BK357.out 0).trans rfl, (blk_cell BK357.out 1).trans rfl, (blk_cell BK357.out 2).trans rfl, (blk_cell BK358.out 0).trans rfl, (blk_cell BK358.out 1).trans rfl⟩ (fun hHeld => ?_)
            clear hK K
            refine norm_ (a' := ?_) ?_ ?_
            rotate_left
            · show Act.put _ (some 33) _ = _
              simp only [Act.put, List.setIfInBounds_toArray, List.set_cons_zero, List.set_cons_succ, i64_w, i32_w]
              rfl
            refine one_ (i := 7) (N := some 35) #[true, true, true, true, true, true, true, true, false] rfl rfl (one_of HT_.out (by kernel_rfl)) (by decide) (fun K hK => ?_)
            refine goes_ Try.func19 (by kernel_rfl) rfl #[.slice Ao44 t361.length co44, .agg #[.int .i64 t364, .int .i64 t365, .slice Ao45 t366.length co45], .agg #[.int .i64 t369, .int .i64 t370], .int .i64 a3] (by rfl) rfl rfl arr_ ?_
            with_reducible refine (spec_HeardNow.calls k _ _ t361 t364 t365 _ _ t366 t369 t370 a3 t371 _ ?side1 ?side2 ?side3 ?side4 A19.out).mono ?_
            (case side1 => repeat (first | exact (Kd.R_reads' HO363.out).2.2 | (with_reducible refine Kd.C_alloc ?_ _) | (with_reducible refine Kd.C_drewN ?_ _) | (with_reducible refine Kd.C_drew ?_)))
            (case side2 => exact (Kd.R_reads' HO363.out).2.1)
            (case side3 => repeat (first | exact (Kd.R_reads' HO368.out).2.2 | (with_reducible refine Kd.C_alloc ?_ _) | (with_reducible refine Kd.C_drewN ?_ _) | (with_reducible refine Kd.C_drew ?_)))
            (case side4 => exact (Kd.R_reads' HO368.out).2.1)
            rintro e w46 ⟨v372, rfl, ho0, hb⟩
            refine ⟨_, rfl, ?_⟩
            have n0_ := Aside0.mk (Kd.R_below (by (with_reducible repeat (first | apply Kd.R_alloc | apply Kd.R_drewN | apply Kd.R_drew)); exact HO363.out) hb)
            have n1_ := Aside0.mk (Kd.R_below (by (with_reducible repeat (first | apply Kd.R_alloc | apply Kd.R_drewN | apply Kd.R_drew)); exact HO368.out) hb)
            have n2_ := Aside0.mk (Kd.R_lower ho0 (below_size (hb2_ HB.out GE357.out GE358.out)))
            have n3_ := Aside0.mk (bb_ BK357.out hb)
            have n4_ := Aside0.mk (bb_ BK358.out hb)
            have n5_ := Aside0.mk (below_step (hb2_ HB.out GE357.out GE358.out) hb)
            clear HO363
            clear HO368
            clear BK357
            clear BK358
            clear HB
            have HO363 := n0_
            have HO368 := n1_
            have HO373 := n2_
            have BK357 := n3_
            have BK358 := n4_
            have HB := n5_
            clear n0_ n1_ n2_ n3_ n4_ n5_
            (try clear hb)
            (try clear hb2)
            (try clear hk)
            (try clear hi)
            (try clear ho0)
            refine hK.out _ _ ⟨(blk_cell BK357.out 0).trans rfl, (blk_cell BK357.out 1).trans rfl, (blk_cell BK357.out 2).trans rfl, (blk_cell BK358.out 0).trans rfl, (blk_cell BK358.out 1).trans rfl⟩ (fun hHeld => ?_)
            clear hK K
            refine norm_ (a' := ?_) ?_ ?_
            rotate_left
            · show Act.put _ (some 35) _ = _
              simp only [Act.put, List.setIfInBounds_toArray, List.set_cons_zero, List.set_cons_succ, i64_w, i32_w]
              rfl
            refine pure_ (i := 8) (N := some 10) (v := ?_) (a' := ?_) #[true, true, true, true, true, true, true, true, true] rfl rfl (any_of HT_.out (by kernel_rfl)) (fun _ _ _ h => h) (Or.inl ⟨by rfl, ?_⟩) ?_ ?_
            rotate_left
            · intro w'
              go_simp
              with_reducible rfl
            rotate_left
            · simp only [Act.put, List.setIfInBounds_toArray, List.set_cons_zero, List.set_cons_succ, i64_w, i32_w]
              rfl
            refine done_ (done_of HT_.out (by kernel_rfl)) ?_
            try go_wp2_with (first | ((with_reducible refine gate_callee (f := 11) rfl ?_); refine goesL_ (some 37) rfl rfl Try.func11 (by kernel_rfl) rfl #[.slice A0 l0.length c0] rfl arr_ ?_; (with_reducible refine (laws_toHeardS.calls k _ _ l0 t374 _ ?side1 ?side2 A20.out).mono ?_); (case side1 => exact kc_ (Kd.C_below HR0.out HB.out)); (case side2 => exact HC0.out); rintro e w47 ⟨v375, rfl, ho0, hb⟩; refine ⟨_, rfl, ?_⟩; have n0_ := Aside0.mk (Kd.R_elder' (by (with_reducible repeat (first | apply Kd.R_alloc | apply Kd.R_drewN | apply Kd.R_drew)); exact HO363.out) (Kd.R_base ho0) hb); have n1_ := Aside0.mk (Kd.R_below (by (with_reducible repeat (first | apply Kd.R_alloc | apply Kd.R_drewN | apply Kd.R_drew)); exact HO368.out) hb); have n2_ := Aside0.mk (Kd.R_below (by (with_reducible repeat (first | apply Kd.R_alloc | apply Kd.R_drewN | apply Kd.R_drew)); exact HO373.out) hb); have n3_ := Aside0.mk (Kd.R_lower (Kd.R_new' ho0 (Kd.R_lt (by (with_reducible repeat (first | apply Kd.R_alloc | apply Kd.R_drewN | apply Kd.R_drew)); exact HO363.out))) (below_size (hb2_ HB.out GE357.out GE358.out))); have n4_ := Aside0.mk (bb_ BK357.out hb); have n5_ := Aside0.mk (bb_ BK358.out hb); have n6_ := Aside0.mk (below_step (hb2_ HB.out GE357.out GE358.out) hb); clear HO363; clear HO368; clear HO373; clear BK357; clear BK358; clear HB; have HO363 := n0_; have HO368 := n1_; have HO373 := n2_; have HO376 := n3_; have BK357 := n4_; have BK358 := n5_; have HB := n6_; clear n0_ n1_ n2_ n3_ n4_ n5_ n6_; (try clear hb); (try clear hb2); (try clear hk); (try clear hi); (try clear ho0); have hcz48_0 := bc_ BK357.out 0 (.int .i64 a1_0) rfl; have hcz48_1 := bc_ BK357.out 1 (.int .i64 a1_1) rfl; have hcz48_2 := bc_ BK357.out 2 (.slice A1_2 l1_2.length c1_2) rfl; have hfz48_0 := blk_frozen BK357.out 0; have hfz48_1 := blk_frozen BK357.out 1; have hfz48_2 := blk_frozen BK357.out 2) | ((with_reducible refine gate_callee (f := 20) rfl ?_); refine goesL_ (some 39) rfl rfl Try.func20 (by kernel_rfl) rfl #[.agg #[.int .i64 a1_0, .int .i64 a1_1, .slice A1_2 l1_2.length c1_2]] rfl arr_ ?_; (with_reducible refine (laws_toPlan.calls k a1_0 a1_1 _ _ l1_2 t377 t378 t379 _ ?side1 ?side2 A21.out).mono ?_); (case side1 => exact kc_ (Kd.C_below HR1_2.out HB.out)); (case side2 => exact HC1_2.out); rintro e w49 ⟨v380, rfl, ho0, hb⟩; refine ⟨_, rfl, ?_⟩; have n0_ := Aside0.mk (Kd.R_below (by (with_reducible repeat (first | apply Kd.R_alloc | apply Kd.R_drewN | apply Kd.R_drew)); exact HO363.out) hb); have n1_ := Aside0.mk (Kd.R_elder' (by (with_reducible repeat (first | apply Kd.R_alloc | apply Kd.R_drewN | apply Kd.R_drew)); exact HO368.out) (Kd.R_base ho0) hb); have n2_ := Aside0.mk (Kd.R_below (by (with_reducible repeat (first | apply Kd.R_alloc | apply Kd.R_drewN | apply Kd.R_drew)); exact HO373.out) hb); have n3_ := Aside0.mk (Kd.R_below (by (with_reducible repeat (first | apply Kd.R_alloc | apply Kd.R_drewN | apply Kd.R_drew)); exact HO376.out) hb); have n4_ := Aside0.mk (Kd.R_lower (Kd.R_new' ho0 (Kd.R_lt (by (with_reducible repeat (first | apply Kd.R_alloc | apply Kd.R_drewN | apply Kd.R_drew)); exact HO368.out))) (below_size (hb2_ HB.out GE357.out GE358.out))); have n5_ := Aside0.mk (bb_ BK357.out hb); have n6_ := Aside0.mk (bb_ BK358.out hb); have n7_ := Aside0.mk (below_step (hb2_ HB.out GE357.out GE358.out) hb); clear HO363; clear HO368; clear HO373; clear HO376; clear BK357; clear BK358; clear HB; have HO363 := n0_; have HO368 := n1_; have HO373 := n2_; have HO376 := n3_; have HO381 := n4_; have BK357 := n5_; have BK358 := n6_; have HB := n7_; clear n0_ n1_ n2_ n3_ n4_ n5_ n6_ n7_; (try clear hb); (try clear hb2); (try clear hk); (try clear hi); (try clear ho0)) | ((with_reducible refine gate_dst (N := 12) rfl ?_); refine box_event ?hg (N := 12) ?hd (cs := #[.int .i64 0, .int .i64 0, .slice none 0 0]) (t := 42) ?hr ?_; (case hd => rfl); (case hg => rfl); (case hr => first | (go_simp; done) | (go_simp; rfl)); intro gb382 hg w50 hbox hb; have n0_ := Aside0.mk (Kd.R_below (by (with_reducible repeat (first | apply Kd.R_alloc | apply Kd.R_drewN | apply Kd.R_drew)); exact HO363.out) hb); have n1_ := Aside0.mk (Kd.R_below (by (with_reducible repeat (first | apply Kd.R_alloc | apply Kd.R_drewN | apply Kd.R_drew)); exact HO368.out) hb); have n2_ := Aside0.mk (Kd.R_below (by (with_reducible repeat (first | apply Kd.R_alloc | apply Kd.R_drewN | apply Kd.R_drew)); exact HO373.out) hb); have n3_ := Aside0.mk (Kd.R_below (by (with_reducible repeat (first | apply Kd.R_alloc | apply Kd.R_drewN | apply Kd.R_drew)); exact HO376.out) hb); have n4_ := Aside0.mk (Kd.R_below (by (with_reducible repeat (first | apply Kd.R_alloc | apply Kd.R_drewN | apply Kd.R_drew)); exact HO381.out) hb); have n5_ := Aside0.mk (bb_ BK357.out hb); have n6_ := Aside0.mk (bb_ BK358.out hb); have n7_ := Aside0.mk (below_step (hb2_ HB.out GE357.out GE358.out) hb); have n8_ := Aside0.mk (hbox); have n9_ := Aside0.mk ((by rw [hg]; exact (below_size (hb2_ HB.out GE357.out GE358.out)) : w.heap.size ≤ gb382)); have n10_ := Aside0.mk ((by rw [hg]; exact (below_size (hb2_ HB.out GE357.out GE358.out)) : w.heap.size ≤ gb382)); have n11_ := Aside0.mk ((bl_ hg BK357.out : gb357 ≠ gb382)); have n12_ := Aside0.mk ((bg_ hg BK357.out : gb382 ≠ gb357)); have n13_ := Aside0.mk ((bl_ hg BK358.out : gb358 ≠ gb382)); have n14_ := Aside0.mk ((bg_ hg BK358.out : gb382 ≠ gb358)); clear HO363; clear HO368; clear HO373; clear HO376; clear HO381; clear BK357; clear BK358; clear HB; have HO363 := n0_; have HO368 := n1_; have HO373 := n2_; have HO376 := n3_; have HO381 := n4_; have BK357 := n5_; have BK358 := n6_; have HB := n7_; have BK382 := n8_; have GW382 := n9_; have GE382 := n10_; have NB357_382 := n11_; have NB382_357 := n12_; have NB358_382 := n13_; have NB382_358 := n14_; clear n0_ n1_ n2_ n3_ n4_ n5_ n6_ n7_ n8_ n9_ n10_ n11_ n12_ n13_ n14_; clear hb hbox hg; have hnb51 := NB382_357.out; have hnc51 := NB357_382.out; have hnb52 := NB382_358.out; have hnc52 := NB358_382.out; have hcz53_0 := bc_ BK382.out 0 (.int .i64 0) rfl; have hcz53_1 := bc_ BK382.out 1 (.int .i64 0) rfl; have hcz53_2 := bc_ BK382.out 2 (.slice none 0 0) rfl; have hfz53_0 := blk_frozen BK382.out 0; have hfz53_1 := blk_frozen BK382.out 1; have hfz53_2 := blk_frozen BK382.out 2; obtain ⟨Ao54, co54, eo54⟩ := Kd.R_slice HO381.out; subst eo54))
            have n0_ : Aside0 (Kd.R k73 73 (((w50.setCell ⟨gb382, 0, none⟩ (.int .i64 t377)).setCell ⟨gb382, 1, none⟩ (.int .i64 t378)).setCell ⟨gb382, 2, none⟩ (.slice Ao54 t379.length co54)) w.heap.size (fun k_ => some k_ ≠ (v375 : Value).ownBlock) (.slice Ao44 t361.length co44) t361) := ⟨by (with_reducible repeat (first | apply Kd.R_alloc | apply Kd.R_drewN | apply Kd.R_drew)); exact Kd.R_mono (Kd.R_far (p := ⟨gb382, 2, none⟩) (Kd.R_far (p := ⟨gb382, 1, none⟩) (Kd.R_far (p := ⟨gb382, 0, none⟩) (Kd.R_types HO363.out BK382.out (by decide)) (fun _ hk => hk.2) (.int .i64 t377)) (fun _ hk => hk.2) (.int .i64 t378)) (fun _ hk => hk.2) (.slice Ao54 t379.length co54)) (fun _ hk => hk.1.2)⟩
            have n1_ : Aside0 (Kd.R k89 89 (((w50.setCell ⟨gb382, 0, none⟩ (.int .i64 t377)).setCell ⟨gb382, 1, none⟩ (.int .i64 t378)).setCell ⟨gb382, 2, none⟩ (.slice Ao54 t379.length co54)) w.heap.size (fun k_ => some k_ ≠ (.slice Ao54 t379.length co54 : Value).ownBlock) (.slice Ao45 t366.length co45) t366) := ⟨by (with_reducible repeat (first | apply Kd.R_alloc | apply Kd.R_drewN | apply Kd.R_drew)); exact Kd.R_mono (Kd.R_far (p := ⟨gb382, 2, none⟩) (Kd.R_far (p := ⟨gb382, 1, none⟩) (Kd.R_far (p := ⟨gb382, 0, none⟩) (Kd.R_types HO368.out BK382.out (by decide)) (fun _ hk => hk.2) (.int .i64 t377)) (fun _ hk => hk.2) (.int .i64 t378)) (fun _ hk => hk.2) (.slice Ao54 t379.length co54)) (fun _ hk => hk.1.2)⟩
            have n2_ : Aside0 (Kd.R (Kd.int .i64) 3 (((w50.setCell ⟨gb382, 0, none⟩ (.int .i64 t377)).setCell ⟨gb382, 1, none⟩ (.int .i64 t378)).setCell ⟨gb382, 2, none⟩ (.slice Ao54 t379.length co54)) w.heap.size (fun _ => True) v372 t371) := ⟨by (with_reducible repeat (first | apply Kd.R_alloc | apply Kd.R_drewN | apply Kd.R_drew)); exact Kd.R_mono (Kd.R_far (p := ⟨gb382, 2, none⟩) (Kd.R_far (p := ⟨gb382, 1, none⟩) (Kd.R_far (p := ⟨gb382, 0, none⟩) (Kd.R_types HO373.out BK382.out (by decide)) (fun _ hk => hk.2) (.int .i64 t377)) (fun _ hk => hk.2) (.int .i64 t378)) (fun _ hk => hk.2) (.slice Ao54 t379.length co54)) (fun _ hk => trivial)⟩
            have n3_ : Aside0 (Kd.R k73 73 (((w50.setCell ⟨gb382, 0, none⟩ (.int .i64 t377)).setCell ⟨gb382, 1, none⟩ (.int .i64 t378)).setCell ⟨gb382, 2, none⟩ (.slice Ao54 t379.length co54)) w.heap.size (fun k_ => some k_ ≠ (.slice Ao44 t361.length co44 : Value).ownBlock) v375 t374) := ⟨by (with_reducible repeat (first | apply Kd.R_alloc | apply Kd.R_drewN | apply Kd.R_drew)); exact Kd.R_mono (Kd.R_far (p := ⟨gb382, 2, none⟩) (Kd.R_far (p := ⟨gb382, 1, none⟩) (Kd.R_far (p := ⟨gb382, 0, none⟩) (Kd.R_types HO376.out BK382.out (by decide)) (fun _ hk => hk.2) (.int .i64 t377)) (fun _ hk => hk.2) (.int .i64 t378)) (fun _ hk => hk.2) (.slice Ao54 t379.length co54)) (fun _ hk => hk.1.2)⟩
            have n4_ : Aside0 (Kd.R k89 89 (((w50.setCell ⟨gb382, 0, none⟩ (.int .i64 t377)).setCell ⟨gb382, 1, none⟩ (.int .i64 t378)).setCell ⟨gb382, 2, none⟩ (.slice Ao54 t379.length co54)) w.heap.size (fun k_ => some k_ ≠ (.slice Ao45 t366.length co45 : Value).ownBlock) (.slice Ao54 t379.length co54) t379) := ⟨by (with_reducible repeat (first | apply Kd.R_alloc | apply Kd.R_drewN | apply Kd.R_drew)); exact Kd.R_mono (Kd.R_far (p := ⟨gb382, 2, none⟩) (Kd.R_far (p := ⟨gb382, 1, none⟩) (Kd.R_far (p := ⟨gb382, 0, none⟩) (Kd.R_types HO381.out BK382.out (by decide)) (fun _ hk => hk.2) (.int .i64 t377)) (fun _ hk => hk.2) (.int .i64 t378)) (fun _ hk => hk.2) (.slice Ao54 t379.length co54)) (fun _ hk => hk.1.2)⟩
            have n5_ : Aside0 ((((w50.setCell ⟨gb382, 0, none⟩ (.int .i64 t377)).setCell ⟨gb382, 1, none⟩ (.int .i64 t378)).setCell ⟨gb382, 2, none⟩ (.slice Ao54 t379.length co54)).heap[gb357]? = some (.cells #[.int .i64 a1_0, .int .i64 a1_1, .slice A1_2 l1_2.length c1_2] 35 (0, 0))) := ⟨by (with_reducible repeat (first | refine blk_drewN ?_ _ | refine blk_drew ?_ | refine blk_alloc ?_ _)); refine blk_far ?_ NB357_382.out _; (with_reducible repeat (first | refine blk_drewN ?_ _ | refine blk_drew ?_ | refine blk_alloc ?_ _)); refine blk_far ?_ NB357_382.out _; (with_reducible repeat (first | refine blk_drewN ?_ _ | refine blk_drew ?_ | refine blk_alloc ?_ _)); refine blk_far ?_ NB357_382.out _; (with_reducible repeat (first | refine blk_drewN ?_ _ | refine blk_drew ?_ | refine blk_alloc ?_ _)); exact BK357.out⟩
            have n6_ : Aside0 ((((w50.setCell ⟨gb382, 0, none⟩ (.int .i64 t377)).setCell ⟨gb382, 1, none⟩ (.int .i64 t378)).setCell ⟨gb382, 2, none⟩ (.slice Ao54 t379.length co54)).heap[gb358]? = some (.cells #[.int .i64 a2_0, .int .i64 a2_1] 37 (0, 0))) := ⟨by (with_reducible repeat (first | refine blk_drewN ?_ _ | refine blk_drew ?_ | refine blk_alloc ?_ _)); refine blk_far ?_ NB358_382.out _; (with_reducible repeat (first | refine blk_drewN ?_ _ | refine blk_drew ?_ | refine blk_alloc ?_ _)); refine blk_far ?_ NB358_382.out _; (with_reducible repeat (first | refine blk_drewN ?_ _ | refine blk_drew ?_ | refine blk_alloc ?_ _)); refine blk_far ?_ NB358_382.out _; (with_reducible repeat (first | refine blk_drewN ?_ _ | refine blk_drew ?_ | refine blk_alloc ?_ _)); exact BK358.out⟩
            have n7_ : Aside0 ((((w50.setCell ⟨gb382, 0, none⟩ (.int .i64 t377)).setCell ⟨gb382, 1, none⟩ (.int .i64 t378)).setCell ⟨gb382, 2, none⟩ (.slice Ao54 t379.length co54)).heap[gb382]? = some (.cells #[.int .i64 t377, .int .i64 t378, .slice Ao54 t379.length co54] 42 (0, 0))) := ⟨by (with_reducible repeat (first | refine blk_drewN ?_ _ | refine blk_drew ?_ | refine blk_alloc ?_ _)); refine blk_put (cs := #[.int .i64 t377, .int .i64 t378, .slice none 0 0]) ?_ 2 _ rfl; (with_reducible repeat (first | refine blk_drewN ?_ _ | refine blk_drew ?_ | refine blk_alloc ?_ _)); refine blk_put (cs := #[.int .i64 t377, .int .i64 0, .slice none 0 0]) ?_ 1 _ rfl; (with_reducible repeat (first | refine blk_drewN ?_ _ | refine blk_drew ?_ | refine blk_alloc ?_ _)); refine blk_put (cs := #[.int .i64 0, .int .i64 0, .slice none 0 0]) ?_ 0 _ rfl; (with_reducible repeat (first | refine blk_drewN ?_ _ | refine blk_drew ?_ | refine blk_alloc ?_ _)); exact BK382.out⟩
            have n8_ : Aside0 (Below w.heap.size w (((w50.setCell ⟨gb382, 0, none⟩ (.int .i64 t377)).setCell ⟨gb382, 1, none⟩ (.int .i64 t378)).setCell ⟨gb382, 2, none⟩ (.slice Ao54 t379.length co54))) := ⟨hb3_ HB.out GE357.out GE358.out GE382.out⟩
            (try clear HO363)
            (try clear HO368)
            (try clear HO373)
            (try clear HO376)
            (try clear HO381)
            (try clear BK357)
            (try clear BK358)
            (try clear BK382)
            (try clear HB)
            generalize (((w50.setCell ⟨gb382, 0, none⟩ (.int .i64 t377)).setCell ⟨gb382, 1, none⟩ (.int .i64 t378)).setCell ⟨gb382, 2, none⟩ (.slice Ao54 t379.length co54)) = w55 at n0_ n1_ n2_ n3_ n4_ n5_ n6_ n7_ n8_ ⊢
            have HO363 := n0_
            have HO368 := n1_
            have HO373 := n2_
            have HO376 := n3_
            have HO381 := n4_
            have BK357 := n5_
            have BK358 := n6_
            have BK382 := n7_
            have HB := n8_
            clear n0_ n1_ n2_ n3_ n4_ n5_ n6_ n7_ n8_
            have n0_ := Aside0.mk (Kd.R_drew HO363.out)
            have n1_ := Aside0.mk (Kd.R_drew HO368.out)
            have n2_ := Aside0.mk (Kd.R_drew HO373.out)
            have n3_ := Aside0.mk (Kd.R_drew HO376.out)
            have n4_ := Aside0.mk (Kd.R_drew HO381.out)
            have n5_ := Aside0.mk (blk_drew BK357.out)
            have n6_ := Aside0.mk (blk_drew BK358.out)
            have n7_ := Aside0.mk (blk_drew BK382.out)
            have n8_ := Aside0.mk (below_drew1 HB.out)
            clear HO363
            clear HO368
            clear HO373
            clear HO376
            clear HO381
            clear BK357
            clear BK358
            clear BK382
            clear HB
            have HO363 := n0_
            have HO368 := n1_
            have HO373 := n2_
            have HO376 := n3_
            have HO381 := n4_
            have BK357 := n5_
            have BK358 := n6_
            have BK382 := n7_
            have HB := n8_
            clear n0_ n1_ n2_ n3_ n4_ n5_ n6_ n7_ n8_
            refine start_ (n := 7) (S := fun w' => w'.cell? ⟨gb382, 0, none⟩ = some (.int .i64 t377) ∧ w'.cell? ⟨gb382, 1, none⟩ = some (.int .i64 t378) ∧ w'.cell? ⟨gb382, 2, none⟩ = some (.slice Ao54 t379.length co54) ∧ w'.cell? ⟨gb358, 0, none⟩ = some (.int .i64 a2_0) ∧ w'.cell? ⟨gb358, 1, none⟩ = some (.int .i64 a2_1)) (ds := []) #[false, false, false, false, false, false, false] (by kernel_rfl) rfl rfl ⟨(blk_cell BK382.out 0).trans rfl, (blk_cell BK382.out 1).trans rfl, (blk_cell BK382.out 2).trans rfl, (blk_cell BK358.out 0).trans rfl, (blk_cell BK358.out 1).trans rfl⟩ (fun hHeld => ?_)
            generalize w55.drew = w56 at HO363 HO368 HO373 HO376 HO381 BK357 BK358 BK382 HB hHeld ⊢
            refine pure_ (i := 0) (N := some 40) (v := ?_) (a' := ?_) #[true, false, false, false, false, false, false] rfl rfl (by kernel_rfl) (fun _ _ _ h => h) (Or.inl ⟨by rfl, ?_⟩) ?_ ?_
            rotate_left
            · intro w'
              go_simp
              with_reducible rfl
            rotate_left
            · simp only [Act.put, List.setIfInBounds_toArray, List.set_cons_zero, List.set_cons_succ, i64_w, i32_w]
              rfl
            refine pure_ (i := 4) (N := some 44) (v := ?_) (a' := ?_) #[true, false, false, false, true, false, false] rfl rfl (by kernel_rfl) (fun _ _ _ h => h) (Or.inl ⟨by rfl, ?_⟩) ?_ ?_
            rotate_left
            · intro w'
              go_simp
              with_reducible rfl
            rotate_left
            · simp only [Act.put, List.setIfInBounds_toArray, List.set_cons_zero, List.set_cons_succ, i64_w, i32_w]
              rfl
            refine take_ (i := 1) (N := some 41) (v := ?_) (a' := ?_) #[true, true, false, false, true, false, false] rfl rfl (by kernel_rfl) (fun _ _ _ h => h) (Or.inl ⟨by rfl, ?_⟩) hHeld ?_ ?_
            rotate_left
            · rintro w' ⟨s0, s1, s2, s3, s4⟩
              go_simp
              with_reducible rfl
            rotate_left
            · simp only [Act.put, List.setIfInBounds_toArray, List.set_cons_zero, List.set_cons_succ, i64_w, i32_w]
              rfl
            refine take_ (i := 2) (N := some 42) (v := ?_) (a' := ?_) #[true, true, true, false, true, false, false] rfl rfl (by kernel_rfl) (fun _ _ _ h => h) (Or.inl ⟨by rfl, ?_⟩) hHeld ?_ ?_
            rotate_left
            · rintro w' ⟨s0, s1, s2, s3, s4⟩
              go_simp
              with_reducible rfl
            rotate_left
            · simp only [Act.put, List.setIfInBounds_toArray, List.set_cons_zero, List.set_cons_succ, i64_w, i32_w]
              rfl
            refine one_ (i := 3) (N := some 43) #[true, true, true, true, true, false, false] rfl rfl (by kernel_rfl) (by decide) (fun K hK => ?_)
            refine goes_ Try.func21 (by kernel_rfl) rfl #[.agg #[.int .i64 a2_0, .int .i64 a2_1]] (by rfl) rfl rfl arr_ ?_
            with_reducible refine (laws_toDrift.calls a2_0 a2_1 t383 t384 _ A22.out).mono ?_
            rintro e w57 ⟨rfl, hb⟩
            refine ⟨_, rfl, ?_⟩
            have n0_ := Aside0.mk (Kd.R_below (by (with_reducible repeat (first | apply Kd.R_alloc | apply Kd.R_drewN | apply Kd.R_drew)); exact HO363.out) hb)
            have n1_ := Aside0.mk (Kd.R_below (by (with_reducible repeat (first | apply Kd.R_alloc | apply Kd.R_drewN | apply Kd.R_drew)); exact HO368.out) hb)
            have n2_ := Aside0.mk (Kd.R_below (by (with_reducible repeat (first | apply Kd.R_alloc | apply Kd.R_drewN | apply Kd.R_drew)); exact HO373.out) hb)
            have n3_ := Aside0.mk (Kd.R_below (by (with_reducible repeat (first | apply Kd.R_alloc | apply Kd.R_drewN | apply Kd.R_drew)); exact HO376.out) hb)
            have n4_ := Aside0.mk (Kd.R_below (by (with_reducible repeat (first | apply Kd.R_alloc | apply Kd.R_drewN | apply Kd.R_drew)); exact HO381.out) hb)
            have n5_ := Aside0.mk (bb_ BK357.out hb)
            have n6_ := Aside0.mk (bb_ BK358.out hb)
            have n7_ := Aside0.mk (bb_ BK382.out hb)
            have n8_ := Aside0.mk (below_step (hb3_ HB.out GE357.out GE358.out GE382.out) hb)
            clear HO363
            clear HO368
            clear HO373
            clear HO376
            clear HO381
            clear BK357
            clear BK358
            clear BK382
            clear HB
            have HO363 := n0_
            have HO368 := n1_
            have HO373 := n2_
            have HO376 := n3_
            have HO381 := n4_
            have BK357 := n5_
            have BK358 := n6_
            have BK382 := n7_
            have HB := n8_
            clear n0_ n1_ n2_ n3_ n4_ n5_ n6_ n7_ n8_
            (try clear hb)
            (try clear hb2)
            (try clear hk)
            (try clear hi)
            obtain ⟨Ao58, co58, eo58⟩ := Kd.R_slice HO376.out
            (first | subst eo58 | (injection eo58 with f1_ f2_ f3_; have f4_ := f1_.symm; have f5_ := f3_.symm; clear f1_ f2_ f3_; subst f4_; subst f5_))
            refine hK.out _ _ ⟨(blk_cell BK382.out 0).trans rfl, (blk_cell BK382.out 1).trans rfl, (blk_cell BK382.out 2).trans rfl, (blk_cell BK358.out 0).trans rfl, (blk_cell BK358.out 1).trans rfl⟩ (fun hHeld => ?_)
            clear hK K
            refine norm_ (a' := ?_) ?_ ?_
            rotate_left
            · show Act.put _ (some 43) _ = _
              simp only [Act.put, List.setIfInBounds_toArray, List.set_cons_zero, List.set_cons_succ, i64_w, i32_w]
              rfl
            refine one_ (i := 5) (N := some 45) #[true, true, true, true, true, true, false] rfl rfl (by kernel_rfl) (by decide) (fun K hK => ?_)
            refine goes_ Try.func22 (by kernel_rfl) rfl #[.slice Ao58 t374.length co58, .agg #[.int .i64 t377, .int .i64 t378, .slice Ao54 t379.length co54], .agg #[.int .i64 t383, .int .i64 t384], .int .i64 a3] (by rfl) rfl rfl arr_ ?_
            with_reducible refine (impl_HeardNow.calls k _ _ t374 t377 t378 _ _ t379 t383 t384 a3 t385 _ ?side1 ?side2 ?side3 ?side4 A23.out).mono ?_
            (case side1 => repeat (first | exact (Kd.R_reads' HO376.out).2.2 | (with_reducible refine Kd.C_alloc ?_ _) | (with_reducible refine Kd.C_drewN ?_ _) | (with_reducible refine Kd.C_drew ?_)))
            (case side2 => exact (Kd.R_reads' HO376.out).2.1)
            (case side3 => repeat (first | exact (Kd.R_reads' HO381.out).2.2 | (with_reducible refine Kd.C_alloc ?_ _) | (with_reducible refine Kd.C_drewN ?_ _) | (with_reducible refine Kd.C_drew ?_)))
            (case side4 => exact (Kd.R_reads' HO381.out).2.1)
            rintro e w59 ⟨v386, rfl, ho0, hb⟩
            refine ⟨_, rfl, ?_⟩
            have n0_ := Aside0.mk (Kd.R_below (by (with_reducible repeat (first | apply Kd.R_alloc | apply Kd.R_drewN | apply Kd.R_drew)); exact HO363.out) hb)
            have n1_ := Aside0.mk (Kd.R_below (by (with_reducible repeat (first | apply Kd.R_alloc | apply Kd.R_drewN | apply Kd.R_drew)); exact HO368.out) hb)
            have n2_ := Aside0.mk (Kd.R_elder' (by (with_reducible repeat (first | apply Kd.R_alloc | apply Kd.R_drewN | apply Kd.R_drew)); exact HO373.out) (Kd.R_base ho0) hb)
            have n3_ := Aside0.mk (Kd.R_below (by (with_reducible repeat (first | apply Kd.R_alloc | apply Kd.R_drewN | apply Kd.R_drew)); exact HO376.out) hb)
            have n4_ := Aside0.mk (Kd.R_below (by (with_reducible repeat (first | apply Kd.R_alloc | apply Kd.R_drewN | apply Kd.R_drew)); exact HO381.out) hb)
            have n5_ := Aside0.mk (Kd.R_lower (Kd.R_new' ho0 (Kd.R_lt (by (with_reducible repeat (first | apply Kd.R_alloc | apply Kd.R_drewN | apply Kd.R_drew)); exact HO373.out))) (below_size (hb3_ HB.out GE357.out GE358.out GE382.out)))
            have n6_ := Aside0.mk (bb_ BK357.out hb)
            have n7_ := Aside0.mk (bb_ BK358.out hb)
            have n8_ := Aside0.mk (bb_ BK382.out hb)
            have n9_ := Aside0.mk (below_step (hb3_ HB.out GE357.out GE358.out GE382.out) hb)
            clear HO363
            clear HO368
            clear HO373
            clear HO376
            clear HO381
            clear BK357
            clear BK358
            clear BK382
            clear HB
            have HO363 := n0_
            have HO368 := n1_
            have HO373 := n2_
            have HO376 := n3_
            have HO381 := n4_
            have HO387 := n5_
            have BK357 := n6_
            have BK358 := n7_
            have BK382 := n8_
            have HB := n9_
            clear n0_ n1_ n2_ n3_ n4_ n5_ n6_ n7_ n8_ n9_
            (try clear hb)
            (try clear hb2)
            (try clear hk)
            (try clear hi)
            (try clear ho0)
            refine hK.out _ _ ⟨(blk_cell BK382.out 0).trans rfl, (blk_cell BK382.out 1).trans rfl, (blk_cell BK382.out 2).trans rfl, (blk_cell BK358.out 0).trans rfl, (blk_cell BK358.out 1).trans rfl⟩ (fun hHeld => ?_)
            clear hK K
            refine norm_ (a' := ?_) ?_ ?_
            rotate_left
            · show Act.put _ (some 45) _ = _
              simp only [Act.put, List.setIfInBounds_toArray, List.set_cons_zero, List.set_cons_succ, i64_w, i32_w]
              rfl
            refine pure_ (i := 6) (N := some 13) (v := ?_) (a' := ?_) #[true, true, true, true, true, true, true] rfl rfl (by kernel_rfl) (fun _ _ _ h => h) (Or.inl ⟨by rfl, ?_⟩) ?_ ?_
            rotate_left
            · intro w'
              go_simp
              with_reducible rfl
            rotate_left
            · simp only [Act.put, List.setIfInBounds_toArray, List.set_cons_zero, List.set_cons_succ, i64_w, i32_w]
              rfl
            refine done_ (by kernel_rfl) ?_
            obtain ⟨Ao60, co60, eo60⟩ := Kd.R_slice HO387.out
            subst eo60
            obtain ⟨Ao61, co61, eo61⟩ := Kd.R_slice HO373.out
            subst eo61
            try go_wp2_with (first | ((with_reducible refine gate_callee (f := 13) rfl ?_); refine goesL_ (some 48) rfl rfl Try.func13 (by kernel_rfl) rfl #[.slice Ao60 t385.length co60, .slice Ao61 t371.length co61] rfl arr_ ?_; (with_reducible refine (laws_eqIntS.calls k _ _ t385 _ _ t371 true _ ?side1 ?side2 ?side3 ?side4 A24.out).mono ?_); (case side1 => repeat (first | exact (Kd.R_reads' HO387.out).2.2 | (with_reducible refine Kd.C_alloc ?_ _) | (with_reducible refine Kd.C_drewN ?_ _) | (with_reducible refine Kd.C_drew ?_))); (case side2 => exact (Kd.R_reads' HO387.out).2.1); (case side3 => repeat (first | exact (Kd.R_reads' HO373.out).2.2 | (with_reducible refine Kd.C_alloc ?_ _) | (with_reducible refine Kd.C_drewN ?_ _) | (with_reducible refine Kd.C_drew ?_))); (case side4 => exact (Kd.R_reads' HO373.out).2.1); rintro e w' ⟨rfl, ⟨nd, rfl⟩⟩; refine ⟨_, rfl, ?_⟩) | ((with_reducible refine gate_callee (f := 11) rfl ?_); refine goesL_ (some 52) rfl rfl Try.func11 (by kernel_rfl) rfl #[.slice A0 l0.length c0] rfl arr_ ?_; (with_reducible refine (laws_toHeardS.calls k _ _ l0 t389 _ ?side1 ?side2 A26.out).mono ?_); (case side1 => repeat (first | exact (Kd.C_below HR0.out (hb3_ HB.out GE357.out GE358.out GE382.out)) | (with_reducible refine Kd.C_alloc ?_ _) | (with_reducible refine Kd.C_drewN ?_ _) | (with_reducible refine Kd.C_drew ?_))); (case side2 => exact HC0.out); rintro e w62 ⟨v390, rfl, ho0, hb⟩; refine ⟨_, rfl, ?_⟩; have n0_ := Aside0.mk (Kd.R_elder' (by (with_reducible repeat (first | apply Kd.R_alloc | apply Kd.R_drewN | apply Kd.R_drew)); exact HO363.out) (Kd.R_base ho0) hb); have n1_ := Aside0.mk (Kd.R_below (by (with_reducible repeat (first | apply Kd.R_alloc | apply Kd.R_drewN | apply Kd.R_drew)); exact HO368.out) hb); have n2_ := Aside0.mk (Kd.R_below (by (with_reducible repeat (first | apply Kd.R_alloc | apply Kd.R_drewN | apply Kd.R_drew)); exact HO373.out) hb); have n3_ := Aside0.mk (Kd.R_elder' (by (with_reducible repeat (first | apply Kd.R_alloc | apply Kd.R_drewN | apply Kd.R_drew)); exact HO376.out) (Kd.R_base ho0) hb); have n4_ := Aside0.mk (Kd.R_below (by (with_reducible repeat (first | apply Kd.R_alloc | apply Kd.R_drewN | apply Kd.R_drew)); exact HO381.out) hb); have n5_ := Aside0.mk (Kd.R_below (by (with_reducible repeat (first | apply Kd.R_alloc | apply Kd.R_drewN | apply Kd.R_drew)); exact HO387.out) hb); have n6_ := Aside0.mk (Kd.R_lower (Kd.R_new' (Kd.R_new' ho0 (Kd.R_lt (by (with_reducible repeat (first | apply Kd.R_alloc | apply Kd.R_drewN | apply Kd.R_drew)); exact HO363.out))) (Kd.R_lt (by (with_reducible repeat (first | apply Kd.R_alloc | apply Kd.R_drewN | apply Kd.R_drew)); exact HO376.out))) (below_size (hb3_ HB.out GE357.out GE358.out GE382.out))); have n7_ := Aside0.mk (bb_ BK357.out hb); have n8_ := Aside0.mk (bb_ BK358.out hb); have n9_ := Aside0.mk (bb_ BK382.out hb); have n10_ := Aside0.mk (below_step (hb3_ HB.out GE357.out GE358.out GE382.out) hb); clear HO363; clear HO368; clear HO373; clear HO376; clear HO381; clear HO387; clear BK357; clear BK358; clear BK382; clear HB; have HO363 := n0_; have HO368 := n1_; have HO373 := n2_; have HO376 := n3_; have HO381 := n4_; have HO387 := n5_; have HO391 := n6_; have BK357 := n7_; have BK358 := n8_; have BK382 := n9_; have HB := n10_; clear n0_ n1_ n2_ n3_ n4_ n5_ n6_ n7_ n8_ n9_ n10_; (try clear hb); (try clear hb2); (try clear hk); (try clear hi); (try clear ho0); obtain ⟨Ao63, co63, eo63⟩ := Kd.R_slice HO391.out; subst eo63) | ((with_reducible refine gate_callee (f := 14) rfl ?_); refine goesL_ (some 53) rfl rfl Try.func14 (by kernel_rfl) rfl #[.slice Ao58 t374.length co58, .slice Ao63 t389.length co63] rfl arr_ ?_; (with_reducible refine (laws_eqHeardS.calls k _ _ t374 _ _ t389 true _ ?side1 ?side2 ?side3 ?side4 A27.out).mono ?_); (case side1 => repeat (first | exact (Kd.R_reads' HO376.out).2.2 | (with_reducible refine Kd.C_alloc ?_ _) | (with_reducible refine Kd.C_drewN ?_ _) | (with_reducible refine Kd.C_drew ?_))); (case side2 => exact (Kd.R_reads' HO376.out).2.1); (case side3 => repeat (first | exact (Kd.R_reads' HO391.out).2.2 | (with_reducible refine Kd.C_alloc ?_ _) | (with_reducible refine Kd.C_drewN ?_ _) | (with_reducible refine Kd.C_drew ?_))); (case side4 => exact (Kd.R_reads' HO391.out).2.1); rintro e w64 ⟨rfl, hb⟩; refine ⟨_, rfl, ?_⟩; have n0_ := Aside0.mk (Kd.R_below (by (with_reducible repeat (first | apply Kd.R_alloc | apply Kd.R_drewN | apply Kd.R_drew)); exact HO363.out) hb); have n1_ := Aside0.mk (Kd.R_below (by (with_reducible repeat (first | apply Kd.R_alloc | apply Kd.R_drewN | apply Kd.R_drew)); exact HO368.out) hb); have n2_ := Aside0.mk (Kd.R_below (by (with_reducible repeat (first | apply Kd.R_alloc | apply Kd.R_drewN | apply Kd.R_drew)); exact HO373.out) hb); have n3_ := Aside0.mk (Kd.R_below (by (with_reducible repeat (first | apply Kd.R_alloc | apply Kd.R_drewN | apply Kd.R_drew)); exact HO376.out) hb); have n4_ := Aside0.mk (Kd.R_below (by (with_reducible repeat (first | apply Kd.R_alloc | apply Kd.R_drewN | apply Kd.R_drew)); exact HO381.out) hb); have n5_ := Aside0.mk (Kd.R_below (by (with_reducible repeat (first | apply Kd.R_alloc | apply Kd.R_drewN | apply Kd.R_drew)); exact HO387.out) hb); have n6_ := Aside0.mk (Kd.R_below (by (with_reducible repeat (first | apply Kd.R_alloc | apply Kd.R_drewN | apply Kd.R_drew)); exact HO391.out) hb); have n7_ := Aside0.mk (bb_ BK357.out hb); have n8_ := Aside0.mk (bb_ BK358.out hb); have n9_ := Aside0.mk (bb_ BK382.out hb); have n10_ := Aside0.mk (below_step (hb3_ HB.out GE357.out GE358.out GE382.out) hb); clear HO363; clear HO368; clear HO373; clear HO376; clear HO381; clear HO387; clear HO391; clear BK357; clear BK358; clear BK382; clear HB; have HO363 := n0_; have HO368 := n1_; have HO373 := n2_; have HO376 := n3_; have HO381 := n4_; have HO387 := n5_; have HO391 := n6_; have BK357 := n7_; have BK358 := n8_; have BK382 := n9_; have HB := n10_; clear n0_ n1_ n2_ n3_ n4_ n5_ n6_ n7_ n8_ n9_ n10_; (try clear hb); (try clear hb2); (try clear hk); (try clear hi)))
            have n0_ := Aside0.mk (Kd.R_drew HO363.out)
            have n1_ := Aside0.mk (Kd.R_drew HO368.out)
            have n2_ := Aside0.mk (Kd.R_drew HO373.out)
            have n3_ := Aside0.mk (Kd.R_drew HO376.out)
            have n4_ := Aside0.mk (Kd.R_drew HO381.out)
            have n5_ := Aside0.mk (Kd.R_drew HO387.out)
            have n6_ := Aside0.mk (Kd.R_drew HO391.out)
            have n7_ := Aside0.mk (blk_drew BK357.out)
            have n8_ := Aside0.mk (blk_drew BK358.out)
            have n9_ := Aside0.mk (blk_drew BK382.out)
            have n10_ := Aside0.mk (below_drew1 HB.out)
            clear HO363
            clear HO368
            clear HO373
            clear HO376
            clear HO381
            clear HO387
            clear HO391
            clear BK357
            clear BK358
            clear BK382
            clear HB
            have HO363 := n0_
            have HO368 := n1_
            have HO373 := n2_
            have HO376 := n3_
            have HO381 := n4_
            have HO387 := n5_
            have HO391 := n6_
            have BK357 := n7_
            have BK358 := n8_
            have BK382 := n9_
            have HB := n10_
            clear n0_ n1_ n2_ n3_ n4_ n5_ n6_ n7_ n8_ n9_ n10_
            refine start_ (n := 5) (S := fun w' => w'.cell? ⟨gb382, 0, none⟩ = some (.int .i64 t377) ∧ w'.cell? ⟨gb382, 1, none⟩ = some (.int .i64 t378) ∧ w'.cell? ⟨gb382, 2, none⟩ = some (.slice Ao54 t379.length co54) ∧ w'.cell? ⟨gb357, 0, none⟩ = some (.int .i64 a1_0) ∧ w'.cell? ⟨gb357, 1, none⟩ = some (.int .i64 a1_1) ∧ w'.cell? ⟨gb357, 2, none⟩ = some (.slice A1_2 l1_2.length c1_2)) (ds := []) #[false, false, false, false, false] (by kernel_rfl) rfl rfl ⟨(blk_cell BK382.out 0).trans rfl, (blk_cell BK382.out 1).trans rfl, (blk_cell BK382.out 2).trans rfl, (blk_cell BK357.out 0).trans rfl, (blk_cell BK357.out 1).trans rfl, (blk_cell BK357.out 2).trans rfl⟩ (fun hHeld => ?_)
            generalize w64.drew = w65 at HO363 HO368 HO373 HO376 HO381 HO387 HO391 BK357 BK358 BK382 HB hHeld ⊢
            refine take_ (i := 0) (N := some 55) (v := ?_) (a' := ?_) #[true, false, false, false, false] rfl rfl (by kernel_rfl) (fun _ _ _ h => h) (Or.inl ⟨by rfl, ?_⟩) hHeld ?_ ?_
            rotate_left
            · rintro w' ⟨s0, s1, s2, s3, s4, s5⟩
              go_simp
              with_reducible rfl
            rotate_left
            · simp only [Act.put, List.setIfInBounds_toArray, List.set_cons_zero, List.set_cons_succ, i64_w, i32_w]
              rfl
            refine take_ (i := 1) (N := some 56) (v := ?_) (a' := ?_) #[true, true, false, false, false] rfl rfl (by kernel_rfl) (fun _ _ _ h => h) (Or.inl ⟨by rfl, ?_⟩) hHeld ?_ ?_
            rotate_left
            · rintro w' ⟨s0, s1, s2, s3, s4, s5⟩
              go_simp
              with_reducible rfl
            rotate_left
            · simp only [Act.put, List.setIfInBounds_toArray, List.set_cons_zero, List.set_cons_succ, i64_w, i32_w]
              rfl
            refine one_ (i := 2) (N := some 57) #[true, true, true, false, false] rfl rfl (by kernel_rfl) (by decide) (fun K hK => ?_)
            refine goes_ Try.func20 (by kernel_rfl) rfl #[.agg #[.int .i64 a1_0, .int .i64 a1_1, .slice A1_2 l1_2.length c1_2]] (by rfl) rfl rfl arr_ ?_
            with_reducible refine (laws_toPlan.calls k a1_0 a1_1 _ _ l1_2 t393 t394 t395 _ ?side1 ?side2 A29.out).mono ?_
            (case side1 => exact kc_ (Kd.C_below HR1_2.out HB.out))
            (case side2 => exact HC1_2.out)
            rintro e w66 ⟨v396, rfl, ho0, hb⟩
            refine ⟨_, rfl, ?_⟩
            have n0_ := Aside0.mk (Kd.R_below (by (with_reducible repeat (first | apply Kd.R_alloc | apply Kd.R_drewN | apply Kd.R_drew)); exact HO363.out) hb)
            have n1_ := Aside0.mk (Kd.R_elder' (by (with_reducible repeat (first | apply Kd.R_alloc | apply Kd.R_drewN | apply Kd.R_drew)); exact HO368.out) (Kd.R_base ho0) hb)
            have n2_ := Aside0.mk (Kd.R_below (by (with_reducible repeat (first | apply Kd.R_alloc | apply Kd.R_drewN | apply Kd.R_drew)); exact HO373.out) hb)
            have n3_ := Aside0.mk (Kd.R_below (by (with_reducible repeat (first | apply Kd.R_alloc | apply Kd.R_drewN | apply Kd.R_drew)); exact HO376.out) hb)
            have n4_ := Aside0.mk (Kd.R_elder' (by (with_reducible repeat (first | apply Kd.R_alloc | apply Kd.R_drewN | apply Kd.R_drew)); exact HO381.out) (Kd.R_base ho0) hb)
            have n5_ := Aside0.mk (Kd.R_below (by (with_reducible repeat (first | apply Kd.R_alloc | apply Kd.R_drewN | apply Kd.R_drew)); exact HO387.out) hb)
            have n6_ := Aside0.mk (Kd.R_below (by (with_reducible repeat (first | apply Kd.R_alloc | apply Kd.R_drewN | apply Kd.R_drew)); exact HO391.out) hb)
            have n7_ := Aside0.mk (Kd.R_lower (Kd.R_new' (Kd.R_new' ho0 (Kd.R_lt (by (with_reducible repeat (first | apply Kd.R_alloc | apply Kd.R_drewN | apply Kd.R_drew)); exact HO368.out))) (Kd.R_lt (by (with_reducible repeat (first | apply Kd.R_alloc | apply Kd.R_drewN | apply Kd.R_drew)); exact HO381.out))) (below_size (hb3_ HB.out GE357.out GE358.out GE382.out)))
            have n8_ := Aside0.mk (bb_ BK357.out hb)
            have n9_ := Aside0.mk (bb_ BK358.out hb)
            have n10_ := Aside0.mk (bb_ BK382.out hb)
            have n11_ := Aside0.mk (below_step (hb3_ HB.out GE357.out GE358.out GE382.out) hb)
            clear HO363
            clear HO368
            clear HO373
            clear HO376
            clear HO381
            clear HO387
            clear HO391
            clear BK357
            clear BK358
            clear BK382
            clear HB
            have HO363 := n0_
            have HO368 := n1_
            have HO373 := n2_
            have HO376 := n3_
            have HO381 := n4_
            have HO387 := n5_
            have HO391 := n6_
            have HO397 := n7_
            have BK357 := n8_
            have BK358 := n9_
            have BK382 := n10_
            have HB := n11_
            clear n0_ n1_ n2_ n3_ n4_ n5_ n6_ n7_ n8_ n9_ n10_ n11_
            (try clear hb)
            (try clear hb2)
            (try clear hk)
            (try clear hi)
            (try clear ho0)
            obtain ⟨Ao67, co67, eo67⟩ := Kd.R_slice HO397.out
            (first | subst eo67 | (injection eo67 with f1_ f2_ f3_; have f4_ := f1_.symm; have f5_ := f3_.symm; clear f1_ f2_ f3_; subst f4_; subst f5_))
            refine hK.out _ _ ⟨(blk_cell BK382.out 0).trans rfl, (blk_cell BK382.out 1).trans rfl, (blk_cell BK382.out 2).trans rfl, (blk_cell BK357.out 0).trans rfl, (blk_cell BK357.out 1).trans rfl, (blk_cell BK357.out 2).trans rfl⟩ (fun hHeld => ?_)
            clear hK K
            refine norm_ (a' := ?_) ?_ ?_
            rotate_left
            · show Act.put _ (some 57) _ = _
              simp only [Act.put, List.setIfInBounds_toArray, List.set_cons_zero, List.set_cons_succ, i64_w, i32_w]
              rfl
            refine one_ (i := 3) (N := some 58) #[true, true, true, true, false] rfl rfl (by kernel_rfl) (by decide) (fun K hK => ?_)
            refine goes_ Try.func23 (by kernel_rfl) rfl #[.agg #[.int .i64 t377, .int .i64 t378, .slice Ao54 t379.length co54], .agg #[.int .i64 t393, .int .i64 t394, .slice Ao67 t395.length co67]] (by rfl) rfl rfl arr_ ?_
            with_reducible refine (laws_eqPlan.calls k t377 t378 _ _ t379 t393 t394 _ _ t395 true _ ?side1 ?side2 ?side3 ?side4 A30.out).mono ?_
            (case side1 => repeat (first | exact (Kd.R_reads' HO381.out).2.2 | (with_reducible refine Kd.C_alloc ?_ _) | (with_reducible refine Kd.C_drewN ?_ _) | (with_reducible refine Kd.C_drew ?_)))
            (case side2 => exact (Kd.R_reads' HO381.out).2.1)
            (case side3 => repeat (first | exact (Kd.R_reads' HO397.out).2.2 | (with_reducible refine Kd.C_alloc ?_ _) | (with_reducible refine Kd.C_drewN ?_ _) | (with_reducible refine Kd.C_drew ?_)))
            (case side4 => exact (Kd.R_reads' HO397.out).2.1)
            rintro e w68 ⟨rfl, hb⟩
            refine ⟨_, rfl, ?_⟩
            have n0_ := Aside0.mk (Kd.R_below (by (with_reducible repeat (first | apply Kd.R_alloc | apply Kd.R_drewN | apply Kd.R_drew)); exact HO363.out) hb)
            have n1_ := Aside0.mk (Kd.R_below (by (with_reducible repeat (first | apply Kd.R_alloc | apply Kd.R_drewN | apply Kd.R_drew)); exact HO368.out) hb)
            have n2_ := Aside0.mk (Kd.R_below (by (with_reducible repeat (first | apply Kd.R_alloc | apply Kd.R_drewN | apply Kd.R_drew)); exact HO373.out) hb)
            have n3_ := Aside0.mk (Kd.R_below (by (with_reducible repeat (first | apply Kd.R_alloc | apply Kd.R_drewN | apply Kd.R_drew)); exact HO376.out) hb)
            have n4_ := Aside0.mk (Kd.R_below (by (with_reducible repeat (first | apply Kd.R_alloc | apply Kd.R_drewN | apply Kd.R_drew)); exact HO381.out) hb)
            have n5_ := Aside0.mk (Kd.R_below (by (with_reducible repeat (first | apply Kd.R_alloc | apply Kd.R_drewN | apply Kd.R_drew)); exact HO387.out) hb)
            have n6_ := Aside0.mk (Kd.R_below (by (with_reducible repeat (first | apply Kd.R_alloc | apply Kd.R_drewN | apply Kd.R_drew)); exact HO391.out) hb)
            have n7_ := Aside0.mk (Kd.R_below (by (with_reducible repeat (first | apply Kd.R_alloc | apply Kd.R_drewN | apply Kd.R_drew)); exact HO397.out) hb)
            have n8_ := Aside0.mk (bb_ BK357.out hb)
            have n9_ := Aside0.mk (bb_ BK358.out hb)
            have n10_ := Aside0.mk (bb_ BK382.out hb)
            have n11_ := Aside0.mk (below_step (hb3_ HB.out GE357.out GE358.out GE382.out) hb)
            clear HO363
            clear HO368
            clear HO373
            clear HO376
            clear HO381
            clear HO387
            clear HO391
            clear HO397
            clear BK357
            clear BK358
            clear BK382
            clear HB
            have HO363 := n0_
            have HO368 := n1_
            have HO373 := n2_
            have HO376 := n3_
            have HO381 := n4_
            have HO387 := n5_
            have HO391 := n6_
            have HO397 := n7_
            have BK357 := n8_
            have BK358 := n9_
            have BK382 := n10_
            have HB := n11_
            clear n0_ n1_ n2_ n3_ n4_ n5_ n6_ n7_ n8_ n9_ n10_ n11_
            (try clear hb)
            (try clear hb2)
            (try clear hk)
            (try clear hi)
            refine hK.out _ _ ⟨(blk_cell BK382.out 0).trans rfl, (blk_cell BK382.out 1).trans rfl, (blk_cell BK382.out 2).trans rfl, (blk_cell BK357.out 0).trans rfl, (blk_cell BK357.out 1).trans rfl, (blk_cell BK357.out 2).trans rfl⟩ (fun hHeld => ?_)
            clear hK K
            refine norm_ (a' := ?_) ?_ ?_
            rotate_left
            · show Act.put _ (some 58) _ = _
              simp only [Act.put, List.setIfInBounds_toArray, List.set_cons_zero, List.set_cons_succ, i64_w, i32_w]
              rfl
            refine pure_ (i := 4) (N := some 59) (v := ?_) (a' := ?_) #[true, true, true, true, true] rfl rfl (by kernel_rfl) (fun _ _ _ h => h) (Or.inl ⟨by rfl, ?_⟩) ?_ ?_
            rotate_left
            · intro w'
              go_simp
              with_reducible rfl
            rotate_left
            · simp only [Act.put, List.setIfInBounds_toArray, List.set_cons_zero, List.set_cons_succ, i64_w, i32_w]
              rfl
            refine done_ (by kernel_rfl) ?_
            go_upto_region 21 with (first | ((with_reducible refine gate_callee (f := 15) rfl ?_); refine goesL_ (some 62) rfl rfl Try.func15 (by kernel_rfl) rfl #[.slice Ao58 t374.length co58, .int .i64 1] rfl arr_ ?_; (with_reducible refine (laws_markHeardS.calls k (fun k_ => some k_ = (.slice Ao58 t374.length co58 : Value).ownBlock) (.slice Ao58 t374.length co58) t374 1 t399 t400 w _ ?side1 ?side2 A32.out).mono ?_); (case side1 => repeat (first | (with_reducible first | exact HB.out | apply below_alloc | apply pw_below_drewN | apply below_drew1 | refine below_set ?_ GE357.out | refine below_set ?_ GE358.out | refine below_set ?_ GE382.out) | exact HB.out)); (case side2 => exact Kd.R_tight rfl HO376.out); rintro e w69 ⟨rfl, hy0, hb, hkp⟩; refine ⟨_, rfl, ?_⟩; have n0_ := Aside0.mk (blk_kept (bk_ BK357.out) hkp (fun hs_ => (fun e_ => (Kd.R_ne HO376.out BK357.out (by decide)) e_) hs_)); have n1_ := Aside0.mk (blk_kept (bk_ BK358.out) hkp (fun hs_ => (fun e_ => (Kd.R_ne HO376.out BK358.out (by decide)) e_) hs_)); have n2_ := Aside0.mk (Kd.R_mono (ok' := fun k_ => some k_ ≠ (.slice Ao58 t374.length co58 : Value).ownBlock ∧ some k_ ≠ (.slice Ao63 t389.length co63 : Value).ownBlock) (Kd.R_keptB (HO363.out) hkp (fun k_ hk_ hs_ => (hk_.1) hs_)) (fun k_ hk_ => ⟨hk_.1.1, hk_.1.2⟩)); have n3_ := Aside0.mk (Kd.R_mono (ok' := fun k_ => some k_ ≠ (.slice Ao54 t379.length co54 : Value).ownBlock ∧ some k_ ≠ (.slice Ao67 t395.length co67 : Value).ownBlock) (Kd.R_keptB ((Kd.R_apart' HO368.out (Kd.R_typed HO376.out) (by decide))) hkp (fun k_ hk_ hs_ => (hk_.2) hs_)) (fun k_ hk_ => ⟨hk_.1.1.1, hk_.1.1.2⟩)); have n4_ := Aside0.mk (Kd.R_mono (ok' := fun k_ => some k_ ≠ (.slice Ao60 t385.length co60 : Value).ownBlock) (Kd.R_keptB ((Kd.R_apart' HO373.out (Kd.R_typed HO376.out) (by decide))) hkp (fun k_ hk_ hs_ => (hk_.2) hs_)) (fun k_ hk_ => hk_.1.1.2)); have n5_ := Aside0.mk (Kd.R_reok rfl hy0 (fun k_ e_ => HO376.out.1 k_ e_)); have n6_ := Aside0.mk (Kd.R_mono (ok' := fun k_ => some k_ ≠ (.slice Ao45 t366.length co45 : Value).ownBlock ∧ some k_ ≠ (.slice Ao67 t395.length co67 : Value).ownBlock) (Kd.R_keptB ((Kd.R_apart' HO381.out (Kd.R_typed HO376.out) (by decide))) hkp (fun k_ hk_ hs_ => (hk_.2) hs_)) (fun k_ hk_ => ⟨hk_.1.1.1, hk_.1.1.2⟩)); have n7_ := Aside0.mk (blk_kept (bk_ BK382.out) hkp (fun hs_ => (fun e_ => (Kd.R_ne HO376.out BK382.out (by decide)) e_) hs_)); have n8_ := Aside0.mk (Kd.R_mono (ok' := fun k_ => some k_ ≠ (.slice Ao61 t371.length co61 : Value).ownBlock) (Kd.R_keptB ((Kd.R_apart' HO387.out (Kd.R_typed HO376.out) (by decide))) hkp (fun k_ hk_ hs_ => (hk_.2) hs_)) (fun k_ hk_ => hk_.1.1.2)); have n9_ := Aside0.mk (Kd.R_mono (ok' := fun k_ => some k_ ≠ (.slice Ao44 t361.length co44 : Value).ownBlock ∧ some k_ ≠ (.slice Ao58 t374.length co58 : Value).ownBlock) (Kd.R_keptB (HO391.out) hkp (fun k_ hk_ hs_ => (hk_.2) hs_)) (fun k_ hk_ => ⟨hk_.1.1.2, hk_.1.2⟩)); have n10_ := Aside0.mk (Kd.R_mono (ok' := fun k_ => some k_ ≠ (.slice Ao45 t366.length co45 : Value).ownBlock ∧ some k_ ≠ (.slice Ao54 t379.length co54 : Value).ownBlock) (Kd.R_keptB ((Kd.R_apart' HO397.out (Kd.R_typed HO376.out) (by decide))) hkp (fun k_ hk_ hs_ => (hk_.2) hs_)) (fun k_ hk_ => ⟨hk_.1.1.1.2, hk_.1.1.2⟩)); have n11_ := Aside0.mk (hb); clear BK357; clear BK358; clear HO363; clear HO368; clear HO373; clear HO376; clear HO381; clear BK382; clear HO387; clear HO391; clear HO397; clear HB; have BK357 := n0_; have BK358 := n1_; have HO363 := n2_; have HO368 := n3_; have HO373 := n4_; have HO376 := n5_; have HO381 := n6_; have BK382 := n7_; have HO387 := n8_; have HO391 := n9_; have HO397 := n10_; have HB := n11_; clear n0_ n1_ n2_ n3_ n4_ n5_ n6_ n7_ n8_ n9_ n10_ n11_; (try clear hb); (try clear hkp); (try clear hy0); have hcz70_0 := bc_ BK382.out 0 (.int .i64 t377) rfl; have hcz70_1 := bc_ BK382.out 1 (.int .i64 t378) rfl; have hcz70_2 := bc_ BK382.out 2 (.slice Ao54 t379.length co54) rfl; have hfz70_0 := blk_frozen BK382.out 0; have hfz70_1 := blk_frozen BK382.out 1; have hfz70_2 := blk_frozen BK382.out 2) | ((with_reducible refine gate_callee (f := 24) rfl ?_); refine goesL_ (some 65) rfl rfl Try.func24 (by kernel_rfl) rfl #[.agg #[.int .i64 t377, .int .i64 t378, .slice Ao54 t379.length co54], .int .i64 t399] rfl arr_ ?_; (with_reducible refine (laws_markPlan.calls k t377 t378 (fun k_ => some k_ = (.slice Ao54 t379.length co54 : Value).ownBlock) (.slice Ao54 t379.length co54) t379 t399 t401 t402 w _ ?side1 ?side2 A33.out).mono ?_); (case side1 => repeat (first | (with_reducible first | exact HB.out | apply below_alloc | apply pw_below_drewN | apply below_drew1 | refine below_set ?_ GE357.out | refine below_set ?_ GE358.out | refine below_set ?_ GE382.out) | exact HB.out)); (case side2 => exact Kd.R_tight rfl HO381.out); rintro e w71 ⟨rfl, hy0, hb, hkp⟩; refine ⟨_, rfl, ?_⟩; have n0_ := Aside0.mk (blk_kept (bk_ BK357.out) hkp (fun hs_ => (fun e_ => (Kd.R_ne HO381.out BK357.out (by decide)) e_) hs_)); have n1_ := Aside0.mk (blk_kept (bk_ BK358.out) hkp (fun hs_ => (fun e_ => (Kd.R_ne HO381.out BK358.out (by decide)) e_) hs_)); have n2_ := Aside0.mk (Kd.R_mono (ok' := fun k_ => some k_ ≠ (.slice Ao58 t374.length co58 : Value).ownBlock ∧ some k_ ≠ (.slice Ao63 t389.length co63 : Value).ownBlock) (Kd.R_keptB ((Kd.R_apart' HO363.out (Kd.R_typed HO381.out) (by decide))) hkp (fun k_ hk_ hs_ => (hk_.2) hs_)) (fun k_ hk_ => ⟨hk_.1.1.1, hk_.1.1.2⟩)); have n3_ := Aside0.mk (Kd.R_mono (ok' := fun k_ => some k_ ≠ (.slice Ao54 t379.length co54 : Value).ownBlock ∧ some k_ ≠ (.slice Ao67 t395.length co67 : Value).ownBlock) (Kd.R_keptB (HO368.out) hkp (fun k_ hk_ hs_ => (hk_.1) hs_)) (fun k_ hk_ => ⟨hk_.1.1, hk_.1.2⟩)); have n4_ := Aside0.mk (Kd.R_mono (ok' := fun k_ => some k_ ≠ (.slice Ao60 t385.length co60 : Value).ownBlock) (Kd.R_keptB ((Kd.R_apart' HO373.out (Kd.R_typed HO381.out) (by decide))) hkp (fun k_ hk_ hs_ => (hk_.2) hs_)) (fun k_ hk_ => hk_.1.1)); have n5_ := Aside0.mk (Kd.R_mono (ok' := fun k_ => some k_ ≠ (.slice Ao44 t361.length co44 : Value).ownBlock ∧ some k_ ≠ (.slice Ao63 t389.length co63 : Value).ownBlock) (Kd.R_keptB ((Kd.R_apart' HO376.out (Kd.R_typed HO381.out) (by decide))) hkp (fun k_ hk_ hs_ => (hk_.2) hs_)) (fun k_ hk_ => ⟨hk_.1.1.1, hk_.1.1.2⟩)); have n6_ := Aside0.mk (Kd.R_reok rfl hy0 (fun k_ e_ => HO381.out.1 k_ e_)); have n7_ := Aside0.mk (blk_kept (bk_ BK382.out) hkp (fun hs_ => (fun e_ => (Kd.R_ne HO381.out BK382.out (by decide)) e_) hs_)); have n8_ := Aside0.mk (Kd.R_mono (ok' := fun k_ => some k_ ≠ (.slice Ao61 t371.length co61 : Value).ownBlock) (Kd.R_keptB ((Kd.R_apart' HO387.out (Kd.R_typed HO381.out) (by decide))) hkp (fun k_ hk_ hs_ => (hk_.2) hs_)) (fun k_ hk_ => hk_.1.1)); have n9_ := Aside0.mk (Kd.R_mono (ok' := fun k_ => some k_ ≠ (.slice Ao44 t361.length co44 : Value).ownBlock ∧ some k_ ≠ (.slice Ao58 t374.length co58 : Value).ownBlock) (Kd.R_keptB ((Kd.R_apart' HO391.out (Kd.R_typed HO381.out) (by decide))) hkp (fun k_ hk_ hs_ => (hk_.2) hs_)) (fun k_ hk_ => ⟨hk_.1.1.1, hk_.1.1.2⟩)); have n10_ := Aside0.mk (Kd.R_mono (ok' := fun k_ => some k_ ≠ (.slice Ao45 t366.length co45 : Value).ownBlock ∧ some k_ ≠ (.slice Ao54 t379.length co54 : Value).ownBlock) (Kd.R_keptB (HO397.out) hkp (fun k_ hk_ hs_ => (hk_.2) hs_)) (fun k_ hk_ => ⟨hk_.1.1, hk_.1.2⟩)); have n11_ := Aside0.mk (hb); clear BK357; clear BK358; clear HO363; clear HO368; clear HO373; clear HO376; clear HO381; clear BK382; clear HO387; clear HO391; clear HO397; clear HB; have BK357 := n0_; have BK358 := n1_; have HO363 := n2_; have HO368 := n3_; have HO373 := n4_; have HO376 := n5_; have HO381 := n6_; have BK382 := n7_; have HO387 := n8_; have HO391 := n9_; have HO397 := n10_; have HB := n11_; clear n0_ n1_ n2_ n3_ n4_ n5_ n6_ n7_ n8_ n9_ n10_ n11_; (try clear hb); (try clear hkp); (try clear hy0)))
            (try simp only [Act.put, List.setIfInBounds_toArray, List.set_cons_zero, List.set_cons_succ])
            go_cut [73] (fun v73 wc => ∃ (kq : Nat) (x73_33 : Bool), v73 = .bool x73_33 ∧ Aside0 (laws_FnExactHeardNow.j0 kq l0 a3 t371 t385 x73_33 a1_0 a1_1 l1_2 a2_0 a2_1 = some r) ∧ Aside0 (kq ≤ k) ∧ Aside0 (Kd.R (Kd.int .i64) 3 wc w.heap.size (fun k_ => some k_ ≠ ((.slice Ao60 t385.length co60) : Value).ownBlock) (.slice Ao61 t371.length co61) t371) ∧ Aside0 (Kd.R (Kd.int .i64) 3 wc w.heap.size (fun k_ => some k_ ≠ ((.slice Ao61 t371.length co61) : Value).ownBlock) (.slice Ao60 t385.length co60) t385) ∧ Aside0 (Kd.R k89 89 wc w.heap.size (fun _ => True) (.slice Ao54 t379.length co54) t402) ∧ Aside0 (wc.heap[gb357]? = some (.cells #[.int .i64 a1_0, .int .i64 a1_1, (.slice A1_2 l1_2.length c1_2)] 35 (0, 0))) ∧ Aside0 (wc.heap[gb358]? = some (.cells #[.int .i64 a2_0, .int .i64 a2_1] 37 (0, 0))) ∧ Aside0 (wc.heap[gb382]? = some (.cells #[.int .i64 t377, .int .i64 t378, (.slice Ao54 t379.length co54)] 42 (0, 0))) ∧ Aside0 (Below w.heap.size w wc))
            case first =>
              have H := HC34.out
              clear HC34
              by_cases c72 : t401 < 0
              · rw [if_pos c72] at H
                have c72b0 : decide (t401 < 0) = true := decide_eq_true c72
                clear c72
                (first | rw [c72b0] | (simp only [i64_w, i32_w]; rw [c72b0]) | skip)
                have H' := Aside0.mk H
                clear H
                go_wp2
                go_meet
                case rel => exact ⟨_, (true), (by first | rfl | (simp; done) | (simp [*]; done)), H', ⟨by first | omega | exact Nat.le_refl _⟩, ⟨by (with_reducible repeat (first | apply Kd.R_alloc | apply Kd.R_drewN | apply Kd.R_drew)); exact HO373.out⟩, ⟨by (with_reducible repeat (first | apply Kd.R_alloc | apply Kd.R_drewN | apply Kd.R_drew)); exact HO387.out⟩, ⟨by (with_reducible repeat (first | apply Kd.R_alloc | apply Kd.R_drewN | apply Kd.R_drew)); exact Kd.R_mono HO381.out (fun _ hk => trivial)⟩, ⟨bk_ BK357.out⟩, ⟨bk_ BK358.out⟩, ⟨bk_ BK382.out⟩, ⟨hb3_ HB.out GE357.out GE358.out GE382.out⟩⟩
              · rw [if_neg c72] at H
                have c72b0 : decide (t401 < 0) = false := decide_eq_false c72
                clear c72
                (first | rw [c72b0] | (simp only [i64_w, i32_w]; rw [c72b0]) | skip)
                replace H := Option.bind_eq_some_iff.mp H
                obtain ⟨t403, A730, H⟩ := H
                replace H : (laws_FnExactHeardNow.j0 k l0 a3 t371 t385 (!t403) a1_0 a1_1 l1_2 a2_0 a2_1) = some r := H
                have A73 := Aside0.mk A730
                clear A730
                have H' := Aside0.mk H
                clear H
                go_wp2_with (first | (go_at_call 13; (with_reducible refine (laws_eqIntS.calls k _ _ t385 _ _ t371 t403 _ ?side1 ?side2 ?side3 ?side4 A73.out).mono ?_); (case side1 => repeat (first | exact (Kd.R_reads' HO387.out).2.2 | (with_reducible refine Kd.C_alloc ?_ _) | (with_reducible refine Kd.C_drewN ?_ _) | (with_reducible refine Kd.C_drew ?_))); (case side2 => exact (Kd.R_reads' HO387.out).2.1); (case side3 => repeat (first | exact (Kd.R_reads' HO373.out).2.2 | (with_reducible refine Kd.C_alloc ?_ _) | (with_reducible refine Kd.C_drewN ?_ _) | (with_reducible refine Kd.C_drew ?_))); (case side4 => exact (Kd.R_reads' HO373.out).2.1); rintro e w' ⟨rfl, ⟨nd, rfl⟩⟩))
                go_meet
                case rel => exact ⟨_, (!t403), (by first | rfl | (simp; done) | (simp [*]; done)), H', ⟨by first | omega | exact Nat.le_refl _⟩, ⟨by (with_reducible repeat (first | apply Kd.R_alloc | apply Kd.R_drewN | apply Kd.R_drew)); exact HO373.out⟩, ⟨by (with_reducible repeat (first | apply Kd.R_alloc | apply Kd.R_drewN | apply Kd.R_drew)); exact HO387.out⟩, ⟨by (with_reducible repeat (first | apply Kd.R_alloc | apply Kd.R_drewN | apply Kd.R_drew)); exact Kd.R_mono HO381.out (fun _ hk => trivial)⟩, ⟨bk_ BK357.out⟩, ⟨bk_ BK358.out⟩, ⟨bk_ BK382.out⟩, ⟨hb3_ HB.out GE357.out GE358.out GE382.out⟩⟩
            case rest =>
              clear HC34
              try clear c1
              try clear c2
              try clear p2
              try clear c5
              try clear c7
              try clear c11
              try clear c13
              try clear c14
              try clear c15
              try clear c19
              try clear c20
              try clear c21
              try clear c22
              try clear c23
              try clear c24
              try clear c51
              try clear c52
              try clear c72
              try clear c72b0
              try clear hcz48_0
              try clear hcz48_1
              try clear hcz48_2
              try clear hcz53_0
              try clear hcz53_1
              try clear hcz53_2
              try clear hcz70_0
              try clear hcz70_1
              try clear hcz70_2
              try clear hfz48_0
              try clear hfz48_1
              try clear hfz48_2
              try clear hfz53_0
              try clear hfz53_1
              try clear hfz53_2
              try clear hfz70_0
              try clear hfz70_1
              try clear hfz70_2
              obtain ⟨kq, x73_33, rfl, HA, HJ33, HO_10, HO_13, HO_383002, BK357, BK358, BK382, HB⟩ := hcut
              have hl383002_33 := (Kd.R_reads' HO_383002.out).1
              rw [hl383002_33] at HO_383002
              (try simp only [hl383002_33])
              (try simp only [hl383002_33] at BK357)
              (try simp only [hl383002_33] at BK358)
              (try simp only [hl383002_33] at BK382)
              (try simp only [hl383002_33] at HO_10)
              (try simp only [hl383002_33] at HO_13)
              cases kq with
              | zero => exact absurd HA.out (by simp [laws_FnExactHeardNow.j0])
              | succ kj33 =>
                have H := HA.out
                clear HA
                simp only [laws_FnExactHeardNow.j0] at H
                by_cases c74 : x73_33 = true
                · subst c74
                  have H1 : (some false) = some r := by rw [if_pos rfl] at H; exact H
                  clear H
                  have H := H1
                  clear H1
                  obtain rfl := Option.some.inj H
                  exact absurd hr_ (by decide)
                · replace c74 := Bool.eq_false_iff.mpr c74
                  subst c74
                  have H1 : ((laws_markIntS.f kj33 t385 1).bind fun bt404 => ((laws_heldIntS.f kj33 bt404.2 1).bind fun t406 => (if t406 < 0 then (some false) else (if t406 = bt404.1 then ((laws_toHeardS.f kj33 l0).bind fun t407 => ((laws_toPlan.f kj33 a1_0 a1_1 l1_2).bind fun bt410 => ((laws_toDrift.f a2_0 a2_1).bind fun bt415 => ((impl_HeardNow.f kj33 t407 bt410.1 bt410.2.1 bt410.2.2 bt415.1 bt415.2 a3).bind fun t417 => ((laws_eqIntS.f kj33 t417 t371).bind fun t420 => (if t420 = true then ((laws_heldIntS.f kj33 bt404.2 1).bind fun t421 => (if t421 < 0 then (some false) else (if t421 = bt404.1 then (some true) else (some false)))) else (some false))))))) else (some false))))) = some r := by rw [if_neg (show ¬ (false = true) by decide)] at H; exact H
                  clear H
                  have H := H1
                  clear H1
                  replace H := Option.bind_eq_some_iff.mp H
                  obtain ⟨⟨t404, t405⟩, A750, H⟩ := H
                  replace H : ((laws_heldIntS.f kj33 t405 1).bind fun t406 => (if t406 < 0 then (some false) else (if t406 = t404 then ((laws_toHeardS.f kj33 l0).bind fun t407 => ((laws_toPlan.f kj33 a1_0 a1_1 l1_2).bind fun bt410 => ((laws_toDrift.f a2_0 a2_1).bind fun bt415 => ((impl_HeardNow.f kj33 t407 bt410.1 bt410.2.1 bt410.2.2 bt415.1 bt415.2 a3).bind fun t417 => ((laws_eqIntS.f kj33 t417 t371).bind fun t420 => (if t420 = true then ((laws_heldIntS.f kj33 t405 1).bind fun t421 => (if t421 < 0 then (some false) else (if t421 = t404 then (some true) else (some false)))) else (some false))))))) else (some false)))) = some r := H
                  have A75 := Aside0.mk A750
                  clear A750
                  replace H := Option.bind_eq_some_iff.mp H
                  obtain ⟨t406, A760, H⟩ := H
                  replace H : (if t406 < 0 then (some false) else (if t406 = t404 then ((laws_toHeardS.f kj33 l0).bind fun t407 => ((laws_toPlan.f kj33 a1_0 a1_1 l1_2).bind fun bt410 => ((laws_toDrift.f a2_0 a2_1).bind fun bt415 => ((impl_HeardNow.f kj33 t407 bt410.1 bt410.2.1 bt410.2.2 bt415.1 bt415.2 a3).bind fun t417 => ((laws_eqIntS.f kj33 t417 t371).bind fun t420 => (if t420 = true then ((laws_heldIntS.f kj33 t405 1).bind fun t421 => (if t421 < 0 then (some false) else (if t421 = t404 then (some true) else (some false)))) else (some false))))))) else (some false))) = some r := H
                  have A76 := Aside0.mk A760
                  clear A760
                  by_cases c77 : t406 < 0
                  · rw [if_pos c77] at H
                    have c77b0 : decide (t406 < 0) = true := decide_eq_true c77
                    clear c77
                    obtain rfl := Option.some.inj H
                    exact absurd hr_ (by decide)
                  · rw [if_neg c77] at H
                    have c77b0 : decide (t406 < 0) = false := decide_eq_false c77
                    clear c77
                    by_cases c78 : t406 = t404
                    · rw [if_pos c78] at H
                      have c78b0 : (t406 == t404) = true := beq_iff_eq.mpr c78
                      have c78b1 : (t406 != t404) = false := bne_eq_false_iff_eq.mpr c78
                      clear c78
                      replace H := Option.bind_eq_some_iff.mp H
                      obtain ⟨t407, A790, H⟩ := H
                      replace H : ((laws_toPlan.f kj33 a1_0 a1_1 l1_2).bind fun bt410 => ((laws_toDrift.f a2_0 a2_1).bind fun bt415 => ((impl_HeardNow.f kj33 t407 bt410.1 bt410.2.1 bt410.2.2 bt415.1 bt415.2 a3).bind fun t417 => ((laws_eqIntS.f kj33 t417 t371).bind fun t420 => (if t420 = true then ((laws_heldIntS.f kj33 t405 1).bind fun t421 => (if t421 < 0 then (some false) else (if t421 = t404 then (some true) else (some false)))) else (some false)))))) = some r := H
                      have A79 := Aside0.mk A790
                      clear A790
                      replace H := Option.bind_eq_some_iff.mp H
                      obtain ⟨⟨t410, t411, t412⟩, A800, H⟩ := H
                      replace H : ((laws_toDrift.f a2_0 a2_1).bind fun bt415 => ((impl_HeardNow.f kj33 t407 t410 t411 t412 bt415.1 bt415.2 a3).bind fun t417 => ((laws_eqIntS.f kj33 t417 t371).bind fun t420 => (if t420 = true then ((laws_heldIntS.f kj33 t405 1).bind fun t421 => (if t421 < 0 then (some false) else (if t421 = t404 then (some true) else (some false)))) else (some false))))) = some r := H
                      have A80 := Aside0.mk A800
                      clear A800
                      replace H := Option.bind_eq_some_iff.mp H
                      obtain ⟨⟨t415, t416⟩, A810, H⟩ := H
                      replace H : ((impl_HeardNow.f kj33 t407 t410 t411 t412 t415 t416 a3).bind fun t417 => ((laws_eqIntS.f kj33 t417 t371).bind fun t420 => (if t420 = true then ((laws_heldIntS.f kj33 t405 1).bind fun t421 => (if t421 < 0 then (some false) else (if t421 = t404 then (some true) else (some false)))) else (some false)))) = some r := H
                      have A81 := Aside0.mk A810
                      clear A810
                      replace H := Option.bind_eq_some_iff.mp H
                      obtain ⟨t417, A820, H⟩ := H
                      replace H : ((laws_eqIntS.f kj33 t417 t371).bind fun t420 => (if t420 = true then ((laws_heldIntS.f kj33 t405 1).bind fun t421 => (if t421 < 0 then (some false) else (if t421 = t404 then (some true) else (some false)))) else (some false))) = some r := H
                      have A82 := Aside0.mk A820
                      clear A820
                      replace H := Option.bind_eq_some_iff.mp H
                      obtain ⟨t420, A830, H⟩ := H
                      replace H : (if t420 = true then ((laws_heldIntS.f kj33 t405 1).bind fun t421 => (if t421 < 0 then (some false) else (if t421 = t404 then (some true) else (some false)))) else (some false)) = some r := H
                      have A83 := Aside0.mk A830
                      clear A830
                      by_cases c84 : t420 = true
                      · subst c84
                        have H1 : ((laws_heldIntS.f kj33 t405 1).bind fun t421 => (if t421 < 0 then (some false) else (if t421 = t404 then (some true) else (some false)))) = some r := by rw [if_pos rfl] at H; exact H
                        clear H
                        have H := H1
                        clear H1
                        replace H := Option.bind_eq_some_iff.mp H
                        obtain ⟨t421, A850, H⟩ := H
                        replace H : (if t421 < 0 then (some false) else (if t421 = t404 then (some true) else (some false))) = some r := H
                        have A85 := Aside0.mk A850
                        clear A850
                        by_cases c86 : t421 < 0
                        · rw [if_pos c86] at H
                          have c86b0 : decide (t421 < 0) = true := decide_eq_true c86
                          clear c86
                          obtain rfl := Option.some.inj H
                          exact absurd hr_ (by decide)
                        · rw [if_neg c86] at H
                          have c86b0 : decide (t421 < 0) = false := decide_eq_false c86
                          clear c86
                          by_cases c87 : t421 = t404
                          · rw [if_pos c87] at H
                            have c87b0 : (t421 == t404) = true := beq_iff_eq.mpr c87
                            have c87b1 : (t421 != t404) = false := bne_eq_false_iff_eq.mpr c87
                            clear c87
                            obtain rfl := Option.some.inj H
                            try go_wp2_with (first | ((with_reducible refine gate_callee (f := 16) rfl ?_); refine goesL_ (some 76) rfl rfl Try.func16 (by kernel_rfl) rfl #[.slice Ao60 t385.length co60, .int .i64 1] rfl arr_ ?_; (with_reducible refine (laws_markIntS.calls kj33 (fun k_ => some k_ = (.slice Ao60 t385.length co60 : Value).ownBlock) (.slice Ao60 t385.length co60) t385 1 t404 t405 w _ ?side1 ?side2 A75.out).mono ?_); (case side1 => repeat (first | (with_reducible first | exact HB.out | apply below_alloc | apply pw_below_drewN | apply below_drew1 | refine below_set ?_ GE357.out | refine below_set ?_ GE358.out | refine below_set ?_ GE382.out) | exact HB.out)); (case side2 => exact Kd.R_tight rfl HO_13.out); rintro e w88 ⟨rfl, hy0, hb, hkp⟩; refine ⟨_, rfl, ?_⟩; have n0_ := Aside0.mk (Kd.R_mono (ok' := fun k_ => some k_ ≠ (.slice Ao60 t385.length co60 : Value).ownBlock) (Kd.R_keptB (HO_10.out) hkp (fun k_ hk_ hs_ => (hk_) hs_)) (fun k_ hk_ => hk_.1)); have n1_ := Aside0.mk (Kd.R_reok rfl hy0 (fun k_ e_ => HO_13.out.1 k_ e_)); have n2_ := Aside0.mk (Kd.R_mono (ok' := fun k_ => True) (Kd.R_keptB ((Kd.R_apart' HO_383002.out (Kd.R_typed HO_13.out) (by decide))) hkp (fun k_ hk_ hs_ => (hk_.2) hs_)) (fun k_ hk_ => trivial)); have n3_ := Aside0.mk (blk_kept (bk_ BK357.out) hkp (fun hs_ => (fun e_ => (Kd.R_ne HO_13.out BK357.out (by decide)) e_) hs_)); have n4_ := Aside0.mk (blk_kept (bk_ BK358.out) hkp (fun hs_ => (fun e_ => (Kd.R_ne HO_13.out BK358.out (by decide)) e_) hs_)); have n5_ := Aside0.mk (blk_kept (bk_ BK382.out) hkp (fun hs_ => (fun e_ => (Kd.R_ne HO_13.out BK382.out (by decide)) e_) hs_)); have n6_ := Aside0.mk (hb); clear HO_10; clear HO_13; clear HO_383002; clear BK357; clear BK358; clear BK382; clear HB; have HO_10 := n0_; have HO_13 := n1_; have HO_383002 := n2_; have BK357 := n3_; have BK358 := n4_; have BK382 := n5_; have HB := n6_; clear n0_ n1_ n2_ n3_ n4_ n5_ n6_; (try clear hb); (try clear hkp); (try clear hy0)) | ((with_reducible refine gate_callee (f := 17) rfl ?_); refine goesL_ (some 79) rfl rfl Try.func17 (by kernel_rfl) rfl #[.slice Ao60 t405.length co60, .int .i64 1] rfl (by (try simp only [List.map_toArray, List.map_cons, List.map_nil]); first | done | (rw [show t405.length = t385.length from (Kd.R_reads' HO_13.out).1.symm] <;> rfl) | rfl | (simp only [List.length_drop, List.length_take]; rfl)) ?_; (with_reducible refine (laws_heldIntS.calls kj33 _ _ t405 1 t406 _ ?side1 ?side2 A76.out).mono ?_); (case side1 => repeat (first | exact (Kd.R_reads' HO_13.out).2.2 | (with_reducible refine Kd.C_alloc ?_ _) | (with_reducible refine Kd.C_drewN ?_ _) | (with_reducible refine Kd.C_drew ?_))); (case side2 => rw [show t405.length = t385.length from (Kd.R_reads' HO_13.out).1.symm]; exact (Kd.R_reads' HO_13.out).2.1); rintro e w' ⟨rfl, ⟨nd, rfl⟩⟩; refine ⟨_, rfl, ?_⟩))
                            (try (rw [drewN_self w88]; generalize hq_ : World.drewN w88 _ = w88; have n0_ : Aside0 (Kd.R (Kd.int .i64) 3 w88 w.heap.size (fun k_ => some k_ ≠ (.slice Ao60 t385.length co60 : Value).ownBlock) (.slice Ao61 t371.length co61) t371) := ⟨by rw [← hq_]; exact (by (with_reducible repeat (first | apply Kd.R_alloc | apply Kd.R_drewN | apply Kd.R_drew)); exact HO_10.out)⟩; have n1_ : Aside0 (Kd.R (Kd.int .i64) 3 w88 w.heap.size (fun k_ => some k_ ≠ (.slice Ao61 t371.length co61 : Value).ownBlock) (.slice Ao60 t385.length co60) t405) := ⟨by rw [← hq_]; exact (by (with_reducible repeat (first | apply Kd.R_alloc | apply Kd.R_drewN | apply Kd.R_drew)); exact HO_13.out)⟩; have n2_ : Aside0 (Kd.R k89 89 w88 w.heap.size (fun _ => True) (.slice Ao54 t402.length co54) t402) := ⟨by rw [← hq_]; exact (by (with_reducible repeat (first | apply Kd.R_alloc | apply Kd.R_drewN | apply Kd.R_drew)); exact HO_383002.out)⟩; have n3_ : Aside0 (w88.heap[gb357]? = some (.cells #[.int .i64 a1_0, .int .i64 a1_1, .slice A1_2 l1_2.length c1_2] 35 (0, 0))) := ⟨by rw [← hq_]; exact (bk_ BK357.out)⟩; have n4_ : Aside0 (w88.heap[gb358]? = some (.cells #[.int .i64 a2_0, .int .i64 a2_1] 37 (0, 0))) := ⟨by rw [← hq_]; exact (bk_ BK358.out)⟩; have n5_ : Aside0 (w88.heap[gb382]? = some (.cells #[.int .i64 t377, .int .i64 t378, .slice Ao54 t402.length co54] 42 (0, 0))) := ⟨by rw [← hq_]; exact (bk_ BK382.out)⟩; have n6_ : Aside0 (Below w.heap.size w w88) := ⟨by rw [← hq_]; exact (hb3_ HB.out GE357.out GE358.out GE382.out)⟩; clear HO_10 HO_13 HO_383002 BK357 BK358 BK382 HB hq_; have HO_10 := n0_; have HO_13 := n1_; have HO_383002 := n2_; have BK357 := n3_; have BK358 := n4_; have BK382 := n5_; have HB := n6_; clear n0_ n1_ n2_ n3_ n4_ n5_ n6_))
                            have n0_ := Aside0.mk (Kd.R_drew HO_10.out)
                            have n1_ := Aside0.mk (Kd.R_drew HO_13.out)
                            have n2_ := Aside0.mk (Kd.R_drew HO_383002.out)
                            have n3_ := Aside0.mk (blk_drew BK357.out)
                            have n4_ := Aside0.mk (blk_drew BK358.out)
                            have n5_ := Aside0.mk (blk_drew BK382.out)
                            have n6_ := Aside0.mk (below_drew1 HB.out)
                            clear HO_10
                            clear HO_13
                            clear HO_383002
                            clear BK357
                            clear BK358
                            clear BK382
                            clear HB
                            have HO_10 := n0_
                            have HO_13 := n1_
                            have HO_383002 := n2_
                            have BK357 := n3_
                            have BK358 := n4_
                            have BK382 := n5_
                            have HB := n6_
                            clear n0_ n1_ n2_ n3_ n4_ n5_ n6_
                            refine start_ (n := 9) (S := fun w' => w'.cell? ⟨gb357, 0, none⟩ = some (.int .i64 a1_0) ∧ w'.cell? ⟨gb357, 1, none⟩ = some (.int .i64 a1_1) ∧ w'.cell? ⟨gb357, 2, none⟩ = some (.slice A1_2 l1_2.length c1_2) ∧ w'.cell? ⟨gb358, 0, none⟩ = some (.int .i64 a2_0) ∧ w'.cell? ⟨gb358, 1, none⟩ = some (.int .i64 a2_1)) (ds := []) #[false, false, false, false, false, false, false, false, false] (by kernel_rfl) rfl rfl ⟨(blk_cell BK357.out 0).trans rfl, (blk_cell BK357.out 1).trans rfl, (blk_cell BK357.out 2).trans rfl, (blk_cell BK358.out 0).trans rfl, (blk_cell BK358.out 1).trans rfl⟩ (fun hHeld => ?_); refine with_tabW laws_FnExactHeardNow.tab31 laws_FnExactHeardNow.bits31 (fun HT_ HW_ => ?_)
                            generalize w88.drew = w89 at HO_10 HO_13 HO_383002 BK357 BK358 BK382 HB hHeld ⊢
                            refine pure_ (i := 0) (N := some 85) (v := ?_) (a' := ?_) #[true, false, false, false, false, false, false, false, false] rfl rfl (any_of HT_.out (by kernel_rfl)) (fun _ _ _ h => h) (Or.inl ⟨by rfl, ?_⟩) ?_ ?_
                            rotate_left
                            · intro w'
                              go_simp
                              with_reducible rfl
                            rotate_left
                            · simp only [Act.put, List.setIfInBounds_toArray, List.set_cons_zero, List.set_cons_succ, i64_w, i32_w]
                              rfl
                            refine pure_ (i := 6) (N := some 91) (v := ?_) (a' := ?_) #[true, false, false, false, false, false, true, false, false] rfl rfl (any_of HT_.out (by kernel_rfl)) (fun _ _ _ h => h) (Or.inl ⟨by rfl, ?_⟩) ?_ ?_
                            rotate_left
                            · intro w'
                              go_simp
                              with_reducible rfl
                            rotate_left
                            · simp only [Act.put, List.setIfInBounds_toArray, List.set_cons_zero, List.set_cons_succ, i64_w, i32_w]
                              rfl
                            refine take_ (i := 2) (N := some 87) (v := ?_) (a' := ?_) #[true, false, true, false, false, false, true, false, false] rfl rfl (take_ofW HT_.out HW_.out (by kernel_rfl)) (fun _ _ _ h => h) (Or.inl ⟨by rfl, ?_⟩) hHeld ?_ ?_
                            rotate_left
                            · rintro w' ⟨s0, s1, s2, s3, s4⟩
                              go_simp
                              with_reducible rfl
                            rotate_left
                            · simp only [Act.put, List.setIfInBounds_toArray, List.set_cons_zero, List.set_cons_succ, i64_w, i32_w]
                              rfl
                            refine take_ (i := 4) (N := some 89) (v := ?_) (a' := ?_) #[true, false, true, false, true, false, true, false, false] rfl rfl (take_ofW HT_.out HW_.out (by kernel_rfl)) (fun _ _ _ h => h) (Or.inl ⟨by rfl, ?_⟩) hHeld ?_ ?_
                            rotate_left
                            · rintro w' ⟨s0, s1, s2, s3, s4⟩
                              go_simp
                              with_reducible rfl
                            rotate_left
                            · simp only [Act.put, List.setIfInBounds_toArray, List.set_cons_zero, List.set_cons_succ, i64_w, i32_w]
                              rfl
                            refine one_ (i := 1) (N := some 86) #[true, true, true, false, true, false, true, false, false] rfl rfl (one_of HT_.out (by kernel_rfl)) (by decide) (fun K hK => ?_)
                            refine goes_ Try.func11 (by kernel_rfl) rfl #[.slice A0 l0.length c0] (by rfl) rfl rfl arr_ ?_
                            with_reducible refine (laws_toHeardS.calls kj33 _ _ l0 t407 _ ?side1 ?side2 A79.out).mono ?_
                            (case side1 => exact kc_ (Kd.C_below HR0.out HB.out))
                            (case side2 => exact HC0.out)
                            rintro e w90 ⟨v408, rfl, ho0, hb⟩
                            refine ⟨_, rfl, ?_⟩
                            have n0_ := Aside0.mk (Kd.R_below (by (with_reducible repeat (first | apply Kd.R_alloc | apply Kd.R_drewN | apply Kd.R_drew)); exact HO_10.out) hb)
                            have n1_ := Aside0.mk (Kd.R_below (by (with_reducible repeat (first | apply Kd.R_alloc | apply Kd.R_drewN | apply Kd.R_drew)); exact HO_13.out) hb)
                            have n2_ := Aside0.mk (Kd.R_below (by (with_reducible repeat (first | apply Kd.R_alloc | apply Kd.R_drewN | apply Kd.R_drew)); exact HO_383002.out) hb)
                            have n3_ := Aside0.mk (Kd.R_lower ho0 (below_size (hb3_ HB.out GE357.out GE358.out GE382.out)))
                            have n4_ := Aside0.mk (bb_ BK357.out hb)
                            have n5_ := Aside0.mk (bb_ BK358.out hb)
                            have n6_ := Aside0.mk (bb_ BK382.out hb)
                            have n7_ := Aside0.mk (below_step (hb3_ HB.out GE357.out GE358.out GE382.out) hb)
                            clear HO_10
                            clear HO_13
                            clear HO_383002
                            clear BK357
                            clear BK358
                            clear BK382
                            clear HB
                            have HO_10 := n0_
                            have HO_13 := n1_
                            have HO_383002 := n2_
                            have HO409 := n3_
                            have BK357 := n4_
                            have BK358 := n5_
                            have BK382 := n6_
                            have HB := n7_
                            clear n0_ n1_ n2_ n3_ n4_ n5_ n6_ n7_
                            (try clear hb)
                            (try clear hb2)
                            (try clear hk)
                            (try clear hi)
                            (try clear ho0)
                            refine hK.out _ _ ⟨(blk_cell BK357.out 0).trans rfl, (blk_cell BK357.out 1).trans rfl, (blk_cell BK357.out 2).trans rfl, (blk_cell BK358.out 0).trans rfl, (blk_cell BK358.out 1).trans rfl⟩ (fun hHeld => ?_)
                            clear hK K
                            refine norm_ (a' := ?_) ?_ ?_
                            rotate_left
                            · show Act.put _ (some 86) _ = _
                              simp only [Act.put, List.setIfInBounds_toArray, List.set_cons_zero, List.set_cons_succ, i64_w, i32_w]
                              rfl
                            refine one_ (i := 3) (N := some 88) #[true, true, true, true, true, false, true, false, false] rfl rfl (one_of HT_.out (by kernel_rfl)) (by decide) (fun K hK => ?_)
                            refine goes_ Try.func20 (by kernel_rfl) rfl #[.agg #[.int .i64 a1_0, .int .i64 a1_1, .slice A1_2 l1_2.length c1_2]] (by rfl) rfl rfl arr_ ?_
                            with_reducible refine (laws_toPlan.calls kj33 a1_0 a1_1 _ _ l1_2 t410 t411 t412 _ ?side1 ?side2 A80.out).mono ?_
                            (case side1 => exact kc_ (Kd.C_below HR1_2.out HB.out))
                            (case side2 => exact HC1_2.out)
                            rintro e w91 ⟨v413, rfl, ho0, hb⟩
                            refine ⟨_, rfl, ?_⟩
                            have n0_ := Aside0.mk (Kd.R_below (by (with_reducible repeat (first | apply Kd.R_alloc | apply Kd.R_drewN | apply Kd.R_drew)); exact HO_10.out) hb)
                            have n1_ := Aside0.mk (Kd.R_below (by (with_reducible repeat (first | apply Kd.R_alloc | apply Kd.R_drewN | apply Kd.R_drew)); exact HO_13.out) hb)
                            have n2_ := Aside0.mk (Kd.R_elder' (by (with_reducible repeat (first | apply Kd.R_alloc | apply Kd.R_drewN | apply Kd.R_drew)); exact HO_383002.out) (Kd.R_base ho0) hb)
                            have n3_ := Aside0.mk (Kd.R_below (by (with_reducible repeat (first | apply Kd.R_alloc | apply Kd.R_drewN | apply Kd.R_drew)); exact HO409.out) hb)
                            have n4_ := Aside0.mk (Kd.R_lower (Kd.R_new' ho0 (Kd.R_lt (by (with_reducible repeat (first | apply Kd.R_alloc | apply Kd.R_drewN | apply Kd.R_drew)); exact HO_383002.out))) (below_size (hb3_ HB.out GE357.out GE358.out GE382.out)))
                            have n5_ := Aside0.mk (bb_ BK357.out hb)
                            have n6_ := Aside0.mk (bb_ BK358.out hb)
                            have n7_ := Aside0.mk (bb_ BK382.out hb)
                            have n8_ := Aside0.mk (below_step (hb3_ HB.out GE357.out GE358.out GE382.out) hb)
                            clear HO_10
                            clear HO_13
                            clear HO_383002
                            clear HO409
                            clear BK357
                            clear BK358
                            clear BK382
                            clear HB
                            have HO_10 := n0_
                            have HO_13 := n1_
                            have HO_383002 := n2_
                            have HO409 := n3_
                            have HO414 := n4_
                            have BK357 := n5_
                            have BK358 := n6_
                            have BK382 := n7_
                            have HB := n8_
                            clear n0_ n1_ n2_ n3_ n4_ n5_ n6_ n7_ n8_
                            (try clear hb)
                            (try clear hb2)
                            (try clear hk)
                            (try clear hi)
                            (try clear ho0)
                            refine hK.out _ _ ⟨(blk_cell BK357.out 0).trans rfl, (blk_cell BK357.out 1).trans rfl, (blk_cell BK357.out 2).trans rfl, (blk_cell BK358.out 0).trans rfl, (blk_cell BK358.out 1).trans rfl⟩ (fun hHeld => ?_)
                            clear hK K
                            refine norm_ (a' := ?_) ?_ ?_
                            rotate_left
                            · show Act.put _ (some 88) _ = _
                              simp only [Act.put, List.setIfInBounds_toArray, List.set_cons_zero, List.set_cons_succ, i64_w, i32_w]
                              rfl
                            refine one_ (i := 5) (N := some 90) #[true, true, true, true, true, true, true, false, false] rfl rfl (one_of HT_.out (by kernel_rfl)) (by decide) (fun K hK => ?_)
                            refine goes_ Try.func21 (by kernel_rfl) rfl #[.agg #[.int .i64 a2_0, .int .i64 a2_1]] (by rfl) rfl rfl arr_ ?_
                            with_reducible refine (laws_toDrift.calls a2_0 a2_1 t415 t416 _ A81.out).mono ?_
                            rintro e w92 ⟨rfl, hb⟩
                            refine ⟨_, rfl, ?_⟩
                            have n0_ := Aside0.mk (Kd.R_below (by (with_reducible repeat (first | apply Kd.R_alloc | apply Kd.R_drewN | apply Kd.R_drew)); exact HO_10.out) hb)
                            have n1_ := Aside0.mk (Kd.R_below (by (with_reducible repeat (first | apply Kd.R_alloc | apply Kd.R_drewN | apply Kd.R_drew)); exact HO_13.out) hb)
                            have n2_ := Aside0.mk (Kd.R_below (by (with_reducible repeat (first | apply Kd.R_alloc | apply Kd.R_drewN | apply Kd.R_drew)); exact HO_383002.out) hb)
                            have n3_ := Aside0.mk (Kd.R_below (by (with_reducible repeat (first | apply Kd.R_alloc | apply Kd.R_drewN | apply Kd.R_drew)); exact HO409.out) hb)
                            have n4_ := Aside0.mk (Kd.R_below (by (with_reducible repeat (first | apply Kd.R_alloc | apply Kd.R_drewN | apply Kd.R_drew)); exact HO414.out) hb)
                            have n5_ := Aside0.mk (bb_ BK357.out hb)
                            have n6_ := Aside0.mk (bb_ BK358.out hb)
                            have n7_ := Aside0.mk (bb_ BK382.out hb)
                            have n8_ := Aside0.mk (below_step (hb3_ HB.out GE357.out GE358.out GE382.out) hb)
                            clear HO_10
                            clear HO_13
                            clear HO_383002
                            clear HO409
                            clear HO414
                            clear BK357
                            clear BK358
                            clear BK382
                            clear HB
                            have HO_10 := n0_
                            have HO_13 := n1_
                            have HO_383002 := n2_
                            have HO409 := n3_
                            have HO414 := n4_
                            have BK357 := n5_
                            have BK358 := n6_
                            have BK382 := n7_
                            have HB := n8_
                            clear n0_ n1_ n2_ n3_ n4_ n5_ n6_ n7_ n8_
                            (try clear hb)
                            (try clear hb2)
                            (try clear hk)
                            (try clear hi)
                            obtain ⟨Ao93, co93, eo93⟩ := Kd.R_slice HO409.out
                            (first | subst eo93 | (injection eo93 with f1_ f2_ f3_; have f4_ := f1_.symm; have f5_ := f3_.symm; clear f1_ f2_ f3_; subst f4_; subst f5_))
                            obtain ⟨Ao94, co94, eo94⟩ := Kd.R_slice HO414.out
                            (first | subst eo94 | (injection eo94 with f1_ f2_ f3_; have f4_ := f1_.symm; have f5_ := f3_.symm; clear f1_ f2_ f3_; subst f4_; subst f5_))
                            refine hK.out _ _ ⟨(blk_cell BK357.out 0).trans rfl, (blk_cell BK357.out 1).trans rfl, (blk_cell BK357.out 2).trans rfl, (blk_cell BK358.out 0).trans rfl, (blk_cell BK358.out 1).trans rfl⟩ (fun hHeld => ?_)
                            clear hK K
                            refine norm_ (a' := ?_) ?_ ?_
                            rotate_left
                            · show Act.put _ (some 90) _ = _
                              simp only [Act.put, List.setIfInBounds_toArray, List.set_cons_zero, List.set_cons_succ, i64_w, i32_w]
                              rfl
                            refine one_ (i := 7) (N := some 92) #[true, true, true, true, true, true, true, true, false] rfl rfl (one_of HT_.out (by kernel_rfl)) (by decide) (fun K hK => ?_)
                            refine goes_ Try.func22 (by kernel_rfl) rfl #[.slice Ao93 t407.length co93, .agg #[.int .i64 t410, .int .i64 t411, .slice Ao94 t412.length co94], .agg #[.int .i64 t415, .int .i64 t416], .int .i64 a3] (by rfl) rfl rfl arr_ ?_
                            with_reducible refine (impl_HeardNow.calls kj33 _ _ t407 t410 t411 _ _ t412 t415 t416 a3 t417 _ ?side1 ?side2 ?side3 ?side4 A82.out).mono ?_
                            (case side1 => repeat (first | exact (Kd.R_reads' HO409.out).2.2 | (with_reducible refine Kd.C_alloc ?_ _) | (with_reducible refine Kd.C_drewN ?_ _) | (with_reducible refine Kd.C_drew ?_)))
                            (case side2 => exact (Kd.R_reads' HO409.out).2.1)
                            (case side3 => repeat (first | exact (Kd.R_reads' HO414.out).2.2 | (with_reducible refine Kd.C_alloc ?_ _) | (with_reducible refine Kd.C_drewN ?_ _) | (with_reducible refine Kd.C_drew ?_)))
                            (case side4 => exact (Kd.R_reads' HO414.out).2.1)
                            rintro e w95 ⟨v418, rfl, ho0, hb⟩
                            refine ⟨_, rfl, ?_⟩
                            have n0_ := Aside0.mk (Kd.R_elder' (by (with_reducible repeat (first | apply Kd.R_alloc | apply Kd.R_drewN | apply Kd.R_drew)); exact HO_10.out) (Kd.R_base ho0) hb)
                            have n1_ := Aside0.mk (Kd.R_elder' (by (with_reducible repeat (first | apply Kd.R_alloc | apply Kd.R_drewN | apply Kd.R_drew)); exact HO_13.out) (Kd.R_base ho0) hb)
                            have n2_ := Aside0.mk (Kd.R_below (by (with_reducible repeat (first | apply Kd.R_alloc | apply Kd.R_drewN | apply Kd.R_drew)); exact HO_383002.out) hb)
                            have n3_ := Aside0.mk (Kd.R_below (by (with_reducible repeat (first | apply Kd.R_alloc | apply Kd.R_drewN | apply Kd.R_drew)); exact HO409.out) hb)
                            have n4_ := Aside0.mk (Kd.R_below (by (with_reducible repeat (first | apply Kd.R_alloc | apply Kd.R_drewN | apply Kd.R_drew)); exact HO414.out) hb)
                            have n5_ := Aside0.mk (Kd.R_lower (Kd.R_new' (Kd.R_new' ho0 (Kd.R_lt (by (with_reducible repeat (first | apply Kd.R_alloc | apply Kd.R_drewN | apply Kd.R_drew)); exact HO_10.out))) (Kd.R_lt (by (with_reducible repeat (first | apply Kd.R_alloc | apply Kd.R_drewN | apply Kd.R_drew)); exact HO_13.out))) (below_size (hb3_ HB.out GE357.out GE358.out GE382.out)))
                            have n6_ := Aside0.mk (bb_ BK357.out hb)
                            have n7_ := Aside0.mk (bb_ BK358.out hb)
                            have n8_ := Aside0.mk (bb_ BK382.out hb)
                            have n9_ := Aside0.mk (below_step (hb3_ HB.out GE357.out GE358.out GE382.out) hb)
                            clear HO_10
                            clear HO_13
                            clear HO_383002
                            clear HO409
                            clear HO414
                            clear BK357
                            clear BK358
                            clear BK382
                            clear HB
                            have HO_10 := n0_
                            have HO_13 := n1_
                            have HO_383002 := n2_
                            have HO409 := n3_
                            have HO414 := n4_
                            have HO419 := n5_
                            have BK357 := n6_
                            have BK358 := n7_
                            have BK382 := n8_
                            have HB := n9_
                            clear n0_ n1_ n2_ n3_ n4_ n5_ n6_ n7_ n8_ n9_
                            (try clear hb)
                            (try clear hb2)
                            (try clear hk)
                            (try clear hi)
                            (try clear ho0)
                            refine hK.out _ _ ⟨(blk_cell BK357.out 0).trans rfl, (blk_cell BK357.out 1).trans rfl, (blk_cell BK357.out 2).trans rfl, (blk_cell BK358.out 0).trans rfl, (blk_cell BK358.out 1).trans rfl⟩ (fun hHeld => ?_)
                            clear hK K
                            refine norm_ (a' := ?_) ?_ ?_
                            rotate_left
                            · show Act.put _ (some 92) _ = _
                              simp only [Act.put, List.setIfInBounds_toArray, List.set_cons_zero, List.set_cons_succ, i64_w, i32_w]
                              rfl
                            refine pure_ (i := 8) (N := some 17) (v := ?_) (a' := ?_) #[true, true, true, true, true, true, true, true, true] rfl rfl (any_of HT_.out (by kernel_rfl)) (fun _ _ _ h => h) (Or.inl ⟨by rfl, ?_⟩) ?_ ?_
                            rotate_left
                            · intro w'
                              go_simp
                              with_reducible rfl
                            rotate_left
                            · simp only [Act.put, List.setIfInBounds_toArray, List.set_cons_zero, List.set_cons_succ, i64_w, i32_w]
                              rfl
                            refine done_ (done_of HT_.out (by kernel_rfl)) ?_
                            obtain ⟨Ao96, co96, eo96⟩ := Kd.R_slice HO419.out
                            subst eo96
                            try go_wp2_with (first | ((with_reducible refine gate_callee (f := 13) rfl ?_); refine goesL_ (some 95) rfl rfl Try.func13 (by kernel_rfl) rfl #[.slice Ao96 t417.length co96, .slice Ao61 t371.length co61] rfl arr_ ?_; (with_reducible refine (laws_eqIntS.calls kj33 _ _ t417 _ _ t371 true _ ?side1 ?side2 ?side3 ?side4 A83.out).mono ?_); (case side1 => repeat (first | exact (Kd.R_reads' HO419.out).2.2 | (with_reducible refine Kd.C_alloc ?_ _) | (with_reducible refine Kd.C_drewN ?_ _) | (with_reducible refine Kd.C_drew ?_))); (case side2 => exact (Kd.R_reads' HO419.out).2.1); (case side3 => repeat (first | exact (Kd.R_reads' HO_10.out).2.2 | (with_reducible refine Kd.C_alloc ?_ _) | (with_reducible refine Kd.C_drewN ?_ _) | (with_reducible refine Kd.C_drew ?_))); (case side4 => exact (Kd.R_reads' HO_10.out).2.1); rintro e w' ⟨rfl, ⟨nd, rfl⟩⟩; refine ⟨_, rfl, ?_⟩) | ((with_reducible refine gate_callee (f := 17) rfl ?_); refine goesL_ (some 99) rfl rfl Try.func17 (by kernel_rfl) rfl #[.slice Ao60 t405.length co60, .int .i64 1] rfl (by (try simp only [List.map_toArray, List.map_cons, List.map_nil]); first | done | (rw [show t405.length = t385.length from (Kd.R_reads' HO_13.out).1.symm] <;> rfl) | rfl | (simp only [List.length_drop, List.length_take]; rfl)) ?_; (with_reducible refine (laws_heldIntS.calls kj33 _ _ t405 1 t421 _ ?side1 ?side2 A85.out).mono ?_); (case side1 => repeat (first | exact (Kd.R_reads' HO_13.out).2.2 | (with_reducible refine Kd.C_alloc ?_ _) | (with_reducible refine Kd.C_drewN ?_ _) | (with_reducible refine Kd.C_drew ?_))); (case side2 => rw [show t405.length = t385.length from (Kd.R_reads' HO_13.out).1.symm]; exact (Kd.R_reads' HO_13.out).2.1); rintro e w' ⟨rfl, ⟨nd, rfl⟩⟩; refine ⟨_, rfl, ?_⟩))
                            go_ret
                            exact ⟨er_, hb3_ HB.out GE357.out GE358.out GE382.out⟩
                          · rw [if_neg c87] at H
                            have c87b0 : (t421 == t404) = false := beq_eq_false_iff_ne.mpr c87
                            have c87b1 : (t421 != t404) = true := bne_iff_ne.mpr c87
                            obtain rfl := Option.some.inj H
                            exact absurd hr_ (by decide)
                      · replace c84 := Bool.eq_false_iff.mpr c84
                        subst c84
                        have H1 : (some false) = some r := by rw [if_neg (show ¬ (false = true) by decide)] at H; exact H
                        clear H
                        have H := H1
                        clear H1
                        obtain rfl := Option.some.inj H
                        exact absurd hr_ (by decide)
                    · rw [if_neg c78] at H
                      have c78b0 : (t406 == t404) = false := beq_eq_false_iff_ne.mpr c78
                      have c78b1 : (t406 != t404) = true := bne_iff_ne.mpr c78
                      obtain rfl := Option.some.inj H
                      exact absurd hr_ (by decide)
          · replace c31 := Bool.eq_false_iff.mpr c31
            subst c31
            have H1 : (some false) = some r := by rw [if_neg (show ¬ (false = true) by decide)] at H; exact H
            clear H
            have H := H1
            clear H1
            obtain rfl := Option.some.inj H
            exact absurd hr_ (by decide)
        · replace c28 := Bool.eq_false_iff.mpr c28
          subst c28
          have H1 : (some false) = some r := by rw [if_neg (show ¬ (false = true) by decide)] at H; exact H
          clear H
          have H := H1
          clear H1
          obtain rfl := Option.some.inj H
          exact absurd hr_ (by decide)
      · replace c25 := Bool.eq_false_iff.mpr c25
        subst c25
        have H1 : (some false) = some r := by rw [if_neg (show ¬ (false = true) by decide)] at H; exact H
        clear H
        have H := H1
        clear H1
        obtain rfl := Option.some.inj H
        exact absurd hr_ (by decide)
end Go.Proofs.Ytknckcakcknbbaa.P
namespace Go.Proofs.Ytknckcakcknbbaa.G
open Go.RowKit Go.Proofs.YtknckcakcknbbaaW.PrintWords
theorem wrap_id {x : Int} (h1 : -9223372036854775808 ≤ x) (h2 : x ≤ 9223372036854775807) : wrap64 x = x := by unfold wrap64; omega
theorem wrap_succ {i n : Nat} (h : i < n) (hn : n ≤ 9223372036854775807) : wrap64 ((i : Int) + 1) = ((i + 1 : Nat) : Int) := by unfold wrap64; omega
theorem wrap_pred {i n : Nat} (h0 : 0 < i) (h : i < n) (hn : n ≤ 9223372036854775807) : wrap64 ((i : Int) - 1) = ((i - 1 : Nat) : Int) := by unfold wrap64; omega
theorem all_loop {n : Nat} {L : Nat → Int → Option Bool} {Q : Nat → Bool} {e : Bool}
    (hs : ∀ k i, i < n → L (k + 1) (i : Int) = if Q i = true then L k ((i + 1 : Nat) : Int) else some false)
    (he : ∀ k, L (k + 1) (n : Int) = some e) :
    ∀ d i k, i + d = n → d < k → L k (i : Int) = some ((List.range' i d).all Q && e) := by
  intro d
  induction d with
  | zero =>
    intro i k h hk
    obtain ⟨k, rfl⟩ : ∃ m, k = m + 1 := ⟨k - 1, by omega⟩
    obtain rfl : i = n := by omega
    rw [he]; simp
  | succ d ih =>
    intro i k h hk
    obtain ⟨k, rfl⟩ : ∃ m, k = m + 1 := ⟨k - 1, by omega⟩
    rw [hs k i (by omega)]
    rw [List.range'_succ]
    cases hq : Q i with
    | true => rw [if_pos rfl, ih (i + 1) k (by omega) (by omega)]; simp [hq]
    | false => simp [hq]
theorem all_loop0 {n : Nat} {L : Nat → Int → Option Bool} {Q : Nat → Bool} {e : Bool}
    (hs : ∀ k i, i < n → L (k + 1) (i : Int) = if Q i = true then L k ((i + 1 : Nat) : Int) else some false)
    (he : ∀ k, L (k + 1) (n : Int) = some e) (k : Nat) (hk : n < k) : L k 0 = some ((List.range n).all Q && e) := by
  have := all_loop hs he n 0 k (by omega) hk
  rw [List.range_eq_range']
  exact this
theorem all_loopT {n : Nat} {L : Nat → Int → Option Bool}
    (hs : ∀ k i, i < n → L (k + 1) (i : Int) = L k ((i + 1 : Nat) : Int)) (he : ∀ k, L (k + 1) (n : Int) = some true) (k : Nat) (hk : n < k) : L k 0 = some true := by
  have := all_loop0 (Q := fun _ => true) (e := true) (fun k i hi => by rw [if_pos rfl]; exact hs k i hi) he k hk
  rw [this]
  simp [List.all_eq_true]
theorem fold_loop {n : Nat} {σ ρ : Type} {L : Nat → σ → Int → Option ρ} {st : Nat → σ → σ} {fin : σ → ρ} {I : Nat → σ → Prop}
    (hs : ∀ k i s, i < n → I i s → L (k + 1) s (i : Int) = L k (st i s) ((i + 1 : Nat) : Int))
    (hI : ∀ i s, i < n → I i s → I (i + 1) (st i s))
    (he : ∀ k s, I n s → L (k + 1) s (n : Int) = some (fin s)) :
    ∀ d i s k, i + d = n → I i s → d < k → L k s (i : Int) = some (fin ((List.range' i d).foldl (fun s i => st i s) s)) := by
  intro d
  induction d with
  | zero =>
    intro i s k h hi hk
    obtain ⟨k, rfl⟩ : ∃ m, k = m + 1 := ⟨k - 1, by omega⟩
    obtain rfl : i = n := by omega
    rw [he k s hi]; simp
  | succ d ih =>
    intro i s k h hi hk
    obtain ⟨k, rfl⟩ : ∃ m, k = m + 1 := ⟨k - 1, by omega⟩
    rw [hs k i s (by omega) hi, ih (i + 1) (st i s) k (by omega) (hI i s (by omega) hi) (by omega), List.range'_succ]
    rfl
def found {ρ : Type} (Q : Nat → Bool) (r : Nat → ρ) (e : ρ) (is : List Nat) : ρ := match is.find? Q with
  | some j => r j
  | none => e
theorem find_loop {n : Nat} {ρ : Type} {L : Nat → Int → Option ρ} {Q : Nat → Bool} {r : Nat → ρ} {e : ρ} {c : Nat}
    (hs : ∀ k i, i < n → c ≤ k → L (k + 1) (i : Int) = if Q i = true then some (r i) else L k ((i + 1 : Nat) : Int))
    (he : ∀ k, L (k + 1) (n : Int) = some e) :
    ∀ d i k, i + d = n → d + c < k → L k (i : Int) = some (found Q r e (List.range' i d)) := by
  intro d
  induction d with
  | zero =>
    intro i k h hk
    obtain ⟨k, rfl⟩ : ∃ m, k = m + 1 := ⟨k - 1, by omega⟩
    obtain rfl : i = n := by omega
    rw [he]; rfl
  | succ d ih =>
    intro i k h hk
    obtain ⟨k, rfl⟩ : ∃ m, k = m + 1 := ⟨k - 1, by omega⟩
    rw [hs k i (by omega) (by omega), List.range'_succ]
    unfold found
    cases hq : Q i with
    | true => simp [List.find?, hq]
    | false =>
      rw [if_neg (by simp), ih (i + 1) k (by omega) (by omega)]
      simp [List.find?, hq, found]
theorem find_loop0 {n : Nat} {ρ : Type} {L : Nat → Int → Option ρ} {Q : Nat → Bool} {r : Nat → ρ} {e : ρ} {c : Nat}
    (hs : ∀ k i, i < n → c ≤ k → L (k + 1) (i : Int) = if Q i = true then some (r i) else L k ((i + 1 : Nat) : Int))
    (he : ∀ k, L (k + 1) (n : Int) = some e) (k : Nat) (hk : n + c < k) : L k 0 = some (found Q r e (List.range n)) := by
  have := find_loop hs he n 0 k (by omega) hk
  rw [List.range_eq_range']
  exact this
theorem found_none {ρ : Type} {Q : Nat → Bool} {r : Nat → ρ} {e : ρ} {n : Nat} (h : ∀ i, i < n → Q i = false) : found Q r e (List.range n) = e := by
  unfold found
  have : (List.range n).find? Q = none := by
    rw [List.find?_eq_none]; intro i hi; rw [h i (List.mem_range.1 hi)]; simp
  rw [this]
theorem found_some {ρ : Type} {Q : Nat → Bool} {r : Nat → ρ} {e : ρ} {n j : Nat} (hj : j < n) (hq : Q j = true) (h : ∀ i, i < j → Q i = false) : found Q r e (List.range n) = r j := by
  unfold found
  have : (List.range n).find? Q = some j := by
    rw [List.find?_range_eq_some]; exact ⟨hq, List.mem_range.2 hj, fun i hi => by rw [h i hi]; rfl⟩
  rw [this]
theorem first_of {Q : Nat → Bool} : ∀ n, (∃ j, j < n ∧ Q j = true ∧ ∀ i, i < j → Q i = false) ∨ ∀ i, i < n → Q i = false := by
  intro n
  induction n with
  | zero => right; intro i hi; omega
  | succ n ih =>
    rcases ih with ⟨j, h1, h2, h3⟩ | h
    · left; exact ⟨j, by omega, h2, h3⟩
    · cases hq : Q n with
      | true => left; exact ⟨n, by omega, hq, h⟩
      | false => right; intro i hi; rcases Nat.lt_or_ge i n with c | c
                 · exact h i c
                 · obtain rfl : i = n := by omega
                   exact hq
theorem track_loop {n : Nat} {σ ρ : Type} {L : Nat → σ → Int → Option ρ} {F : Nat → σ} {r : ρ} {c : Nat}
    (hs : ∀ k i, i < n → c ≤ k → L (k + 1) (F i) (i : Int) = L k (F (i + 1)) ((i + 1 : Nat) : Int))
    (he : ∀ k, c ≤ k → L (k + 1) (F n) (n : Int) = some r) :
    ∀ d i k, i + d = n → d + c < k → L k (F i) (i : Int) = some r := by
  intro d
  induction d with
  | zero =>
    intro i k h hk
    obtain ⟨k, rfl⟩ : ∃ m, k = m + 1 := ⟨k - 1, by omega⟩
    obtain rfl : i = n := by omega
    exact he k (by omega)
  | succ d ih =>
    intro i k h hk
    obtain ⟨k, rfl⟩ : ∃ m, k = m + 1 := ⟨k - 1, by omega⟩
    rw [hs k i (by omega) (by omega)]
    exact ih (i + 1) k (by omega) (by omega)
theorem track_loop0 {n : Nat} {σ ρ : Type} {L : Nat → σ → Int → Option ρ} {F : Nat → σ} {r : ρ} {c : Nat}
    (hs : ∀ k i, i < n → c ≤ k → L (k + 1) (F i) (i : Int) = L k (F (i + 1)) ((i + 1 : Nat) : Int))
    (he : ∀ k, c ≤ k → L (k + 1) (F n) (n : Int) = some r) (k : Nat) (hk : n + c < k) : L k (F 0) 0 = some r :=
  track_loop hs he n 0 k (by omega) hk
theorem inv_loop {n : Nat} {σ ρ : Type} {L : Nat → σ → Int → Option ρ} {I : Nat → σ → Prop} {R : ρ → Prop}
    (hs : ∀ k i s, i < n → I i s → (∃ s', L (k + 1) s (i : Int) = L k s' ((i + 1 : Nat) : Int) ∧ I (i + 1) s') ∨ ∃ r, L (k + 1) s (i : Int) = some r ∧ R r)
    (he : ∀ k s, I n s → ∃ r, L (k + 1) s (n : Int) = some r ∧ R r) :
    ∀ d i s k, i + d = n → I i s → d < k → ∃ r, L k s (i : Int) = some r ∧ R r := by
  intro d
  induction d with
  | zero =>
    intro i s k h hi hk
    obtain ⟨k, rfl⟩ : ∃ m, k = m + 1 := ⟨k - 1, by omega⟩
    obtain rfl : i = n := by omega
    exact he k s hi
  | succ d ih =>
    intro i s k h hi hk
    obtain ⟨k, rfl⟩ : ∃ m, k = m + 1 := ⟨k - 1, by omega⟩
    rcases hs k i s (by omega) hi with ⟨s', h1, h2⟩ | ⟨r, h1, h2⟩
    · rw [h1]; exact ih (i + 1) s' k (by omega) h2 (by omega)
    · exact ⟨r, h1, h2⟩
theorem to_loop {α β : Type} {l : List α} {c : α → β} {z : β} {L : Nat → List β → Int → Option (List β)}
    (hs : ∀ k acc i (hi : i < l.length), acc.length = l.length → L (k + 1) acc (i : Int) = L k (acc.set i (c l[i])) ((i + 1 : Nat) : Int))
    (he : ∀ k acc, acc.length = l.length → L (k + 1) acc (l.length : Int) = some acc) :
    ∀ d i k, i + d = l.length → d < k → L k ((l.take i).map c ++ List.replicate d z) (i : Int) = some (l.map c) := by
  intro d
  induction d with
  | zero =>
    intro i k h hk
    obtain ⟨k, rfl⟩ : ∃ m, k = m + 1 := ⟨k - 1, by omega⟩
    obtain rfl : i = l.length := by omega
    rw [he _ _ (by simp)]; simp
  | succ d ih =>
    intro i k h hk
    obtain ⟨k, rfl⟩ : ∃ m, k = m + 1 := ⟨k - 1, by omega⟩
    have hi : i < l.length := by omega
    rw [hs _ _ i hi (by simp; omega), ← ih (i + 1) k (by omega) (by omega)]
    congr 1
    have hl : ((l.take i).map c).length = i := by simp; omega
    rw [List.set_append, if_neg (by omega), hl, Nat.sub_self, List.replicate_succ, List.set_cons_zero, List.take_succ_eq_append_getElem hi, List.map_append, List.append_assoc]
    rfl
theorem to_loop0 {α β : Type} {l : List α} {c : α → β} {z : β} {L : Nat → List β → Int → Option (List β)}
    (hs : ∀ k acc i (hi : i < l.length), acc.length = l.length → L (k + 1) acc (i : Int) = L k (acc.set i (c l[i])) ((i + 1 : Nat) : Int))
    (he : ∀ k acc, acc.length = l.length → L (k + 1) acc (l.length : Int) = some acc) (k : Nat) (hk : l.length < k) : L k (List.replicate l.length z) 0 = some (l.map c) := by
  have := to_loop hs he l.length 0 k (by omega) hk (z := z)
  simpa using this
theorem all_true {n : Nat} {Q : Nat → Bool} (h : ∀ i, i < n → Q i = true) : (List.range n).all Q = true := by
  rw [List.all_eq_true]; intro i hi; exact h i (List.mem_range.1 hi)
theorem all_iff {n : Nat} {Q : Nat → Bool} : (List.range n).all Q = true ↔ ∀ i, i < n → Q i = true := by
  rw [List.all_eq_true]; exact ⟨fun h i hi => h i (List.mem_range.2 hi), fun h i hi => h i (List.mem_range.1 hi)⟩
theorem fold_loopC {n : Nat} {σ ρ : Type} {L : Nat → σ → Int → Option ρ} {st : Nat → σ → σ} {fin : σ → ρ} {I : Nat → σ → Prop} {c : Nat}
    (hs : ∀ k i s, i < n → c ≤ k → I i s → L (k + 1) s (i : Int) = L k (st i s) ((i + 1 : Nat) : Int))
    (hI : ∀ i s, i < n → I i s → I (i + 1) (st i s))
    (he : ∀ k s, c ≤ k → I n s → L (k + 1) s (n : Int) = some (fin s)) :
    ∀ d i s k, i + d = n → I i s → d + c < k → L k s (i : Int) = some (fin ((List.range' i d).foldl (fun s i => st i s) s)) := by
  intro d
  induction d with
  | zero =>
    intro i s k h hi hk
    obtain ⟨k, rfl⟩ : ∃ m, k = m + 1 := ⟨k - 1, by omega⟩
    obtain rfl : i = n := by omega
    rw [he k s (by omega) hi]; simp
  | succ d ih =>
    intro i s k h hi hk
    obtain ⟨k, rfl⟩ : ∃ m, k = m + 1 := ⟨k - 1, by omega⟩
    rw [hs k i s (by omega) (by omega) hi, ih (i + 1) (st i s) k (by omega) (hI i s (by omega) hi) (by omega), List.range'_succ]
    rfl
theorem inv_loopC {n : Nat} {σ ρ : Type} {L : Nat → σ → Int → Option ρ} {I : Nat → σ → Prop} {R : ρ → Prop} {c : Nat}
    (hs : ∀ k i s, i < n → c ≤ k → I i s → (∃ s', L (k + 1) s (i : Int) = L k s' ((i + 1 : Nat) : Int) ∧ I (i + 1) s') ∨ ∃ r, L (k + 1) s (i : Int) = some r ∧ R r)
    (he : ∀ k s, c ≤ k → I n s → ∃ r, L (k + 1) s (n : Int) = some r ∧ R r) :
    ∀ d i s k, i + d = n → I i s → d + c < k → ∃ r, L k s (i : Int) = some r ∧ R r := by
  intro d
  induction d with
  | zero =>
    intro i s k h hi hk
    obtain ⟨k, rfl⟩ : ∃ m, k = m + 1 := ⟨k - 1, by omega⟩
    obtain rfl : i = n := by omega
    exact he k s (by omega) hi
  | succ d ih =>
    intro i s k h hi hk
    obtain ⟨k, rfl⟩ : ∃ m, k = m + 1 := ⟨k - 1, by omega⟩
    rcases hs k i s (by omega) (by omega) hi with ⟨s', h1, h2⟩ | ⟨r, h1, h2⟩
    · rw [h1]; exact ih (i + 1) s' k (by omega) h2 (by omega)
    · exact ⟨r, h1, h2⟩
theorem mark_loop {α ρ : Type} {l : List α} {f : Nat → α} {w : Nat → Int} {L : Nat → List α → Int → Int → Option ρ} {fin : List α → ρ} {c : Nat}
    (hs : ∀ k i acc, i < l.length → acc.length = l.length → c ≤ k → L (k + 1) acc (w i) (i : Int) = L k (acc.set i (f i)) (w (i + 1)) ((i + 1 : Nat) : Int))
    (he : ∀ k acc, acc.length = l.length → L (k + 1) acc (w l.length) (l.length : Int) = some (fin acc)) :
    ∀ d i k, i + d = l.length → d + c < k → L k ((List.range i).map f ++ l.drop i) (w i) (i : Int) = some (fin ((List.range l.length).map f)) := by
  intro d
  induction d with
  | zero =>
    intro i k h hk
    obtain ⟨k, rfl⟩ : ∃ m, k = m + 1 := ⟨k - 1, by omega⟩
    obtain rfl : i = l.length := by omega
    rw [he _ _ (by simp)]; simp
  | succ d ih =>
    intro i k h hk
    obtain ⟨k, rfl⟩ : ∃ m, k = m + 1 := ⟨k - 1, by omega⟩
    have hi : i < l.length := by omega
    rw [hs _ _ _ hi (by simp; omega) (by omega), ← ih (i + 1) k (by omega) (by omega)]
    congr 1
    have hl : ((List.range i).map f).length = i := by simp
    rw [List.set_append, if_neg (by omega), hl, Nat.sub_self, List.drop_eq_getElem_cons hi, List.set_cons_zero, List.range_succ, List.map_append, List.append_assoc]
    rfl
theorem mark_loop0 {α ρ : Type} {l : List α} {f : Nat → α} {w : Nat → Int} {L : Nat → List α → Int → Int → Option ρ} {fin : List α → ρ} {c : Nat}
    (hs : ∀ k i acc, i < l.length → acc.length = l.length → c ≤ k → L (k + 1) acc (w i) (i : Int) = L k (acc.set i (f i)) (w (i + 1)) ((i + 1 : Nat) : Int))
    (he : ∀ k acc, acc.length = l.length → L (k + 1) acc (w l.length) (l.length : Int) = some (fin acc)) (k : Nat) (hk : l.length + c < k) :
    L k l (w 0) 0 = some (fin ((List.range l.length).map f)) := by
  have := mark_loop hs he l.length 0 k (by omega) hk
  simpa using this
theorem wrap_nat (n : Nat) (h : n ≤ 9223372036854775807) : wrap64 (n : Int) = (n : Int) := wrap_id (by omega) (by omega)
end Go.Proofs.Ytknckcakcknbbaa.G
namespace Go.Proofs.Ytknckcakcknbbaa.C
open Go.RowKit Go.Proofs.Ytknckcakcknbbaa.P Go.Proofs.Ytknckcakcknbbaa.G Go.Proofs.YtknckcakcknbbaaW.PrintWords
theorem rdI (l : List Int) (i : Nat) (h : i < l.length) : rd l (i : Int) = l[i] := by
  unfold rd; simp [List.getD, h]
theorem markIntS (l : List Int) (hl : l.length ≤ 2000000) (a : Int) (ha : 0 ≤ a ∧ a ≤ 1000000000) (k : Nat) (hk : l.length < k) : laws_markIntS.f k l a = some (a + l.length, (List.range l.length).map fun (i : Nat) => a + i) := by
  unfold laws_markIntS.f
  have := mark_loop0 (l := l) (f := fun i => a + i) (w := fun i => a + i) (c := 0) (L := fun k acc w i => laws_markIntS.l0 k acc w i) (fin := fun acc => (a + l.length, acc)) (fun k i acc hi hacc _ => ?_) (fun k acc hacc => ?_) k (by omega)
  · simp only [Int.natCast_zero, Int.add_zero] at this; exact this
  · simp only [laws_markIntS.l0]
    rw [if_pos (by omega), if_pos (by omega), wrap_succ hi (by omega), wrap_id (by omega) (by omega), Int.toNat_natCast]
    congr 1; omega
  · simp only [laws_markIntS.l0]
    rw [if_neg (by omega)]
theorem heldIntS (n : Nat) (hn : n ≤ 2000000) (a : Int) (ha : 0 ≤ a ∧ a ≤ 1000000000) (k : Nat) (hk : n < k) : laws_heldIntS.f k ((List.range n).map fun (i : Nat) => a + i) a = some (a + n) := by
  unfold laws_heldIntS.f
  have hlen : ((List.range n).map fun (i : Nat) => a + (i : Int)).length = n := by simp
  have := track_loop0 (n := n) (c := 0) (L := fun k s i => laws_heldIntS.l0 k ((List.range n).map fun (i : Nat) => a + i) s i) (F := fun i => a + (i : Int)) (r := a + n) (fun k i hi _ => ?_) (fun k _ => ?_) k (by omega)
  · simp only [Int.natCast_zero, Int.add_zero] at this; exact this
  · simp only [laws_heldIntS.l0]
    rw [if_pos (by omega), if_pos (by omega), rdI _ i (by omega), wrap_succ hi (by omega), wrap_id (by omega) (by omega), if_pos (by simp)]
    congr 1; omega
  · simp only [laws_heldIntS.l0]
    rw [if_neg (by omega)]
theorem eqIntS (l : List Int) (hl : l.length ≤ 2000000) (k : Nat) (hk : l.length < k) : laws_eqIntS.f k l l = some true := by
  unfold laws_eqIntS.f
  rw [if_pos rfl]
  refine all_loopT (n := l.length) (L := fun k i => laws_eqIntS.l0 k l l i) (fun k i hi => ?_) (fun k => ?_) k hk
  · simp only [laws_eqIntS.l0]
    rw [if_pos (by omega), if_pos (by omega), if_pos (by omega), wrap_succ hi (by omega), if_pos (by trivial)]
  · simp only [laws_eqIntS.l0]
    rw [if_neg (by omega)]
end Go.Proofs.Ytknckcakcknbbaa.C
namespace Go.Proofs.Ytknckcakcknbbaa.C
open Go.RowKit Go.Proofs.Ytknckcakcknbbaa.P Go.Proofs.Ytknckcakcknbbaa.G
theorem l1In (a b c : Int) : spec_l1In.f a b c = some (decide (b ≤ a ∧ a ≤ c)) := by
  unfold spec_l1In.f; by_cases h : a ≥ b <;> simp [h] <;> omega
theorem in_ (a b c : Int) : impl_in.f a b c = some (decide (b ≤ a ∧ a ≤ c)) := by
  unfold impl_in.f; by_cases h : b ≤ a <;> simp [h]
theorem l2Time (a : Int) : spec_l2Time.f a = some (decide (0 ≤ a ∧ a ≤ 1000000000000)) := by
  unfold spec_l2Time.f; rw [l1In]; rfl
theorem isTime (a : Int) : impl_isTime.f a = some (decide (0 ≤ a ∧ a ≤ 1000000000000)) := by
  unfold impl_isTime.f; rw [in_]; rfl
theorem l4Node (a : Int) : spec_l4Node.f a = some (decide (0 ≤ a ∧ a ≤ 7)) := by
  unfold spec_l4Node.f; rw [l1In]; rfl
theorem isNode (a : Int) : impl_isNode.f a = some (decide (0 ≤ a ∧ a ≤ 7)) := by
  unfold impl_isNode.f; rw [in_]; rfl
def timeOk (x : Int) : Bool := decide (0 ≤ x ∧ x ≤ 1000000000000)
theorem timeOk_iff (x : Int) : timeOk x = true ↔ 0 ≤ x ∧ x ≤ 1000000000000 := by unfold timeOk; simp
end Go.Proofs.Ytknckcakcknbbaa.C
