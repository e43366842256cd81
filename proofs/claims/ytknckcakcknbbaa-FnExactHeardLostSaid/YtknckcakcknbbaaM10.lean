/- Texts of the seat's proofs, part 10: functions of the program told as plain functions, with their contracts, and what is shown of them. No condition. -/
import Derived.Test.YtknckcakcknbbaaU
import Derived.Test.YtknckcakcknbbaaM1
import Derived.Test.YtknckcakcknbbaaM3
import Derived.Test.YtknckcakcknbbaaM4
import Derived.Test.YtknckcakcknbbaaM5
import Derived.Test.YtknckcakcknbbaaM8
set_option linter.unusedVariables false
set_option linter.unusedSimpArgs false
namespace Go.Proofs.Ytknckcakcknbbaa.P
open Go.RowKit Go.Proofs.YtknckcakcknbbaaW.PrintWords Go.Proofs.YtknckcakcknbbaaW.PrintLast Go.Proofs.YtknckcakcknbbaaW.PrintMore
attribute [local go_sem] max2_int min2_int max_two min_two max_three min_three max_four min_four
set_option linter.unusedVariables false
set_option linter.unusedSimpArgs false
def laws_FnExactHeardLost.j0 : Nat → List (S75) → Int → List Int → List Int → Bool → Int → Int → List (S110) → Int → Int → Option (Bool)
  | 0, _, _, _, _, _, _, _, _, _, _ => none
  | k + 1, x0, x3, x10, x13, x73, x449000, x449001, x449002, x450000, x450001 => if x73 = true then (some false) else ((laws_markIntS.f k x13 1).bind fun bt495 => ((laws_heldIntS.f k bt495.2 1).bind fun t497 => (if t497 < 0 then (some false) else (if t497 = bt495.1 then ((laws_toHeardS.f k x0).bind fun t498 => ((laws_toPlan.f k x449000 x449001 x449002).bind fun bt501 => ((laws_toDrift.f x450000 x450001).bind fun bt506 => ((impl_HeardLost.f k t498 bt501.1 bt501.2.1 bt501.2.2 bt506.1 bt506.2 x3).bind fun t508 => ((laws_eqIntS.f k t508 x10).bind fun t511 => (if t511 = true then ((laws_heldIntS.f k bt495.2 1).bind fun t512 => (if t512 < 0 then (some false) else (if t512 = bt495.1 then (some true) else (some false)))) else (some false))))))) else (some false)))))
def laws_FnExactHeardLost.f (k : Nat) (l0 : List (S75)) (a1_0 : Int) (a1_1 : Int) (l1_2 : List (S110)) (a2_0 : Int) (a2_1 : Int) (a3 : Int) : Option (Bool) := (laws_szHeardS.f l0 1048576).bind fun t450 => (if t450 < 0 then (some true) else ((laws_szPlan.f a1_0 a1_1 l1_2 t450).bind fun t451 => (if t451 < 0 then (some true) else ((laws_toHeardS.f k l0).bind fun t452 => ((laws_toPlan.f k a1_0 a1_1 l1_2).bind fun bt455 => ((laws_toDrift.f a2_0 a2_1).bind fun bt460 => ((spec_HeardLost.f k t452 bt455.1 bt455.2.1 bt455.2.2 bt460.1 bt460.2 a3).bind fun t462 => ((laws_toHeardS.f k l0).bind fun t465 => ((laws_toPlan.f k a1_0 a1_1 l1_2).bind fun bt468 => ((laws_toDrift.f a2_0 a2_1).bind fun bt474 => ((impl_HeardLost.f k t465 bt468.1 bt468.2.1 bt468.2.2 bt474.1 bt474.2 a3).bind fun t476 => ((laws_eqIntS.f k t476 t462).bind fun t479 => (if t479 = true then ((laws_toHeardS.f k l0).bind fun t480 => ((laws_eqHeardS.f k t465 t480).bind fun t483 => (if t483 = true then ((laws_toPlan.f k a1_0 a1_1 l1_2).bind fun bt484 => ((laws_eqPlan.f k bt468.1 bt468.2.1 bt468.2.2 bt484.1 bt484.2.1 bt484.2.2).bind fun t489 => (if t489 = true then ((laws_markHeardS.f k t465 1).bind fun bt490 => ((laws_markPlan.f k bt468.1 bt468.2.1 bt468.2.2 bt490.1).bind fun bt492 => (if bt492.1 < 0 then (laws_FnExactHeardLost.j0 k l0 a3 t462 t476 true a1_0 a1_1 l1_2 a2_0 a2_1) else ((laws_eqIntS.f k t476 t462).bind fun t494 => (laws_FnExactHeardLost.j0 k l0 a3 t462 t476 (!t494) a1_0 a1_1 l1_2 a2_0 a2_1))))) else (some false)))) else (some false)))) else (some false))))))))))))))
theorem laws_FnExactHeardLost.mono_l : ∀ k, (∀ y0 y1 y2 y3 y4 y5 y6 y7 y8 y9, LeO (laws_FnExactHeardLost.j0 k y0 y1 y2 y3 y4 y5 y6 y7 y8 y9) (laws_FnExactHeardLost.j0 (k + 1) y0 y1 y2 y3 y4 y5 y6 y7 y8 y9))
  | 0 => fun _ _ _ _ _ _ _ _ _ _ r h => by simp [laws_FnExactHeardLost.j0] at h
  | k + 1 => by
    have ih0 := laws_FnExactHeardLost.mono_l k
    · intro y0 y1 y2 y3 y4 y5 y6 y7 y8 y9
      unfold laws_FnExactHeardLost.j0
      repeat' first
      | (with_reducible exact ih0 _ _ _ _ _ _ _ _ _ _)
      | (with_reducible exact impl_HeardLost.mono _ _ _ _ _ _ _ _)
      | (with_reducible exact laws_eqHeardS.mono _ _ _)
      | (with_reducible exact laws_eqIntS.mono _ _ _)
      | (with_reducible exact laws_eqPlan.mono _ _ _ _ _ _ _)
      | (with_reducible exact laws_heldIntS.mono _ _ _)
      | (with_reducible exact laws_markHeardS.mono _ _ _)
      | (with_reducible exact laws_markIntS.mono _ _ _)
      | (with_reducible exact laws_markPlan.mono _ _ _ _ _)
      | (with_reducible exact laws_toHeardS.mono _ _)
      | (with_reducible exact laws_toPlan.mono _ _ _ _)
      | (with_reducible exact spec_HeardLost.mono _ _ _ _ _ _ _ _)
      | (with_reducible exact LeO.refl _)
      | (with_reducible exact LeO.none _)
      | (with_reducible refine LeO.ite ?_ ?_)
      | (with_reducible refine LeO.bind ?_ (fun _ => ?_))
      | exact ih0 _ _ _ _ _ _ _ _ _ _
      | exact impl_HeardLost.mono _ _ _ _ _ _ _ _
      | exact laws_eqHeardS.mono _ _ _
      | exact laws_eqIntS.mono _ _ _
      | exact laws_eqPlan.mono _ _ _ _ _ _ _
      | exact laws_heldIntS.mono _ _ _
      | exact laws_markHeardS.mono _ _ _
      | exact laws_markIntS.mono _ _ _
      | exact laws_markPlan.mono _ _ _ _ _
      | exact laws_toHeardS.mono _ _
      | exact laws_toPlan.mono _ _ _ _
      | exact spec_HeardLost.mono _ _ _ _ _ _ _ _
      | exact LeO.none _
      | refine LeO.ite ?_ ?_
      | refine LeO.bind ?_ (fun _ => ?_)
theorem laws_FnExactHeardLost.mono : ∀ a0 a1 a2 a3 a4 a5 a6 k, LeO (laws_FnExactHeardLost.f k a0 a1 a2 a3 a4 a5 a6) (laws_FnExactHeardLost.f (k + 1) a0 a1 a2 a3 a4 a5 a6) := by
  intro a0 a1 a2 a3 a4 a5 a6 k
  have ih0 := laws_FnExactHeardLost.mono_l k
  unfold laws_FnExactHeardLost.f
  repeat' first
      | (with_reducible exact ih0 _ _ _ _ _ _ _ _ _ _)
      | (with_reducible exact impl_HeardLost.mono _ _ _ _ _ _ _ _)
      | (with_reducible exact laws_eqHeardS.mono _ _ _)
      | (with_reducible exact laws_eqIntS.mono _ _ _)
      | (with_reducible exact laws_eqPlan.mono _ _ _ _ _ _ _)
      | (with_reducible exact laws_heldIntS.mono _ _ _)
      | (with_reducible exact laws_markHeardS.mono _ _ _)
      | (with_reducible exact laws_markIntS.mono _ _ _)
      | (with_reducible exact laws_markPlan.mono _ _ _ _ _)
      | (with_reducible exact laws_toHeardS.mono _ _)
      | (with_reducible exact laws_toPlan.mono _ _ _ _)
      | (with_reducible exact spec_HeardLost.mono _ _ _ _ _ _ _ _)
      | (with_reducible exact LeO.refl _)
      | (with_reducible exact LeO.none _)
      | (with_reducible refine LeO.ite ?_ ?_)
      | (with_reducible refine LeO.bind ?_ (fun _ => ?_))
      | exact ih0 _ _ _ _ _ _ _ _ _ _
      | exact impl_HeardLost.mono _ _ _ _ _ _ _ _
      | exact laws_eqHeardS.mono _ _ _
      | exact laws_eqIntS.mono _ _ _
      | exact laws_eqPlan.mono _ _ _ _ _ _ _
      | exact laws_heldIntS.mono _ _ _
      | exact laws_markHeardS.mono _ _ _
      | exact laws_markIntS.mono _ _ _
      | exact laws_markPlan.mono _ _ _ _ _
      | exact laws_toHeardS.mono _ _
      | exact laws_toPlan.mono _ _ _ _
      | exact spec_HeardLost.mono _ _ _ _ _ _ _ _
      | exact LeO.none _
      | refine LeO.ite ?_ ?_
      | refine LeO.bind ?_ (fun _ => ?_)
def laws_FnExactHeardLost.T8 : Bool × List (List Nat × List Nat) := (true, [([], []), ([0], [0]), ([], []), ([2, 1], [2]), ([], []), ([4, 3], [4]), ([], []), ([1, 3, 5, 6, 5], [1, 3, 5, 6]), ([7, 7, 0, 1, 2, 3, 4, 5, 6, 7], [7])])
def laws_FnExactHeardLost.B8 : List Nat := [0, 1, 0, 7, 0, 31, 0, 127, 255]
theorem laws_FnExactHeardLost.tab8 : rtab .any (opsOf Try.f5 8) = laws_FnExactHeardLost.T8 := by kernel_rfl
theorem laws_FnExactHeardLost.bits8 : waitsOk laws_FnExactHeardLost.T8.2 laws_FnExactHeardLost.B8 = true := by kernel_rfl
def laws_FnExactHeardLost.T31 : Bool × List (List Nat × List Nat) := (true, [([], []), ([0], [0]), ([], []), ([2, 1], [2]), ([], []), ([4, 3], [4]), ([], []), ([1, 3, 5, 6, 5], [1, 3, 5, 6]), ([7, 7, 0, 1, 2, 3, 4, 5, 6, 7], [7])])
def laws_FnExactHeardLost.B31 : List Nat := [0, 1, 0, 7, 0, 31, 0, 127, 255]
theorem laws_FnExactHeardLost.tab31 : rtab .any (opsOf Try.f5 31) = laws_FnExactHeardLost.T31 := by kernel_rfl
theorem laws_FnExactHeardLost.bits31 : waitsOk laws_FnExactHeardLost.T31.2 laws_FnExactHeardLost.B31 = true := by kernel_rfl
set_option maxHeartbeats 8000000 in
set_option maxRecDepth 100000 in
theorem laws_FnExactHeardLost.calls (k : Nat) (A0 : Option Addr) (c0 : Nat) (l0 : List (S75)) (a1_0 : Int) (a1_1 : Int) (A1_2 : Option Addr) (c1_2 : Nat) (l1_2 : List (S110)) (a2_0 : Int) (a2_1 : Int) (a3 : Int) (r : Bool) (w : World) (hr0 : Kd.C k75 w A0 l0.length l0) (hc0 : l0.length ≤ c0) (hr1_2 : Kd.C k110 w A1_2 l1_2.length l1_2) (hc1_2 : l1_2.length ≤ c1_2) (hr_ : r = true) (h : laws_FnExactHeardLost.f k l0 a1_0 a1_1 l1_2 a2_0 a2_1 a3 = some r) :
    Calls Try.prog 5 #[.slice A0 l0.length c0, .agg #[.int .i64 a1_0, .int .i64 a1_1, .slice A1_2 l1_2.length c1_2], .agg #[.int .i64 a2_0, .int .i64 a2_1], .int .i64 a3] w fun e w' => e = .returned (.bool r) ∧ Below w.heap.size w w' := by
  have hu35 := Try.underlying35
  have hu37 := Try.underlying37
  have hu42 := Try.underlying42
  have HR0 := Aside0.mk hr0
  have HC0 := Aside0.mk hc0
  clear hr0 hc0
  have HR1_2 := Aside0.mk hr1_2
  have HC1_2 := Aside0.mk hc1_2
  clear hr1_2 hc1_2
  have HB := Aside0.mk (Below.refl w.heap.size w)
  have H : ((laws_szHeardS.f l0 1048576).bind fun t450 => (if t450 < 0 then (some true) else ((laws_szPlan.f a1_0 a1_1 l1_2 t450).bind fun t451 => (if t451 < 0 then (some true) else ((laws_toHeardS.f k l0).bind fun t452 => ((laws_toPlan.f k a1_0 a1_1 l1_2).bind fun bt455 => ((laws_toDrift.f a2_0 a2_1).bind fun bt460 => ((spec_HeardLost.f k t452 bt455.1 bt455.2.1 bt455.2.2 bt460.1 bt460.2 a3).bind fun t462 => ((laws_toHeardS.f k l0).bind fun t465 => ((laws_toPlan.f k a1_0 a1_1 l1_2).bind fun bt468 => ((laws_toDrift.f a2_0 a2_1).bind fun bt474 => ((impl_HeardLost.f k t465 bt468.1 bt468.2.1 bt468.2.2 bt474.1 bt474.2 a3).bind fun t476 => ((laws_eqIntS.f k t476 t462).bind fun t479 => (if t479 = true then ((laws_toHeardS.f k l0).bind fun t480 => ((laws_eqHeardS.f k t465 t480).bind fun t483 => (if t483 = true then ((laws_toPlan.f k a1_0 a1_1 l1_2).bind fun bt484 => ((laws_eqPlan.f k bt468.1 bt468.2.1 bt468.2.2 bt484.1 bt484.2.1 bt484.2.2).bind fun t489 => (if t489 = true then ((laws_markHeardS.f k t465 1).bind fun bt490 => ((laws_markPlan.f k bt468.1 bt468.2.1 bt468.2.2 bt490.1).bind fun bt492 => (if bt492.1 < 0 then (laws_FnExactHeardLost.j0 k l0 a3 t462 t476 true a1_0 a1_1 l1_2 a2_0 a2_1) else ((laws_eqIntS.f k t476 t462).bind fun t494 => (laws_FnExactHeardLost.j0 k l0 a3 t462 t476 (!t494) a1_0 a1_1 l1_2 a2_0 a2_1))))) else (some false)))) else (some false)))) else (some false))))))))))))))) = some r := h
  clear h
  replace H := Option.bind_eq_some_iff.mp H
  obtain ⟨t450, A50, H⟩ := H
  replace H : (if t450 < 0 then (some true) else ((laws_szPlan.f a1_0 a1_1 l1_2 t450).bind fun t451 => (if t451 < 0 then (some true) else ((laws_toHeardS.f k l0).bind fun t452 => ((laws_toPlan.f k a1_0 a1_1 l1_2).bind fun bt455 => ((laws_toDrift.f a2_0 a2_1).bind fun bt460 => ((spec_HeardLost.f k t452 bt455.1 bt455.2.1 bt455.2.2 bt460.1 bt460.2 a3).bind fun t462 => ((laws_toHeardS.f k l0).bind fun t465 => ((laws_toPlan.f k a1_0 a1_1 l1_2).bind fun bt468 => ((laws_toDrift.f a2_0 a2_1).bind fun bt474 => ((impl_HeardLost.f k t465 bt468.1 bt468.2.1 bt468.2.2 bt474.1 bt474.2 a3).bind fun t476 => ((laws_eqIntS.f k t476 t462).bind fun t479 => (if t479 = true then ((laws_toHeardS.f k l0).bind fun t480 => ((laws_eqHeardS.f k t465 t480).bind fun t483 => (if t483 = true then ((laws_toPlan.f k a1_0 a1_1 l1_2).bind fun bt484 => ((laws_eqPlan.f k bt468.1 bt468.2.1 bt468.2.2 bt484.1 bt484.2.1 bt484.2.2).bind fun t489 => (if t489 = true then ((laws_markHeardS.f k t465 1).bind fun bt490 => ((laws_markPlan.f k bt468.1 bt468.2.1 bt468.2.2 bt490.1).bind fun bt492 => (if bt492.1 < 0 then (laws_FnExactHeardLost.j0 k l0 a3 t462 t476 true a1_0 a1_1 l1_2 a2_0 a2_1) else ((laws_eqIntS.f k t476 t462).bind fun t494 => (laws_FnExactHeardLost.j0 k l0 a3 t462 t476 (!t494) a1_0 a1_1 l1_2 a2_0 a2_1))))) else (some false)))) else (some false)))) else (some false)))))))))))))) = some r := H
  have A5 := Aside0.mk A50
  clear A50
  by_cases c6 : t450 < 0
  · rw [if_pos c6] at H
    have c6b0 : decide (t450 < 0) = true := decide_eq_true c6
    clear c6
    obtain rfl := Option.some.inj H
    go_enter Try.func5, Try.ntmps5
    go_wp2_with (first | ((with_reducible refine gate_dst (N := 5) rfl ?_); refine box_event ?hg (N := 5) ?hd (cs := #[.int .i64 a1_0, .int .i64 a1_1, .slice A1_2 l1_2.length c1_2]) (t := 35) ?hr ?_; (case hd => rfl); (case hg => rfl); (case hr => first | (go_simp; done) | (go_simp; rfl)); intro gb448 hg w7 hbox hb; have n0_ := Aside0.mk (below_step (hb_ HB.out) hb); have n1_ := Aside0.mk (hbox); have n2_ := Aside0.mk ((by rw [hg]; exact (below_size (hb_ HB.out)) : w.heap.size ≤ gb448)); have n3_ := Aside0.mk ((by rw [hg]; exact (below_size (hb_ HB.out)) : w.heap.size ≤ gb448)); clear HB; have HB := n0_; have BK448 := n1_; have GW448 := n2_; have GE448 := n3_; clear n0_ n1_ n2_ n3_; clear hb hbox hg) | ((with_reducible refine gate_dst (N := 6) rfl ?_); refine box_event ?hg (N := 6) ?hd (cs := #[.int .i64 a2_0, .int .i64 a2_1]) (t := 37) ?hr ?_; (case hd => rfl); (case hg => rfl); (case hr => first | (go_simp; done) | (go_simp; rfl)); intro gb449 hg w8 hbox hb; have n0_ := Aside0.mk (bb_ BK448.out hb); have n1_ := Aside0.mk (below_step (hb1_ HB.out GE448.out) hb); have n2_ := Aside0.mk (hbox); have n3_ := Aside0.mk ((by rw [hg]; exact (below_size (hb1_ HB.out GE448.out)) : w.heap.size ≤ gb449)); have n4_ := Aside0.mk ((by rw [hg]; exact (below_size (hb1_ HB.out GE448.out)) : w.heap.size ≤ gb449)); have n5_ := Aside0.mk ((bl_ hg BK448.out : gb448 ≠ gb449)); have n6_ := Aside0.mk ((bg_ hg BK448.out : gb449 ≠ gb448)); clear BK448; clear HB; have BK448 := n0_; have HB := n1_; have BK449 := n2_; have GW449 := n3_; have GE449 := n4_; have NB448_449 := n5_; have NB449_448 := n6_; clear n0_ n1_ n2_ n3_ n4_ n5_ n6_; clear hb hbox hg) | ((with_reducible refine gate_callee (f := 9) rfl ?_); refine goesL_ (some 20) rfl rfl Try.func9 (by kernel_rfl) rfl #[.slice A0 l0.length c0, .int .i64 1048576] rfl arr_ ?_; (with_reducible refine (laws_szHeardS.calls _ _ l0 1048576 t450 _ ?side1 ?side2 A5.out).mono ?_); (case side1 => exact kc_ (Kd.C_below HR0.out HB.out)); (case side2 => exact HC0.out); rintro e w' ⟨rfl, ⟨nd, rfl⟩⟩; refine ⟨_, rfl, ?_⟩))
    go_ret
    exact ⟨er_, hb2_ HB.out GE448.out GE449.out⟩
  · rw [if_neg c6] at H
    have c6b0 : decide (t450 < 0) = false := decide_eq_false c6
    clear c6
    replace H := Option.bind_eq_some_iff.mp H
    obtain ⟨t451, A90, H⟩ := H
    replace H : (if t451 < 0 then (some true) else ((laws_toHeardS.f k l0).bind fun t452 => ((laws_toPlan.f k a1_0 a1_1 l1_2).bind fun bt455 => ((laws_toDrift.f a2_0 a2_1).bind fun bt460 => ((spec_HeardLost.f k t452 bt455.1 bt455.2.1 bt455.2.2 bt460.1 bt460.2 a3).bind fun t462 => ((laws_toHeardS.f k l0).bind fun t465 => ((laws_toPlan.f k a1_0 a1_1 l1_2).bind fun bt468 => ((laws_toDrift.f a2_0 a2_1).bind fun bt474 => ((impl_HeardLost.f k t465 bt468.1 bt468.2.1 bt468.2.2 bt474.1 bt474.2 a3).bind fun t476 => ((laws_eqIntS.f k t476 t462).bind fun t479 => (if t479 = true then ((laws_toHeardS.f k l0).bind fun t480 => ((laws_eqHeardS.f k t465 t480).bind fun t483 => (if t483 = true then ((laws_toPlan.f k a1_0 a1_1 l1_2).bind fun bt484 => ((laws_eqPlan.f k bt468.1 bt468.2.1 bt468.2.2 bt484.1 bt484.2.1 bt484.2.2).bind fun t489 => (if t489 = true then ((laws_markHeardS.f k t465 1).bind fun bt490 => ((laws_markPlan.f k bt468.1 bt468.2.1 bt468.2.2 bt490.1).bind fun bt492 => (if bt492.1 < 0 then (laws_FnExactHeardLost.j0 k l0 a3 t462 t476 true a1_0 a1_1 l1_2 a2_0 a2_1) else ((laws_eqIntS.f k t476 t462).bind fun t494 => (laws_FnExactHeardLost.j0 k l0 a3 t462 t476 (!t494) a1_0 a1_1 l1_2 a2_0 a2_1))))) else (some false)))) else (some false)))) else (some false)))))))))))) = some r := H
    have A9 := Aside0.mk A90
    clear A90
    by_cases c10 : t451 < 0
    · rw [if_pos c10] at H
      have c10b0 : decide (t451 < 0) = true := decide_eq_true c10
      clear c10
      obtain rfl := Option.some.inj H
      go_enter Try.func5, Try.ntmps5
      go_wp2_with (first | ((with_reducible refine gate_dst (N := 5) rfl ?_); refine box_event ?hg (N := 5) ?hd (cs := #[.int .i64 a1_0, .int .i64 a1_1, .slice A1_2 l1_2.length c1_2]) (t := 35) ?hr ?_; (case hd => rfl); (case hg => rfl); (case hr => first | (go_simp; done) | (go_simp; rfl)); intro gb448 hg w11 hbox hb; have n0_ := Aside0.mk (below_step (hb_ HB.out) hb); have n1_ := Aside0.mk (hbox); have n2_ := Aside0.mk ((by rw [hg]; exact (below_size (hb_ HB.out)) : w.heap.size ≤ gb448)); have n3_ := Aside0.mk ((by rw [hg]; exact (below_size (hb_ HB.out)) : w.heap.size ≤ gb448)); clear HB; have HB := n0_; have BK448 := n1_; have GW448 := n2_; have GE448 := n3_; clear n0_ n1_ n2_ n3_; clear hb hbox hg) | ((with_reducible refine gate_dst (N := 6) rfl ?_); refine box_event ?hg (N := 6) ?hd (cs := #[.int .i64 a2_0, .int .i64 a2_1]) (t := 37) ?hr ?_; (case hd => rfl); (case hg => rfl); (case hr => first | (go_simp; done) | (go_simp; rfl)); intro gb449 hg w12 hbox hb; have n0_ := Aside0.mk (bb_ BK448.out hb); have n1_ := Aside0.mk (below_step (hb1_ HB.out GE448.out) hb); have n2_ := Aside0.mk (hbox); have n3_ := Aside0.mk ((by rw [hg]; exact (below_size (hb1_ HB.out GE448.out)) : w.heap.size ≤ gb449)); have n4_ := Aside0.mk ((by rw [hg]; exact (below_size (hb1_ HB.out GE448.out)) : w.heap.size ≤ gb449)); have n5_ := Aside0.mk ((bl_ hg BK448.out : gb448 ≠ gb449)); have n6_ := Aside0.mk ((bg_ hg BK448.out : gb449 ≠ gb448)); clear BK448; clear HB; have BK448 := n0_; have HB := n1_; have BK449 := n2_; have GW449 := n3_; have GE449 := n4_; have NB448_449 := n5_; have NB449_448 := n6_; clear n0_ n1_ n2_ n3_ n4_ n5_ n6_; clear hb hbox hg) | ((with_reducible refine gate_callee (f := 9) rfl ?_); refine goesL_ (some 20) rfl rfl Try.func9 (by kernel_rfl) rfl #[.slice A0 l0.length c0, .int .i64 1048576] rfl arr_ ?_; (with_reducible refine (laws_szHeardS.calls _ _ l0 1048576 t450 _ ?side1 ?side2 A5.out).mono ?_); (case side1 => exact kc_ (Kd.C_below HR0.out HB.out)); (case side2 => exact HC0.out); rintro e w' ⟨rfl, ⟨nd, rfl⟩⟩; refine ⟨_, rfl, ?_⟩; have hnb13 := NB448_449.out; have hnc13 := NB449_448.out; have hcz14_0 := bc_ BK448.out 0 (.int .i64 a1_0) rfl; have hcz14_1 := bc_ BK448.out 1 (.int .i64 a1_1) rfl; have hcz14_2 := bc_ BK448.out 2 (.slice A1_2 l1_2.length c1_2) rfl; have hfz14_0 := blk_frozen BK448.out 0; have hfz14_1 := blk_frozen BK448.out 1; have hfz14_2 := blk_frozen BK448.out 2) | ((with_reducible refine gate_callee (f := 18) rfl ?_); refine goesL_ (some 25) rfl rfl Try.func18 (by kernel_rfl) rfl #[.agg #[.int .i64 a1_0, .int .i64 a1_1, .slice A1_2 l1_2.length c1_2], .int .i64 t450] rfl arr_ ?_; (with_reducible refine (laws_szPlan.calls a1_0 a1_1 _ _ l1_2 t450 t451 _ ?side1 ?side2 A9.out).mono ?_); (case side1 => repeat (first | exact (Kd.C_below HR1_2.out (hb2_ HB.out GE448.out GE449.out)) | (with_reducible refine Kd.C_alloc ?_ _) | (with_reducible refine Kd.C_drewN ?_ _) | (with_reducible refine Kd.C_drew ?_))); (case side2 => exact HC1_2.out); rintro e w15 ⟨rfl, hb⟩; refine ⟨_, rfl, ?_⟩; have n0_ := Aside0.mk (bb_ BK448.out hb); have n1_ := Aside0.mk (bb_ BK449.out hb); have n2_ := Aside0.mk (below_step (hb2_ HB.out GE448.out GE449.out) hb); clear BK448; clear BK449; clear HB; have BK448 := n0_; have BK449 := n1_; have HB := n2_; clear n0_ n1_ n2_; (try clear hb); (try clear hb2); (try clear hk); (try clear hi)))
      go_ret
      exact ⟨er_, hb2_ HB.out GE448.out GE449.out⟩
    · rw [if_neg c10] at H
      have c10b0 : decide (t451 < 0) = false := decide_eq_false c10
      clear c10
      replace H := Option.bind_eq_some_iff.mp H
      obtain ⟨t452, A160, H⟩ := H
      replace H : ((laws_toPlan.f k a1_0 a1_1 l1_2).bind fun bt455 => ((laws_toDrift.f a2_0 a2_1).bind fun bt460 => ((spec_HeardLost.f k t452 bt455.1 bt455.2.1 bt455.2.2 bt460.1 bt460.2 a3).bind fun t462 => ((laws_toHeardS.f k l0).bind fun t465 => ((laws_toPlan.f k a1_0 a1_1 l1_2).bind fun bt468 => ((laws_toDrift.f a2_0 a2_1).bind fun bt474 => ((impl_HeardLost.f k t465 bt468.1 bt468.2.1 bt468.2.2 bt474.1 bt474.2 a3).bind fun t476 => ((laws_eqIntS.f k t476 t462).bind fun t479 => (if t479 = true then ((laws_toHeardS.f k l0).bind fun t480 => ((laws_eqHeardS.f k t465 t480).bind fun t483 => (if t483 = true then ((laws_toPlan.f k a1_0 a1_1 l1_2).bind fun bt484 => ((laws_eqPlan.f k bt468.1 bt468.2.1 bt468.2.2 bt484.1 bt484.2.1 bt484.2.2).bind fun t489 => (if t489 = true then ((laws_markHeardS.f k t465 1).bind fun bt490 => ((laws_markPlan.f k bt468.1 bt468.2.1 bt468.2.2 bt490.1).bind fun bt492 => (if bt492.1 < 0 then (laws_FnExactHeardLost.j0 k l0 a3 t462 t476 true a1_0 a1_1 l1_2 a2_0 a2_1) else ((laws_eqIntS.f k t476 t462).bind fun t494 => (laws_FnExactHeardLost.j0 k l0 a3 t462 t476 (!t494) a1_0 a1_1 l1_2 a2_0 a2_1))))) else (some false)))) else (some false)))) else (some false)))))))))) = some r := H
      have A16 := Aside0.mk A160
      clear A160
      replace H := Option.bind_eq_some_iff.mp H
      obtain ⟨⟨t455, t456, t457⟩, A170, H⟩ := H
      replace H : ((laws_toDrift.f a2_0 a2_1).bind fun bt460 => ((spec_HeardLost.f k t452 t455 t456 t457 bt460.1 bt460.2 a3).bind fun t462 => ((laws_toHeardS.f k l0).bind fun t465 => ((laws_toPlan.f k a1_0 a1_1 l1_2).bind fun bt468 => ((laws_toDrift.f a2_0 a2_1).bind fun bt474 => ((impl_HeardLost.f k t465 bt468.1 bt468.2.1 bt468.2.2 bt474.1 bt474.2 a3).bind fun t476 => ((laws_eqIntS.f k t476 t462).bind fun t479 => (if t479 = true then ((laws_toHeardS.f k l0).bind fun t480 => ((laws_eqHeardS.f k t465 t480).bind fun t483 => (if t483 = true then ((laws_toPlan.f k a1_0 a1_1 l1_2).bind fun bt484 => ((laws_eqPlan.f k bt468.1 bt468.2.1 bt468.2.2 bt484.1 bt484.2.1 bt484.2.2).bind fun t489 => (if t489 = true then ((laws_markHeardS.f k t465 1).bind fun bt490 => ((laws_markPlan.f k bt468.1 bt468.2.1 bt468.2.2 bt490.1).bind fun bt492 => (if bt492.1 < 0 then (laws_FnExactHeardLost.j0 k l0 a3 t462 t476 true a1_0 a1_1 l1_2 a2_0 a2_1) else ((laws_eqIntS.f k t476 t462).bind fun t494 => (laws_FnExactHeardLost.j0 k l0 a3 t462 t476 (!t494) a1_0 a1_1 l1_2 a2_0 a2_1))))) else (some false)))) else (some false)))) else (some false))))))))) = some r := H
      have A17 := Aside0.mk A170
      clear A170
      replace H := Option.bind_eq_some_iff.mp H
      obtain ⟨⟨t460, t461⟩, A180, H⟩ := H
      replace H : ((spec_HeardLost.f k t452 t455 t456 t457 t460 t461 a3).bind fun t462 => ((laws_toHeardS.f k l0).bind fun t465 => ((laws_toPlan.f k a1_0 a1_1 l1_2).bind fun bt468 => ((laws_toDrift.f a2_0 a2_1).bind fun bt474 => ((impl_HeardLost.f k t465 bt468.1 bt468.2.1 bt468.2.2 bt474.1 bt474.2 a3).bind fun t476 => ((laws_eqIntS.f k t476 t462).bind fun t479 => (if t479 = true then ((laws_toHeardS.f k l0).bind fun t480 => ((laws_eqHeardS.f k t465 t480).bind fun t483 => (if t483 = true then ((laws_toPlan.f k a1_0 a1_1 l1_2).bind fun bt484 => ((laws_eqPlan.f k bt468.1 bt468.2.1 bt468.2.2 bt484.1 bt484.2.1 bt484.2.2).bind fun t489 => (if t489 = true then ((laws_markHeardS.f k t465 1).bind fun bt490 => ((laws_markPlan.f k bt468.1 bt468.2.1 bt468.2.2 bt490.1).bind fun bt492 => (if bt492.1 < 0 then (laws_FnExactHeardLost.j0 k l0 a3 t462 t476 true a1_0 a1_1 l1_2 a2_0 a2_1) else ((laws_eqIntS.f k t476 t462).bind fun t494 => (laws_FnExactHeardLost.j0 k l0 a3 t462 t476 (!t494) a1_0 a1_1 l1_2 a2_0 a2_1))))) else (some false)))) else (some false)))) else (some false)))))))) = some r := H
      have A18 := Aside0.mk A180
      clear A180
      replace H := Option.bind_eq_some_iff.mp H
      obtain ⟨t462, A190, H⟩ := H
      replace H : ((laws_toHeardS.f k l0).bind fun t465 => ((laws_toPlan.f k a1_0 a1_1 l1_2).bind fun bt468 => ((laws_toDrift.f a2_0 a2_1).bind fun bt474 => ((impl_HeardLost.f k t465 bt468.1 bt468.2.1 bt468.2.2 bt474.1 bt474.2 a3).bind fun t476 => ((laws_eqIntS.f k t476 t462).bind fun t479 => (if t479 = true then ((laws_toHeardS.f k l0).bind fun t480 => ((laws_eqHeardS.f k t465 t480).bind fun t483 => (if t483 = true then ((laws_toPlan.f k a1_0 a1_1 l1_2).bind fun bt484 => ((laws_eqPlan.f k bt468.1 bt468.2.1 bt468.2.2 bt484.1 bt484.2.1 bt484.2.2).bind fun t489 => (if t489 = true then ((laws_markHeardS.f k t465 1).bind fun bt490 => ((laws_markPlan.f k bt468.1 bt468.2.1 bt468.2.2 bt490.1).bind fun bt492 => (if bt492.1 < 0 then (laws_FnExactHeardLost.j0 k l0 a3 t462 t476 true a1_0 a1_1 l1_2 a2_0 a2_1) else ((laws_eqIntS.f k t476 t462).bind fun t494 => (laws_FnExactHeardLost.j0 k l0 a3 t462 t476 (!t494) a1_0 a1_1 l1_2 a2_0 a2_1))))) else (some false)))) else (some false)))) else (some false))))))) = some r := H
      have A19 := Aside0.mk A190
      clear A190
      replace H := Option.bind_eq_some_iff.mp H
      obtain ⟨t465, A200, H⟩ := H
      replace H : ((laws_toPlan.f k a1_0 a1_1 l1_2).bind fun bt468 => ((laws_toDrift.f a2_0 a2_1).bind fun bt474 => ((impl_HeardLost.f k t465 bt468.1 bt468.2.1 bt468.2.2 bt474.1 bt474.2 a3).bind fun t476 => ((laws_eqIntS.f k t476 t462).bind fun t479 => (if t479 = true then ((laws_toHeardS.f k l0).bind fun t480 => ((laws_eqHeardS.f k t465 t480).bind fun t483 => (if t483 = true then ((laws_toPlan.f k a1_0 a1_1 l1_2).bind fun bt484 => ((laws_eqPlan.f k bt468.1 bt468.2.1 bt468.2.2 bt484.1 bt484.2.1 bt484.2.2).bind fun t489 => (if t489 = true then ((laws_markHeardS.f k t465 1).bind fun bt490 => ((laws_markPlan.f k bt468.1 bt468.2.1 bt468.2.2 bt490.1).bind fun bt492 => (if bt492.1 < 0 then (laws_FnExactHeardLost.j0 k l0 a3 t462 t476 true a1_0 a1_1 l1_2 a2_0 a2_1) else ((laws_eqIntS.f k t476 t462).bind fun t494 => (laws_FnExactHeardLost.j0 k l0 a3 t462 t476 (!t494) a1_0 a1_1 l1_2 a2_0 a2_1))))) else (some false)))) else (some false)))) else (some false)))))) = some r := H
      have A20 := Aside0.mk A200
      clear A200
      replace H := Option.bind_eq_some_iff.mp H
      obtain ⟨⟨t468, t469, t470⟩, A210, H⟩ := H
      replace H : ((laws_toDrift.f a2_0 a2_1).bind fun bt474 => ((impl_HeardLost.f k t465 t468 t469 t470 bt474.1 bt474.2 a3).bind fun t476 => ((laws_eqIntS.f k t476 t462).bind fun t479 => (if t479 = true then ((laws_toHeardS.f k l0).bind fun t480 => ((laws_eqHeardS.f k t465 t480).bind fun t483 => (if t483 = true then ((laws_toPlan.f k a1_0 a1_1 l1_2).bind fun bt484 => ((laws_eqPlan.f k t468 t469 t470 bt484.1 bt484.2.1 bt484.2.2).bind fun t489 => (if t489 = true then ((laws_markHeardS.f k t465 1).bind fun bt490 => ((laws_markPlan.f k t468 t469 t470 bt490.1).bind fun bt492 => (if bt492.1 < 0 then (laws_FnExactHeardLost.j0 k l0 a3 t462 t476 true a1_0 a1_1 l1_2 a2_0 a2_1) else ((laws_eqIntS.f k t476 t462).bind fun t494 => (laws_FnExactHeardLost.j0 k l0 a3 t462 t476 (!t494) a1_0 a1_1 l1_2 a2_0 a2_1))))) else (some false)))) else (some false)))) else (some false))))) = some r := H
      have A21 := Aside0.mk A210
      clear A210
      replace H := Option.bind_eq_some_iff.mp H
      obtain ⟨⟨t474, t475⟩, A220, H⟩ := H
      replace H : ((impl_HeardLost.f k t465 t468 t469 t470 t474 t475 a3).bind fun t476 => ((laws_eqIntS.f k t476 t462).bind fun t479 => (if t479 = true then ((laws_toHeardS.f k l0).bind fun t480 => ((laws_eqHeardS.f k t465 t480).bind fun t483 => (if t483 = true then ((laws_toPlan.f k a1_0 a1_1 l1_2).bind fun bt484 => ((laws_eqPlan.f k t468 t469 t470 bt484.1 bt484.2.1 bt484.2.2).bind fun t489 => (if t489 = true then ((laws_markHeardS.f k t465 1).bind fun bt490 => ((laws_markPlan.f k t468 t469 t470 bt490.1).bind fun bt492 => (if bt492.1 < 0 then (laws_FnExactHeardLost.j0 k l0 a3 t462 t476 true a1_0 a1_1 l1_2 a2_0 a2_1) else ((laws_eqIntS.f k t476 t462).bind fun t494 => (laws_FnExactHeardLost.j0 k l0 a3 t462 t476 (!t494) a1_0 a1_1 l1_2 a2_0 a2_1))))) else (some false)))) else (some false)))) else (some false)))) = some r := H
      have A22 := Aside0.mk A220
      clear A220
      replace H := Option.bind_eq_some_iff.mp H
      obtain ⟨t476, A230, H⟩ := H
      replace H : ((laws_eqIntS.f k t476 t462).bind fun t479 => (if t479 = true then ((laws_toHeardS.f k l0).bind fun t480 => ((laws_eqHeardS.f k t465 t480).bind fun t483 => (if t483 = true then ((laws_toPlan.f k a1_0 a1_1 l1_2).bind fun bt484 => ((laws_eqPlan.f k t468 t469 t470 bt484.1 bt484.2.1 bt484.2.2).bind fun t489 => (if t489 = true then ((laws_markHeardS.f k t465 1).bind fun bt490 => ((laws_markPlan.f k t468 t469 t470 bt490.1).bind fun bt492 => (if bt492.1 < 0 then (laws_FnExactHeardLost.j0 k l0 a3 t462 t476 true a1_0 a1_1 l1_2 a2_0 a2_1) else ((laws_eqIntS.f k t476 t462).bind fun t494 => (laws_FnExactHeardLost.j0 k l0 a3 t462 t476 (!t494) a1_0 a1_1 l1_2 a2_0 a2_1))))) else (some false)))) else (some false)))) else (some false))) = some r := H
      have A23 := Aside0.mk A230
      clear A230
      replace H := Option.bind_eq_some_iff.mp H
      obtain ⟨t479, A240, H⟩ := H
      replace H : (if t479 = true then ((laws_toHeardS.f k l0).bind fun t480 => ((laws_eqHeardS.f k t465 t480).bind fun t483 => (if t483 = true then ((laws_toPlan.f k a1_0 a1_1 l1_2).bind fun bt484 => ((laws_eqPlan.f k t468 t469 t470 bt484.1 bt484.2.1 bt484.2.2).bind fun t489 => (if t489 = true then ((laws_markHeardS.f k t465 1).bind fun bt490 => ((laws_markPlan.f k t468 t469 t470 bt490.1).bind fun bt492 => (if bt492.1 < 0 then (laws_FnExactHeardLost.j0 k l0 a3 t462 t476 true a1_0 a1_1 l1_2 a2_0 a2_1) else ((laws_eqIntS.f k t476 t462).bind fun t494 => (laws_FnExactHeardLost.j0 k l0 a3 t462 t476 (!t494) a1_0 a1_1 l1_2 a2_0 a2_1))))) else (some false)))) else (some false)))) else (some false)) = some r := H
      have A24 := Aside0.mk A240
      clear A240
      by_cases c25 : t479 = true
      · subst c25
        have H1 : ((laws_toHeardS.f k l0).bind fun t480 => ((laws_eqHeardS.f k t465 t480).bind fun t483 => (if t483 = true then ((laws_toPlan.f k a1_0 a1_1 l1_2).bind fun bt484 => ((laws_eqPlan.f k t468 t469 t470 bt484.1 bt484.2.1 bt484.2.2).bind fun t489 => (if t489 = true then ((laws_markHeardS.f k t465 1).bind fun bt490 => ((laws_markPlan.f k t468 t469 t470 bt490.1).bind fun bt492 => (if bt492.1 < 0 then (laws_FnExactHeardLost.j0 k l0 a3 t462 t476 true a1_0 a1_1 l1_2 a2_0 a2_1) else ((laws_eqIntS.f k t476 t462).bind fun t494 => (laws_FnExactHeardLost.j0 k l0 a3 t462 t476 (!t494) a1_0 a1_1 l1_2 a2_0 a2_1))))) else (some false)))) else (some false)))) = some r := by rw [if_pos rfl] at H; exact H
        clear H
        have H := H1
        clear H1
        replace H := Option.bind_eq_some_iff.mp H
        obtain ⟨t480, A260, H⟩ := H
        replace H : ((laws_eqHeardS.f k t465 t480).bind fun t483 => (if t483 = true then ((laws_toPlan.f k a1_0 a1_1 l1_2).bind fun bt484 => ((laws_eqPlan.f k t468 t469 t470 bt484.1 bt484.2.1 bt484.2.2).bind fun t489 => (if t489 = true then ((laws_markHeardS.f k t465 1).bind fun bt490 => ((laws_markPlan.f k t468 t469 t470 bt490.1).bind fun bt492 => (if bt492.1 < 0 then (laws_FnExactHeardLost.j0 k l0 a3 t462 t476 true a1_0 a1_1 l1_2 a2_0 a2_1) else ((laws_eqIntS.f k t476 t462).bind fun t494 => (laws_FnExactHeardLost.j0 k l0 a3 t462 t476 (!t494) a1_0 a1_1 l1_2 a2_0 a2_1))))) else (some false)))) else (some false))) = some r := H
        have A26 := Aside0.mk A260
        clear A260
        replace H := Option.bind_eq_some_iff.mp H
        obtain ⟨t483, A270, H⟩ := H
        replace H : (if t483 = true then ((laws_toPlan.f k a1_0 a1_1 l1_2).bind fun bt484 => ((laws_eqPlan.f k t468 t469 t470 bt484.1 bt484.2.1 bt484.2.2).bind fun t489 => (if t489 = true then ((laws_markHeardS.f k t465 1).bind fun bt490 => ((laws_markPlan.f k t468 t469 t470 bt490.1).bind fun bt492 => (if bt492.1 < 0 then (laws_FnExactHeardLost.j0 k l0 a3 t462 t476 true a1_0 a1_1 l1_2 a2_0 a2_1) else ((laws_eqIntS.f k t476 t462).bind fun t494 => (laws_FnExactHeardLost.j0 k l0 a3 t462 t476 (!t494) a1_0 a1_1 l1_2 a2_0 a2_1))))) else (some false)))) else (some false)) = some r := H
        have A27 := Aside0.mk A270
        clear A270
        by_cases c28 : t483 = true
        · subst c28
          have H1 : ((laws_toPlan.f k a1_0 a1_1 l1_2).bind fun bt484 => ((laws_eqPlan.f k t468 t469 t470 bt484.1 bt484.2.1 bt484.2.2).bind fun t489 => (if t489 = true then ((laws_markHeardS.f k t465 1).bind fun bt490 => ((laws_markPlan.f k t468 t469 t470 bt490.1).bind fun bt492 => (if bt492.1 < 0 then (laws_FnExactHeardLost.j0 k l0 a3 t462 t476 true a1_0 a1_1 l1_2 a2_0 a2_1) else ((laws_eqIntS.f k t476 t462).bind fun t494 => (laws_FnExactHeardLost.j0 k l0 a3 t462 t476 (!t494) a1_0 a1_1 l1_2 a2_0 a2_1))))) else (some false)))) = some r := by rw [if_pos rfl] at H; exact H
          clear H
          have H := H1
          clear H1
          replace H := Option.bind_eq_some_iff.mp H
          obtain ⟨⟨t484, t485, t486⟩, A290, H⟩ := H
          replace H : ((laws_eqPlan.f k t468 t469 t470 t484 t485 t486).bind fun t489 => (if t489 = true then ((laws_markHeardS.f k t465 1).bind fun bt490 => ((laws_markPlan.f k t468 t469 t470 bt490.1).bind fun bt492 => (if bt492.1 < 0 then (laws_FnExactHeardLost.j0 k l0 a3 t462 t476 true a1_0 a1_1 l1_2 a2_0 a2_1) else ((laws_eqIntS.f k t476 t462).bind fun t494 => (laws_FnExactHeardLost.j0 k l0 a3 t462 t476 (!t494) a1_0 a1_1 l1_2 a2_0 a2_1))))) else (some false))) = some r := H
          have A29 := Aside0.mk A290
          clear A290
          replace H := Option.bind_eq_some_iff.mp H
          obtain ⟨t489, A300, H⟩ := H
          replace H : (if t489 = true then ((laws_markHeardS.f k t465 1).bind fun bt490 => ((laws_markPlan.f k t468 t469 t470 bt490.1).bind fun bt492 => (if bt492.1 < 0 then (laws_FnExactHeardLost.j0 k l0 a3 t462 t476 true a1_0 a1_1 l1_2 a2_0 a2_1) else ((laws_eqIntS.f k t476 t462).bind fun t494 => (laws_FnExactHeardLost.j0 k l0 a3 t462 t476 (!t494) a1_0 a1_1 l1_2 a2_0 a2_1))))) else (some false)) = some r := H
          have A30 := Aside0.mk A300
          clear A300
          by_cases c31 : t489 = true
          · subst c31
            have H1 : ((laws_markHeardS.f k t465 1).bind fun bt490 => ((laws_markPlan.f k t468 t469 t470 bt490.1).bind fun bt492 => (if bt492.1 < 0 then (laws_FnExactHeardLost.j0 k l0 a3 t462 t476 true a1_0 a1_1 l1_2 a2_0 a2_1) else ((laws_eqIntS.f k t476 t462).bind fun t494 => (laws_FnExactHeardLost.j0 k l0 a3 t462 t476 (!t494) a1_0 a1_1 l1_2 a2_0 a2_1))))) = some r := by rw [if_pos rfl] at H; exact H
            clear H
            have H := H1
            clear H1
            replace H := Option.bind_eq_some_iff.mp H
            obtain ⟨⟨t490, t491⟩, A320, H⟩ := H
            replace H : ((laws_markPlan.f k t468 t469 t470 t490).bind fun bt492 => (if bt492.1 < 0 then (laws_FnExactHeardLost.j0 k l0 a3 t462 t476 true a1_0 a1_1 l1_2 a2_0 a2_1) else ((laws_eqIntS.f k t476 t462).bind fun t494 => (laws_FnExactHeardLost.j0 k l0 a3 t462 t476 (!t494) a1_0 a1_1 l1_2 a2_0 a2_1)))) = some r := H
            have A32 := Aside0.mk A320
            clear A320
            replace H := Option.bind_eq_some_iff.mp H
            obtain ⟨⟨t492, t493⟩, A330, H⟩ := H
            replace H : (if t492 < 0 then (laws_FnExactHeardLost.j0 k l0 a3 t462 t476 true a1_0 a1_1 l1_2 a2_0 a2_1) else ((laws_eqIntS.f k t476 t462).bind fun t494 => (laws_FnExactHeardLost.j0 k l0 a3 t462 t476 (!t494) a1_0 a1_1 l1_2 a2_0 a2_1))) = some r := H
            have A33 := Aside0.mk A330
            clear A330
            have HC34 := Aside0.mk H
            clear H
            go_enter Try.func5, Try.ntmps5
            try go_wp2_with (first | ((with_reducible refine gate_dst (N := 5) rfl ?_); refine box_event ?hg (N := 5) ?hd (cs := #[.int .i64 a1_0, .int .i64 a1_1, .slice A1_2 l1_2.length c1_2]) (t := 35) ?hr ?_; (case hd => rfl); (case hg => rfl); (case hr => first | (go_simp; done) | (go_simp; rfl)); intro gb448 hg w35 hbox hb; have n0_ := Aside0.mk (below_step (hb_ HB.out) hb); have n1_ := Aside0.mk (hbox); have n2_ := Aside0.mk ((by rw [hg]; exact (below_size (hb_ HB.out)) : w.heap.size ≤ gb448)); have n3_ := Aside0.mk ((by rw [hg]; exact (below_size (hb_ HB.out)) : w.heap.size ≤ gb448)); clear HB; have HB := n0_; have BK448 := n1_; have GW448 := n2_; have GE448 := n3_; clear n0_ n1_ n2_ n3_; clear hb hbox hg) | ((with_reducible refine gate_dst (N := 6) rfl ?_); refine box_event ?hg (N := 6) ?hd (cs := #[.int .i64 a2_0, .int .i64 a2_1]) (t := 37) ?hr ?_; (case hd => rfl); (case hg => rfl); (case hr => first | (go_simp; done) | (go_simp; rfl)); intro gb449 hg w36 hbox hb; have n0_ := Aside0.mk (bb_ BK448.out hb); have n1_ := Aside0.mk (below_step (hb1_ HB.out GE448.out) hb); have n2_ := Aside0.mk (hbox); have n3_ := Aside0.mk ((by rw [hg]; exact (below_size (hb1_ HB.out GE448.out)) : w.heap.size ≤ gb449)); have n4_ := Aside0.mk ((by rw [hg]; exact (below_size (hb1_ HB.out GE448.out)) : w.heap.size ≤ gb449)); have n5_ := Aside0.mk ((bl_ hg BK448.out : gb448 ≠ gb449)); have n6_ := Aside0.mk ((bg_ hg BK448.out : gb449 ≠ gb448)); clear BK448; clear HB; have BK448 := n0_; have HB := n1_; have BK449 := n2_; have GW449 := n3_; have GE449 := n4_; have NB448_449 := n5_; have NB449_448 := n6_; clear n0_ n1_ n2_ n3_ n4_ n5_ n6_; clear hb hbox hg) | ((with_reducible refine gate_callee (f := 9) rfl ?_); refine goesL_ (some 20) rfl rfl Try.func9 (by kernel_rfl) rfl #[.slice A0 l0.length c0, .int .i64 1048576] rfl arr_ ?_; (with_reducible refine (laws_szHeardS.calls _ _ l0 1048576 t450 _ ?side1 ?side2 A5.out).mono ?_); (case side1 => exact kc_ (Kd.C_below HR0.out HB.out)); (case side2 => exact HC0.out); rintro e w' ⟨rfl, ⟨nd, rfl⟩⟩; refine ⟨_, rfl, ?_⟩; (try (rw [drewN_self w36]; generalize hq_ : World.drewN w36 _ = w36; have n0_ : Aside0 (w36.heap[gb448]? = some (.cells #[.int .i64 a1_0, .int .i64 a1_1, .slice A1_2 l1_2.length c1_2] 35 (0, 0))) := ⟨by rw [← hq_]; exact (bk_ BK448.out)⟩; have n1_ : Aside0 (w36.heap[gb449]? = some (.cells #[.int .i64 a2_0, .int .i64 a2_1] 37 (0, 0))) := ⟨by rw [← hq_]; exact (bk_ BK449.out)⟩; have n2_ : Aside0 (Below w.heap.size w w36) := ⟨by rw [← hq_]; exact (hb2_ HB.out GE448.out GE449.out)⟩; clear BK448 BK449 HB hq_; have BK448 := n0_; have BK449 := n1_; have HB := n2_; clear n0_ n1_ n2_)); have hnb37 := NB448_449.out; have hnc37 := NB449_448.out; have hcz38_0 := bc_ BK448.out 0 (.int .i64 a1_0) rfl; have hcz38_1 := bc_ BK448.out 1 (.int .i64 a1_1) rfl; have hcz38_2 := bc_ BK448.out 2 (.slice A1_2 l1_2.length c1_2) rfl; have hfz38_0 := blk_frozen BK448.out 0; have hfz38_1 := blk_frozen BK448.out 1; have hfz38_2 := blk_frozen BK448.out 2) | ((with_reducible refine gate_callee (f := 18) rfl ?_); refine goesL_ (some 25) rfl rfl Try.func18 (by kernel_rfl) rfl #[.agg #[.int .i64 a1_0, .int .i64 a1_1, .slice A1_2 l1_2.length c1_2], .int .i64 t450] rfl arr_ ?_; (with_reducible refine (laws_szPlan.calls a1_0 a1_1 _ _ l1_2 t450 t451 _ ?side1 ?side2 A9.out).mono ?_); (case side1 => exact kc_ (Kd.C_below HR1_2.out HB.out)); (case side2 => exact HC1_2.out); rintro e w39 ⟨rfl, hb⟩; refine ⟨_, rfl, ?_⟩; have n0_ := Aside0.mk (bb_ BK448.out hb); have n1_ := Aside0.mk (bb_ BK449.out hb); have n2_ := Aside0.mk (below_step (hb2_ HB.out GE448.out GE449.out) hb); clear BK448; clear BK449; clear HB; have BK448 := n0_; have BK449 := n1_; have HB := n2_; clear n0_ n1_ n2_; (try clear hb); (try clear hb2); (try clear hk); (try clear hi)))
            have n0_ := Aside0.mk (blk_drew BK448.out)
            have n1_ := Aside0.mk (blk_drew BK449.out)
            have n2_ := Aside0.mk (below_drew1 HB.out)
            clear BK448
            clear BK449
            clear HB
            have BK448 := n0_
            have BK449 := n1_
            have HB := n2_
            clear n0_ n1_ n2_
            refine start_ (n := 9) (S := fun w' => w'.cell? ⟨gb448, 0, none⟩ = some (.int .i64 a1_0) ∧ w'.cell? ⟨gb448, 1, none⟩ = some (.int .i64 a1_1) ∧ w'.cell? ⟨gb448, 2, none⟩ = some (.slice A1_2 l1_2.length c1_2) ∧ w'.cell? ⟨gb449, 0, none⟩ = some (.int .i64 a2_0) ∧ w'.cell? ⟨gb449, 1, none⟩ = some (.int .i64 a2_1)) (ds := []) #[false, false, false, false, false, false, false, false, false] (by kernel_rfl) rfl rfl ⟨(blk_cell BK448.out 0).trans rfl, (blk_cell BK448.out 1).trans rfl, (blk_cell BK448.out 2).trans rfl, (blk_cell BK449.out 0).trans rfl, (blk_cell BK449.out 1).trans rfl⟩ (fun hHeld => ?_); refine with_tabW laws_FnExactHeardLost.tab8 laws_FnExactHeardLost.bits8 (fun HT_ HW_ => ?_)
            generalize w39.drew = w40 at BK448 BK449 HB hHeld ⊢
            refine pure_ (i := 0) (N := some 28) (v := ?_) (a' := ?_) #[true, false, false, false, false, false, false, false, false] rfl rfl (any_of HT_.out (by kernel_rfl)) (fun _ _ _ h => h) (Or.inl ⟨by rfl, ?_⟩) ?_ ?_
            rotate_left
            · intro w'
              go_simp
              with_reducible rfl
            rotate_left
            · simp only [Act.put, List.setIfInBounds_toArray, List.set_cons_zero, List.set_cons_succ, i64_w, i32_w]
              rfl
            refine pure_ (i := 6) (N := some 34) (v := ?_) (a' := ?_) #[true, false, false, false, false, false, true, false, false] rfl rfl (any_of HT_.out (by kernel_rfl)) (fun _ _ _ h => h) (Or.inl ⟨by rfl, ?_⟩) ?_ ?_
            rotate_left
            · intro w'
              go_simp
              with_reducible rfl
            rotate_left
            · simp only [Act.put, List.setIfInBounds_toArray, List.set_cons_zero, List.set_cons_succ, i64_w, i32_w]
              rfl
            refine take_ (i := 2) (N := some 30) (v := ?_) (a' := ?_) #[true, false, true, false, false, false, true, false, false] rfl rfl (take_ofW HT_.out HW_.out (by kernel_rfl)) (fun _ _ _ h => h) (Or.inl ⟨by rfl, ?_⟩) hHeld ?_ ?_
            rotate_left
            · rintro w' ⟨s0, s1, s2, s3, s4⟩
              go_simp
              with_reducible rfl
            rotate_left
            · simp only [Act.put, List.setIfInBounds_toArray, List.set_cons_zero, List.set_cons_succ, i64_w, i32_w]
              rfl
            refine take_ (i := 4) (N := some 32) (v := ?_) (a' := ?_) #[true, false, true, false, true, false, true, false, false] rfl rfl (take_ofW HT_.out HW_.out (by kernel_rfl)) (fun _ _ _ h => h) (Or.inl ⟨by rfl, ?_⟩) hHeld ?_ ?_
            rotate_left
            · rintro w' ⟨s0, s1, s2, s3, s4⟩
              go_simp
              with_reducible rfl
            rotate_left
            · simp only [Act.put, List.setIfInBounds_toArray, List.set_cons_zero, List.set_cons_succ, i64_w, i32_w]
              rfl
            refine one_ (i := 1) (N := some 29) #[true, true, true, false, true, false, true, false, false] rfl rfl (one_of HT_.out (by kernel_rfl)) (by decide) (fun K hK => ?_)
            refine goes_ Try.func11 (by kernel_rfl) rfl #[.slice A0 l0.length c0] (by rfl) rfl rfl arr_ ?_
            with_reducible refine (laws_toHeardS.calls k _ _ l0 t452 _ ?side1 ?side2 A16.out).mono ?_
            (case side1 => exact kc_ (Kd.C_below HR0.out HB.out))
            (case side2 => exact HC0.out)
            rintro e w41 ⟨v453, rfl, ho0, hb⟩
            refine ⟨_, rfl, ?_⟩
            have n0_ := Aside0.mk (Kd.R_lower ho0 (below_size (hb2_ HB.out GE448.out GE449.out)))
            have n1_ := Aside0.mk (bb_ BK448.out hb)
            have n2_ := Aside0.mk (bb_ BK449.out hb)
            have n3_ := Aside0.mk (below_step (hb2_ HB.out GE448.out GE449.out) hb)
            clear BK448
            clear BK449
            clear HB
            have HO454 := n0_
            have BK448 := n1_
            have BK449 := n2_
            have HB := n3_
            clear n0_ n1_ n2_ n3_
            (try clear hb)
            (try clear hb2)
            (try clear hk)
            (try clear hi)
            (try clear ho0)
            refine hK.out _ _ ⟨(blk_cell BK448.out 0).trans rfl, (blk_cell BK448.out 1).trans rfl, (blk_cell BK448.out 2).trans rfl, (blk_cell BK449.out 0).trans rfl, (blk_cell BK449.out 1).trans rfl⟩ (fun hHeld => ?_)
            clear hK K
            refine norm_ (a' := ?_) ?_ ?_
            rotate_left
            · show Act.put _ (some 29) _ = _
              simp only [Act.put, List.setIfInBounds_toArray, List.set_cons_zero, List.set_cons_succ, i64_w, i32_w]
              rfl
            refine one_ (i := 3) (N := some 31) #[true, true, true, true, true, false, true, false, false] rfl rfl (one_of HT_.out (by kernel_rfl)) (by decide) (fun K hK => ?_)
            refine goes_ Try.func20 (by kernel_rfl) rfl #[.agg #[.int .i64 a1_0, .int .i64 a1_1, .slice A1_2 l1_2.length c1_2]] (by rfl) rfl rfl arr_ ?_
            with_reducible refine (laws_toPlan.calls k a1_0 a1_1 _ _ l1_2 t455 t456 t457 _ ?side1 ?side2 A17.out).mono ?_
            (case side1 => exact kc_ (Kd.C_below HR1_2.out HB.out))
            (case side2 => exact HC1_2.out)
            rintro e w42 ⟨v458, rfl, ho0, hb⟩
            refine ⟨_, rfl, ?_⟩
            have n0_ := Aside0.mk (Kd.R_below (by (with_reducible repeat (first | apply Kd.R_alloc | apply Kd.R_drewN | apply Kd.R_drew)); exact HO454.out) hb)
            have n1_ := Aside0.mk (Kd.R_lower ho0 (below_size (hb2_ HB.out GE448.out GE449.out)))
            have n2_ := Aside0.mk (bb_ BK448.out hb)
            have n3_ := Aside0.mk (bb_ BK449.out hb)
            have n4_ := Aside0.mk (below_step (hb2_ HB.out GE448.out GE449.out) hb)
            clear HO454
            clear BK448
            clear BK449
            clear HB
            have HO454 := n0_
            have HO459 := n1_
            have BK448 := n2_
            have BK449 := n3_
            have HB := n4_
            clear n0_ n1_ n2_ n3_ n4_
            (try clear hb)
            (try clear hb2)
            (try clear hk)
            (try clear hi)
            (try clear ho0)
            refine hK.out _ _ ⟨(blk_cell BK448.out 0).trans rfl, (blk_cell BK448.out 1).trans rfl, (blk_cell BK448.out 2).trans rfl, (blk_cell BK449.out 0).trans rfl, (blk_cell BK449.out 1).trans rfl⟩ (fun hHeld => ?_)
            clear hK K
            refine norm_ (a' := ?_) ?_ ?_
            rotate_left
            · show Act.put _ (some 31) _ = _
              simp only [Act.put, List.setIfInBounds_toArray, List.set_cons_zero, List.set_cons_succ, i64_w, i32_w]
              rfl
            refine one_ (i := 5) (N := some 33) #[true, true, true, true, true, true, true, false, false] rfl rfl (one_of HT_.out (by kernel_rfl)) (by decide) (fun K hK => ?_)
            refine goes_ Try.func21 (by kernel_rfl) rfl #[.agg #[.int .i64 a2_0, .int .i64 a2_1]] (by rfl) rfl rfl arr_ ?_
            with_reducible refine (laws_toDrift.calls a2_0 a2_1 t460 t461 _ A18.out).mono ?_
            rintro e w43 ⟨rfl, hb⟩
            refine ⟨_, rfl, ?_⟩
            have n0_ := Aside0.mk (Kd.R_below (by (with_reducible repeat (first | apply Kd.R_alloc | apply Kd.R_drewN | apply Kd.R_drew)); exact HO454.out) hb)
            have n1_ := Aside0.mk (Kd.R_below (by (with_reducible repeat (first | apply Kd.R_alloc | apply Kd.R_drewN | apply Kd.R_drew)); exact HO459.out) hb)
            have n2_ := Aside0.mk (bb_ BK448.out hb)
            have n3_ := Aside0.mk (bb_ BK449.out hb)
            have n4_ := Aside0.mk (below_step (hb2_ HB.out GE448.out GE449.out) hb)
            clear HO454
            clear HO459
            clear BK448
            clear BK449
            clear HB
            have HO454 := n0_
            have HO459 := n1_
            have BK448 := n2_
            have BK449 := n3_
            have HB := n4_
            clear n0_ n1_ n2_ n3_ n4_
            (try clear hb)
            (try clear hb2)
            (try clear hk)
            (try clear hi)
            obtain ⟨Ao44, co44, eo44⟩ := Kd.R_slice HO454.out
            (first | subst eo44 | (injection eo44 with f1_ f2_ f3_; have f4_ := f1_.symm; have f5_ := f3_.symm; clear f1_ f2_ f3_; subst f4_; subst f5_))
            obtain ⟨Ao45, co45, eo45⟩ := Kd.R_slice HO459.out
            (first | subst eo45 | (injection eo45 with f1_ f2_ f3_; have f4_ := f1_.symm; have f5_ := f3_.symm; clear f1_ f2_ f3_; subst f4_; subst f5_))
            refine hK.out _ _ ⟨(blk_cell BK448.out 0).trans rfl, (blk_cell BK448.out 1).trans rfl, (blk_cell BK448.out 2).trans rfl, (blk_cell BK449.out 0).trans rfl, (blk_cell BK449.out 1).trans rfl⟩ (fun hHeld => ?_)
            clear hK K
            refine norm_ (a' := ?_) ?_ ?_
            rotate_left
            · show Act.put _ (some 33) _ = _
              simp only [Act.put, List.setIfInBounds_toArray, List.set_cons_zero, List.set_cons_succ, i64_w, i32_w]
              rfl
            refine one_ (i := 7) (N := some 35) #[true, true, true, true, true, true, true, true, false] rfl rfl (one_of HT_.out (by kernel_rfl)) (by decide) (fun K hK => ?_)
            refine goes_ Try.func25 (by kernel_rfl) rfl #[.slice Ao44 t452.length co44, .agg #[.int .i64 t455, .int .i64 t456, .slice Ao45 t457.length co45], .agg #[.int .i64 t460, .int .i64 t461], .int .i64 a3] (by rfl) rfl rfl arr_ ?_
            with_reducible refine (spec_HeardLost.calls k _ _ t452 t455 t456 _ _ t457 t460 t461 a3 t462 _ ?side1 ?side2 ?side3 ?side4 A19.out).mono ?_
            (case side1 => repeat (first | exact (Kd.R_reads' HO454.out).2.2 | (with_reducible refine Kd.C_alloc ?_ _) | (with_reducible refine Kd.C_drewN ?_ _) | (with_reducible refine Kd.C_drew ?_)))
            (case side2 => exact (Kd.R_reads' HO454.out).2.1)
            (case side3 => repeat (first | exact (Kd.R_reads' HO459.out).2.2 | (with_reducible refine Kd.C_alloc ?_ _) | (with_reducible refine Kd.C_drewN ?_ _) | (with_reducible refine Kd.C_drew ?_)))
            (case side4 => exact (Kd.R_reads' HO459.out).2.1)
            rintro e w46 ⟨v463, rfl, ho0, hb⟩
            refine ⟨_, rfl, ?_⟩
            have n0_ := Aside0.mk (Kd.R_below (by (with_reducible repeat (first | apply Kd.R_alloc | apply Kd.R_drewN | apply Kd.R_drew)); exact HO454.out) hb)
            have n1_ := Aside0.mk (Kd.R_below (by (with_reducible repeat (first | apply Kd.R_alloc | apply Kd.R_drewN | apply Kd.R_drew)); exact HO459.out) hb)
            have n2_ := Aside0.mk (Kd.R_lower ho0 (below_size (hb2_ HB.out GE448.out GE449.out)))
            have n3_ := Aside0.mk (bb_ BK448.out hb)
            have n4_ := Aside0.mk (bb_ BK449.out hb)
            have n5_ := Aside0.mk (below_step (hb2_ HB.out GE448.out GE449.out) hb)
            clear HO454
            clear HO459
            clear BK448
            clear BK449
            clear HB
            have HO454 := n0_
            have HO459 := n1_
            have HO464 := n2_
            have BK448 := n3_
            have BK449 := n4_
            have HB := n5_
            clear n0_ n1_ n2_ n3_ n4_ n5_
            (try clear hb)
            (try clear hb2)
            (try clear hk)
            (try clear hi)
            (try clear ho0)
            refine hK.out _ _ ⟨(blk_cell BK448.out 0).trans rfl, (blk_cell BK448.out 1).trans rfl, (blk_cell BK448.out 2).trans rfl, (blk_cell BK449.out 0).trans rfl, (blk_cell BK449.out 1).trans rfl⟩ (fun hHeld => ?_)
            clear hK K
            refine norm_ (a' := ?_) ?_ ?_
            rotate_left
            · show Act.put _ (some 35) _ = _
              simp only [Act.put, List.setIfInBounds_toArray, List.set_cons_zero, List.set_cons_succ, i64_w, i32_w]
              rfl
            refine pure_ (i := 8) (N := some 10) (v := ?_) (a' := ?_) #[true, true, true, true, true, true, true, true, true] rfl rfl (any_of HT_.out (by kernel_rfl)) (fun _ _ _ h => h) (Or.inl ⟨by rfl, ?_⟩) ?_ ?_
            rotate_left
            · intro w'
              go_simp
              with_reducible rfl
            rotate_left
            · simp only [Act.put, List.setIfInBounds_toArray, List.set_cons_zero, List.set_cons_succ, i64_w, i32_w]
              rfl
            refine done_ (done_of HT_.out (by kernel_rfl)) ?_
            try go_wp2_with (first | ((with_reducible refine gate_callee (f := 11) rfl ?_); refine goesL_ (some 37) rfl rfl Try.func11 (by kernel_rfl) rfl #[.slice A0 l0.length c0] rfl arr_ ?_; (with_reducible refine (laws_toHeardS.calls k _ _ l0 t465 _ ?side1 ?side2 A20.out).mono ?_); (case side1 => exact kc_ (Kd.C_below HR0.out HB.out)); (case side2 => exact HC0.out); rintro e w47 ⟨v466, rfl, ho0, hb⟩; refine ⟨_, rfl, ?_⟩; have n0_ := Aside0.mk (Kd.R_elder' (by (with_reducible repeat (first | apply Kd.R_alloc | apply Kd.R_drewN | apply Kd.R_drew)); exact HO454.out) (Kd.R_base ho0) hb); have n1_ := Aside0.mk (Kd.R_below (by (with_reducible repeat (first | apply Kd.R_alloc | apply Kd.R_drewN | apply Kd.R_drew)); exact HO459.out) hb); have n2_ := Aside0.mk (Kd.R_below (by (with_reducible repeat (first | apply Kd.R_alloc | apply Kd.R_drewN | apply Kd.R_drew)); exact HO464.out) hb); have n3_ := Aside0.mk (Kd.R_lower (Kd.R_new' ho0 (Kd.R_lt (by (with_reducible repeat (first | apply Kd.R_alloc | apply Kd.R_drewN | apply Kd.R_drew)); exact HO454.out))) (below_size (hb2_ HB.out GE448.out GE449.out))); have n4_ := Aside0.mk (bb_ BK448.out hb); have n5_ := Aside0.mk (bb_ BK449.out hb); have n6_ := Aside0.mk (below_step (hb2_ HB.out GE448.out GE449.out) hb); clear HO454; clear HO459; clear HO464; clear BK448; clear BK449; clear HB; have HO454 := n0_; have HO459 := n1_; have HO464 := n2_; have HO467 := n3_; have BK448 := n4_; have BK449 := n5_; have HB := n6_; clear n0_ n1_ n2_ n3_ n4_ n5_ n6_; (try clear hb); (try clear hb2); (try clear hk); (try clear hi); (try clear ho0); have hcz48_0 := bc_ BK448.out 0 (.int .i64 a1_0) rfl; have hcz48_1 := bc_ BK448.out 1 (.int .i64 a1_1) rfl; have hcz48_2 := bc_ BK448.out 2 (.slice A1_2 l1_2.length c1_2) rfl; have hfz48_0 := blk_frozen BK448.out 0; have hfz48_1 := blk_frozen BK448.out 1; have hfz48_2 := blk_frozen BK448.out 2) | ((with_reducible refine gate_callee (f := 20) rfl ?_); refine goesL_ (some 39) rfl rfl Try.func20 (by kernel_rfl) rfl #[.agg #[.int .i64 a1_0, .int .i64 a1_1, .slice A1_2 l1_2.length c1_2]] rfl arr_ ?_; (with_reducible refine (laws_toPlan.calls k a1_0 a1_1 _ _ l1_2 t468 t469 t470 _ ?side1 ?side2 A21.out).mono ?_); (case side1 => exact kc_ (Kd.C_below HR1_2.out HB.out)); (case side2 => exact HC1_2.out); rintro e w49 ⟨v471, rfl, ho0, hb⟩; refine ⟨_, rfl, ?_⟩; have n0_ := Aside0.mk (Kd.R_below (by (with_reducible repeat (first | apply Kd.R_alloc | apply Kd.R_drewN | apply Kd.R_drew)); exact HO454.out) hb); have n1_ := Aside0.mk (Kd.R_elder' (by (with_reducible repeat (first | apply Kd.R_alloc | apply Kd.R_drewN | apply Kd.R_drew)); exact HO459.out) (Kd.R_base ho0) hb); have n2_ := Aside0.mk (Kd.R_below (by (with_reducible repeat (first | apply Kd.R_alloc | apply Kd.R_drewN | apply Kd.R_drew)); exact HO464.out) hb); have n3_ := Aside0.mk (Kd.R_below (by (with_reducible repeat (first | apply Kd.R_alloc | apply Kd.R_drewN | apply Kd.R_drew)); exact HO467.out) hb); have n4_ := Aside0.mk (Kd.R_lower (Kd.R_new' ho0 (Kd.R_lt (by (with_reducible repeat (first | apply Kd.R_alloc | apply Kd.R_drewN | apply Kd.R_drew)); exact HO459.out))) (below_size (hb2_ HB.out GE448.out GE449.out))); have n5_ := Aside0.mk (bb_ BK448.out hb); have n6_ := Aside0.mk (bb_ BK449.out hb); have n7_ := Aside0.mk (below_step (hb2_ HB.out GE448.out GE449.out) hb); clear HO454; clear HO459; clear HO464; clear HO467; clear BK448; clear BK449; clear HB; have HO454 := n0_; have HO459 := n1_; have HO464 := n2_; have HO467 := n3_; have HO472 := n4_; have BK448 := n5_; have BK449 := n6_; have HB := n7_; clear n0_ n1_ n2_ n3_ n4_ n5_ n6_ n7_; (try clear hb); (try clear hb2); (try clear hk); (try clear hi); (try clear ho0)) | ((with_reducible refine gate_dst (N := 12) rfl ?_); refine box_event ?hg (N := 12) ?hd (cs := #[.int .i64 0, .int .i64 0, .slice none 0 0]) (t := 42) ?hr ?_; (case hd => rfl); (case hg => rfl); (case hr => first | (go_simp; done) | (go_simp; rfl)); intro gb473 hg w50 hbox hb; have n0_ := Aside0.mk (Kd.R_below (by (with_reducible repeat (first | apply Kd.R_alloc | apply Kd.R_drewN | apply Kd.R_drew)); exact HO454.out) hb); have n1_ := Aside0.mk (Kd.R_below (by (with_reducible repeat (first | apply Kd.R_alloc | apply Kd.R_drewN | apply Kd.R_drew)); exact HO459.out) hb); have n2_ := Aside0.mk (Kd.R_below (by (with_reducible repeat (first | apply Kd.R_alloc | apply Kd.R_drewN | apply Kd.R_drew)); exact HO464.out) hb); have n3_ := Aside0.mk (Kd.R_below (by (with_reducible repeat (first | apply Kd.R_alloc | apply Kd.R_drewN | apply Kd.R_drew)); exact HO467.out) hb); have n4_ := Aside0.mk (Kd.R_below (by (with_reducible repeat (first | apply Kd.R_alloc | apply Kd.R_drewN | apply Kd.R_drew)); exact HO472.out) hb); have n5_ := Aside0.mk (bb_ BK448.out hb); have n6_ := Aside0.mk (bb_ BK449.out hb); have n7_ := Aside0.mk (below_step (hb2_ HB.out GE448.out GE449.out) hb); have n8_ := Aside0.mk (hbox); have n9_ := Aside0.mk ((by rw [hg]; exact (below_size (hb2_ HB.out GE448.out GE449.out)) : w.heap.size ≤ gb473)); have n10_ := Aside0.mk ((by rw [hg]; exact (below_size (hb2_ HB.out GE448.out GE449.out)) : w.heap.size ≤ gb473)); have n11_ := Aside0.mk ((bl_ hg BK448.out : gb448 ≠ gb473)); have n12_ := Aside0.mk ((bg_ hg BK448.out : gb473 ≠ gb448)); have n13_ := Aside0.mk ((bl_ hg BK449.out : gb449 ≠ gb473)); have n14_ := Aside0.mk ((bg_ hg BK449.out : gb473 ≠ gb449)); clear HO454; clear HO459; clear HO464; clear HO467; clear HO472; clear BK448; clear BK449; clear HB; have HO454 := n0_; have HO459 := n1_; have HO464 := n2_; have HO467 := n3_; have HO472 := n4_; have BK448 := n5_; have BK449 := n6_; have HB := n7_; have BK473 := n8_; have GW473 := n9_; have GE473 := n10_; have NB448_473 := n11_; have NB473_448 := n12_; have NB449_473 := n13_; have NB473_449 := n14_; clear n0_ n1_ n2_ n3_ n4_ n5_ n6_ n7_ n8_ n9_ n10_ n11_ n12_ n13_ n14_; clear hb hbox hg; have hnb51 := NB473_448.out; have hnc51 := NB448_473.out; have hnb52 := NB473_449.out; have hnc52 := NB449_473.out; have hcz53_0 := bc_ BK473.out 0 (.int .i64 0) rfl; have hcz53_1 := bc_ BK473.out 1 (.int .i64 0) rfl; have hcz53_2 := bc_ BK473.out 2 (.slice none 0 0) rfl; have hfz53_0 := blk_frozen BK473.out 0; have hfz53_1 := blk_frozen BK473.out 1; have hfz53_2 := blk_frozen BK473.out 2; obtain ⟨Ao54, co54, eo54⟩ := Kd.R_slice HO472.out; subst eo54))
            have n0_ : Aside0 (Kd.R k73 73 (((w50.setCell ⟨gb473, 0, none⟩ (.int .i64 t468)).setCell ⟨gb473, 1, none⟩ (.int .i64 t469)).setCell ⟨gb473, 2, none⟩ (.slice Ao54 t470.length co54)) w.heap.size (fun k_ => some k_ ≠ (v466 : Value).ownBlock) (.slice Ao44 t452.length co44) t452) := ⟨by (with_reducible repeat (first | apply Kd.R_alloc | apply Kd.R_drewN | apply Kd.R_drew)); exact Kd.R_mono (Kd.R_far (p := ⟨gb473, 2, none⟩) (Kd.R_far (p := ⟨gb473, 1, none⟩) (Kd.R_far (p := ⟨gb473, 0, none⟩) (Kd.R_types HO454.out BK473.out (by decide)) (fun _ hk => hk.2) (.int .i64 t468)) (fun _ hk => hk.2) (.int .i64 t469)) (fun _ hk => hk.2) (.slice Ao54 t470.length co54)) (fun _ hk => hk.1.2)⟩
            have n1_ : Aside0 (Kd.R k89 89 (((w50.setCell ⟨gb473, 0, none⟩ (.int .i64 t468)).setCell ⟨gb473, 1, none⟩ (.int .i64 t469)).setCell ⟨gb473, 2, none⟩ (.slice Ao54 t470.length co54)) w.heap.size (fun k_ => some k_ ≠ (.slice Ao54 t470.length co54 : Value).ownBlock) (.slice Ao45 t457.length co45) t457) := ⟨by (with_reducible repeat (first | apply Kd.R_alloc | apply Kd.R_drewN | apply Kd.R_drew)); exact Kd.R_mono (Kd.R_far (p := ⟨gb473, 2, none⟩) (Kd.R_far (p := ⟨gb473, 1, none⟩) (Kd.R_far (p := ⟨gb473, 0, none⟩) (Kd.R_types HO459.out BK473.out (by decide)) (fun _ hk => hk.2) (.int .i64 t468)) (fun _ hk => hk.2) (.int .i64 t469)) (fun _ hk => hk.2) (.slice Ao54 t470.length co54)) (fun _ hk => hk.1.2)⟩
            have n2_ : Aside0 (Kd.R (Kd.int .i64) 3 (((w50.setCell ⟨gb473, 0, none⟩ (.int .i64 t468)).setCell ⟨gb473, 1, none⟩ (.int .i64 t469)).setCell ⟨gb473, 2, none⟩ (.slice Ao54 t470.length co54)) w.heap.size (fun _ => True) v463 t462) := ⟨by (with_reducible repeat (first | apply Kd.R_alloc | apply Kd.R_drewN | apply Kd.R_drew)); exact Kd.R_mono (Kd.R_far (p := ⟨gb473, 2, none⟩) (Kd.R_far (p := ⟨gb473, 1, none⟩) (Kd.R_far (p := ⟨gb473, 0, none⟩) (Kd.R_types HO464.out BK473.out (by decide)) (fun _ hk => hk.2) (.int .i64 t468)) (fun _ hk => hk.2) (.int .i64 t469)) (fun _ hk => hk.2) (.slice Ao54 t470.length co54)) (fun _ hk => trivial)⟩
            have n3_ : Aside0 (Kd.R k73 73 (((w50.setCell ⟨gb473, 0, none⟩ (.int .i64 t468)).setCell ⟨gb473, 1, none⟩ (.int .i64 t469)).setCell ⟨gb473, 2, none⟩ (.slice Ao54 t470.length co54)) w.heap.size (fun k_ => some k_ ≠ (.slice Ao44 t452.length co44 : Value).ownBlock) v466 t465) := ⟨by (with_reducible repeat (first | apply Kd.R_alloc | apply Kd.R_drewN | apply Kd.R_drew)); exact Kd.R_mono (Kd.R_far (p := ⟨gb473, 2, none⟩) (Kd.R_far (p := ⟨gb473, 1, none⟩) (Kd.R_far (p := ⟨gb473, 0, none⟩) (Kd.R_types HO467.out BK473.out (by decide)) (fun _ hk => hk.2) (.int .i64 t468)) (fun _ hk => hk.2) (.int .i64 t469)) (fun _ hk => hk.2) (.slice Ao54 t470.length co54)) (fun _ hk => hk.1.2)⟩
            have n4_ : Aside0 (Kd.R k89 89 (((w50.setCell ⟨gb473, 0, none⟩ (.int .i64 t468)).setCell ⟨gb473, 1, none⟩ (.int .i64 t469)).setCell ⟨gb473, 2, none⟩ (.slice Ao54 t470.length co54)) w.heap.size (fun k_ => some k_ ≠ (.slice Ao45 t457.length co45 : Value).ownBlock) (.slice Ao54 t470.length co54) t470) := ⟨by (with_reducible repeat (first | apply Kd.R_alloc | apply Kd.R_drewN | apply Kd.R_drew)); exact Kd.R_mono (Kd.R_far (p := ⟨gb473, 2, none⟩) (Kd.R_far (p := ⟨gb473, 1, none⟩) (Kd.R_far (p := ⟨gb473, 0, none⟩) (Kd.R_types HO472.out BK473.out (by decide)) (fun _ hk => hk.2) (.int .i64 t468)) (fun _ hk => hk.2) (.int .i64 t469)) (fun _ hk => hk.2) (.slice Ao54 t470.length co54)) (fun _ hk => hk.1.2)⟩
            have n5_ : Aside0 ((((w50.setCell ⟨gb473, 0, none⟩ (.int .i64 t468)).setCell ⟨gb473, 1, none⟩ (.int .i64 t469)).setCell ⟨gb473, 2, none⟩ (.slice Ao54 t470.length co54)).heap[gb448]? = some (.cells #[.int .i64 a1_0, .int .i64 a1_1, .slice A1_2 l1_2.length c1_2] 35 (0, 0))) := ⟨by (with_reducible repeat (first | refine blk_drewN ?_ _ | refine blk_drew ?_ | refine blk_alloc ?_ _)); refine blk_far ?_ NB448_473.out _; (with_reducible repeat (first | refine blk_drewN ?_ _ | refine blk_drew ?_ | refine blk_alloc ?_ _)); refine blk_far ?_ NB448_473.out _; (with_reducible repeat (first | refine blk_drewN ?_ _ | refine blk_drew ?_ | refine blk_alloc ?_ _)); refine blk_far ?_ NB448_473.out _; (with_reducible repeat (first | refine blk_drewN ?_ _ | refine blk_drew ?_ | refine blk_alloc ?_ _)); exact BK448.out⟩
            have n6_ : Aside0 ((((w50.setCell ⟨gb473, 0, none⟩ (.int .i64 t468)).setCell ⟨gb473, 1, none⟩ (.int .i64 t469)).setCell ⟨gb473, 2, none⟩ (.slice Ao54 t470.length co54)).heap[gb449]? = some (.cells #[.int .i64 a2_0, .int .i64 a2_1] 37 (0, 0))) := ⟨by (with_reducible repeat (first | refine blk_drewN ?_ _ | refine blk_drew ?_ | refine blk_alloc ?_ _)); refine blk_far ?_ NB449_473.out _; (with_reducible repeat (first | refine blk_drewN ?_ _ | refine blk_drew ?_ | refine blk_alloc ?_ _)); refine blk_far ?_ NB449_473.out _; (with_reducible repeat (first | refine blk_drewN ?_ _ | refine blk_drew ?_ | refine blk_alloc ?_ _)); refine blk_far ?_ NB449_473.out _; (with_reducible repeat (first | refine blk_drewN ?_ _ | refine blk_drew ?_ | refine blk_alloc ?_ _)); exact BK449.out⟩
            have n7_ : Aside0 ((((w50.setCell ⟨gb473, 0, none⟩ (.int .i64 t468)).setCell ⟨gb473, 1, none⟩ (.int .i64 t469)).setCell ⟨gb473, 2, none⟩ (.slice Ao54 t470.length co54)).heap[gb473]? = some (.cells #[.int .i64 t468, .int .i64 t469, .slice Ao54 t470.length co54] 42 (0, 0))) := ⟨by (with_reducible repeat (first | refine blk_drewN ?_ _ | refine blk_drew ?_ | refine blk_alloc ?_ _)); refine blk_put (cs := #[.int .i64 t468, .int .i64 t469, .slice none 0 0]) ?_ 2 _ rfl; (with_reducible repeat (first | refine blk_drewN ?_ _ | refine blk_drew ?_ | refine blk_alloc ?_ _)); refine blk_put (cs := #[.int .i64 t468, .int .i64 0, .slice none 0 0]) ?_ 1 _ rfl; (with_reducible repeat (first | refine blk_drewN ?_ _ | refine blk_drew ?_ | refine blk_alloc ?_ _)); refine blk_put (cs := #[.int .i64 0, .int .i64 0, .slice none 0 0]) ?_ 0 _ rfl; (with_reducible repeat (first | refine blk_drewN ?_ _ | refine blk_drew ?_ | refine blk_alloc ?_ _)); exact BK473.out⟩
            have n8_ : Aside0 (Below w.heap.size w (((w50.setCell ⟨gb473, 0, none⟩ (.int .i64 t468)).setCell ⟨gb473, 1, none⟩ (.int .i64 t469)).setCell ⟨gb473, 2, none⟩ (.slice Ao54 t470.length co54))) := ⟨hb3_ HB.out GE448.out GE449.out GE473.out⟩
            (try clear HO454)
            (try clear HO459)
            (try clear HO464)
            (try clear HO467)
            (try clear HO472)
            (try clear BK448)
            (try clear BK449)
            (try clear BK473)
            (try clear HB)
            generalize (((w50.setCell ⟨gb473, 0, none⟩ (.int .i64 t468)).setCell ⟨gb473, 1, none⟩ (.int .i64 t469)).setCell ⟨gb473, 2, none⟩ (.slice Ao54 t470.length co54)) = w55 at n0_ n1_ n2_ n3_ n4_ n5_ n6_ n7_ n8_ ⊢
            have HO454 := n0_
            have HO459 := n1_
            have HO464 := n2_
            have HO467 := n3_
            have HO472 := n4_
            have BK448 := n5_
            have BK449 := n6_
            have BK473 := n7_
            have HB := n8_
            clear n0_ n1_ n2_ n3_ n4_ n5_ n6_ n7_ n8_
            have n0_ := Aside0.mk (Kd.R_drew HO454.out)
            have n1_ := Aside0.mk (Kd.R_drew HO459.out)
            have n2_ := Aside0.mk (Kd.R_drew HO464.out)
            have n3_ := Aside0.mk (Kd.R_drew HO467.out)
            have n4_ := Aside0.mk (Kd.R_drew HO472.out)
            have n5_ := Aside0.mk (blk_drew BK448.out)
            have n6_ := Aside0.mk (blk_drew BK449.out)
            have n7_ := Aside0.mk (blk_drew BK473.out)
            have n8_ := Aside0.mk (below_drew1 HB.out)
            clear HO454
            clear HO459
            clear HO464
            clear HO467
            clear HO472
            clear BK448
            clear BK449
            clear BK473
            clear HB
            have HO454 := n0_
            have HO459 := n1_
            have HO464 := n2_
            have HO467 := n3_
            have HO472 := n4_
            have BK448 := n5_
            have BK449 := n6_
            have BK473 := n7_
            have HB := n8_
            clear n0_ n1_ n2_ n3_ n4_ n5_ n6_ n7_ n8_
            refine start_ (n := 7) (S := fun w' => w'.cell? ⟨gb473, 0, none⟩ = some (.int .i64 t468) ∧ w'.cell? ⟨gb473, 1, none⟩ = some (.int .i64 t469) ∧ w'.cell? ⟨gb473, 2, none⟩ = some (.slice Ao54 t470.length co54) ∧ w'.cell? ⟨gb449, 0, none⟩ = some (.int .i64 a2_0) ∧ w'.cell? ⟨gb449, 1, none⟩ = some (.int .i64 a2_1)) (ds := []) #[false, false, false, false, false, false, false] (by kernel_rfl) rfl rfl ⟨(blk_cell BK473.out 0).trans rfl, (blk_cell BK473.out 1).trans rfl, (blk_cell BK473.out 2).trans rfl, (blk_cell BK449.out 0).trans rfl, (blk_cell BK449.out 1).trans rfl⟩ (fun hHeld => ?_)
            generalize w55.drew = w56 at HO454 HO459 HO464 HO467 HO472 BK448 BK449 BK473 HB hHeld ⊢
            refine pure_ (i := 0) (N := some 40) (v := ?_) (a' := ?_) #[true, false, false, false, false, false, false] rfl rfl (by kernel_rfl) (fun _ _ _ h => h) (Or.inl ⟨by rfl, ?_⟩) ?_ ?_
            rotate_left
            · intro w'
              go_simp
              with_reducible rfl
            rotate_left
            · simp only [Act.put, List.setIfInBounds_toArray, List.set_cons_zero, List.set_cons_succ, i64_w, i32_w]
              rfl
            refine pure_ (i := 4) (N := some 44) (v := ?_) (a' := ?_) #[true, false, false, false, true, false, false] rfl rfl (by kernel_rfl) (fun _ _ _ h => h) (Or.inl ⟨by rfl, ?_⟩) ?_ ?_
            rotate_left
            · intro w'
              go_simp
              with_reducible rfl
            rotate_left
            · simp only [Act.put, List.setIfInBounds_toArray, List.set_cons_zero, List.set_cons_succ, i64_w, i32_w]
              rfl
            refine take_ (i := 1) (N := some 41) (v := ?_) (a' := ?_) #[true, true, false, false, true, false, false] rfl rfl (by kernel_rfl) (fun _ _ _ h => h) (Or.inl ⟨by rfl, ?_⟩) hHeld ?_ ?_
            rotate_left
            · rintro w' ⟨s0, s1, s2, s3, s4⟩
              go_simp
              with_reducible rfl
            rotate_left
            · simp only [Act.put, List.setIfInBounds_toArray, List.set_cons_zero, List.set_cons_succ, i64_w, i32_w]
              rfl
            refine take_ (i := 2) (N := some 42) (v := ?_) (a' := ?_) #[true, true, true, false, true, false, false] rfl rfl (by kernel_rfl) (fun _ _ _ h => h) (Or.inl ⟨by rfl, ?_⟩) hHeld ?_ ?_
            rotate_left
            · rintro w' ⟨s0, s1, s2, s3, s4⟩
              go_simp
              with_reducible rfl
            rotate_left
            · simp only [Act.put, List.setIfInBounds_toArray, List.set_cons_zero, List.set_cons_succ, i64_w, i32_w]
              rfl
            refine one_ (i := 3) (N := some 43) #[true, true, true, true, true, false, false] rfl rfl (by kernel_rfl) (by decide) (fun K hK => ?_)
            refine goes_ Try.func21 (by kernel_rfl) rfl #[.agg #[.int .i64 a2_0, .int .i64 a2_1]] (by rfl) rfl rfl arr_ ?_
            with_reducible refine (laws_toDrift.calls a2_0 a2_1 t474 t475 _ A22.out).mono ?_
            rintro e w57 ⟨rfl, hb⟩
            refine ⟨_, rfl, ?_⟩
            have n0_ := Aside0.mk (Kd.R_below (by (with_reducible repeat (first | apply Kd.R_alloc | apply Kd.R_drewN | apply Kd.R_drew)); exact HO454.out) hb)
            have n1_ := Aside0.mk (Kd.R_below (by (with_reducible repeat (first | apply Kd.R_alloc | apply Kd.R_drewN | apply Kd.R_drew)); exact HO459.out) hb)
            have n2_ := Aside0.mk (Kd.R_below (by (with_reducible repeat (first | apply Kd.R_alloc | apply Kd.R_drewN | apply Kd.R_drew)); exact HO464.out) hb)
            have n3_ := Aside0.mk (Kd.R_below (by (with_reducible repeat (first | apply Kd.R_alloc | apply Kd.R_drewN | apply Kd.R_drew)); exact HO467.out) hb)
            have n4_ := Aside0.mk (Kd.R_below (by (with_reducible repeat (first | apply Kd.R_alloc | apply Kd.R_drewN | apply Kd.R_drew)); exact HO472.out) hb)
            have n5_ := Aside0.mk (bb_ BK448.out hb)
            have n6_ := Aside0.mk (bb_ BK449.out hb)
            have n7_ := Aside0.mk (bb_ BK473.out hb)
            have n8_ := Aside0.mk (below_step (hb3_ HB.out GE448.out GE449.out GE473.out) hb)
            clear HO454
            clear HO459
            clear HO464
            clear HO467
            clear HO472
            clear BK448
            clear BK449
            clear BK473
            clear HB
            have HO454 := n0_
            have HO459 := n1_
            have HO464 := n2_
            have HO467 := n3_
            have HO472 := n4_
            have BK448 := n5_
            have BK449 := n6_
            have BK473 := n7_
            have HB := n8_
            clear n0_ n1_ n2_ n3_ n4_ n5_ n6_ n7_ n8_
            (try clear hb)
            (try clear hb2)
            (try clear hk)
            (try clear hi)
            obtain ⟨Ao58, co58, eo58⟩ := Kd.R_slice HO467.out
            (first | subst eo58 | (injection eo58 with f1_ f2_ f3_; have f4_ := f1_.symm; have f5_ := f3_.symm; clear f1_ f2_ f3_; subst f4_; subst f5_))
            refine hK.out _ _ ⟨(blk_cell BK473.out 0).trans rfl, (blk_cell BK473.out 1).trans rfl, (blk_cell BK473.out 2).trans rfl, (blk_cell BK449.out 0).trans rfl, (blk_cell BK449.out 1).trans rfl⟩ (fun hHeld => ?_)
            clear hK K
            refine norm_ (a' := ?_) ?_ ?_
            rotate_left
            · show Act.put _ (some 43) _ = _
              simp only [Act.put, List.setIfInBounds_toArray, List.set_cons_zero, List.set_cons_succ, i64_w, i32_w]
              rfl
            refine one_ (i := 5) (N := some 45) #[true, true, true, true, true, true, false] rfl rfl (by kernel_rfl) (by decide) (fun K hK => ?_)
            refine goes_ Try.func26 (by kernel_rfl) rfl #[.slice Ao58 t465.length co58, .agg #[.int .i64 t468, .int .i64 t469, .slice Ao54 t470.length co54], .agg #[.int .i64 t474, .int .i64 t475], .int .i64 a3] (by rfl) rfl rfl arr_ ?_
            with_reducible refine (impl_HeardLost.calls k _ _ t465 t468 t469 _ _ t470 t474 t475 a3 t476 _ ?side1 ?side2 ?side3 ?side4 A23.out).mono ?_
            (case side1 => repeat (first | exact (Kd.R_reads' HO467.out).2.2 | (with_reducible refine Kd.C_alloc ?_ _) | (with_reducible refine Kd.C_drewN ?_ _) | (with_reducible refine Kd.C_drew ?_)))
            (case side2 => exact (Kd.R_reads' HO467.out).2.1)
            (case side3 => repeat (first | exact (Kd.R_reads' HO472.out).2.2 | (with_reducible refine Kd.C_alloc ?_ _) | (with_reducible refine Kd.C_drewN ?_ _) | (with_reducible refine Kd.C_drew ?_)))
            (case side4 => exact (Kd.R_reads' HO472.out).2.1)
            rintro e w59 ⟨v477, rfl, ho0, hb⟩
            refine ⟨_, rfl, ?_⟩
            have n0_ := Aside0.mk (Kd.R_below (by (with_reducible repeat (first | apply Kd.R_alloc | apply Kd.R_drewN | apply Kd.R_drew)); exact HO454.out) hb)
            have n1_ := Aside0.mk (Kd.R_below (by (with_reducible repeat (first | apply Kd.R_alloc | apply Kd.R_drewN | apply Kd.R_drew)); exact HO459.out) hb)
            have n2_ := Aside0.mk (Kd.R_elder' (by (with_reducible repeat (first | apply Kd.R_alloc | apply Kd.R_drewN | apply Kd.R_drew)); exact HO464.out) (Kd.R_base ho0) hb)
            have n3_ := Aside0.mk (Kd.R_below (by (with_reducible repeat (first | apply Kd.R_alloc | apply Kd.R_drewN | apply Kd.R_drew)); exact HO467.out) hb)
            have n4_ := Aside0.mk (Kd.R_below (by (with_reducible repeat (first | apply Kd.R_alloc | apply Kd.R_drewN | apply Kd.R_drew)); exact HO472.out) hb)
            have n5_ := Aside0.mk (Kd.R_lower (Kd.R_new' ho0 (Kd.R_lt (by (with_reducible repeat (first | apply Kd.R_alloc | apply Kd.R_drewN | apply Kd.R_drew)); exact HO464.out))) (below_size (hb3_ HB.out GE448.out GE449.out GE473.out)))
            have n6_ := Aside0.mk (bb_ BK448.out hb)
            have n7_ := Aside0.mk (bb_ BK449.out hb)
            have n8_ := Aside0.mk (bb_ BK473.out hb)
            have n9_ := Aside0.mk (below_step (hb3_ HB.out GE448.out GE449.out GE473.out) hb)
            clear HO454
            clear HO459
            clear HO464
            clear HO467
            clear HO472
            clear BK448
            clear BK449
            clear BK473
            clear HB
            have HO454 := n0_
            have HO459 := n1_
            have HO464 := n2_
            have HO467 := n3_
            have HO472 := n4_
            have HO478 := n5_
            have BK448 := n6_
            have BK449 := n7_
            have BK473 := n8_
            have HB := n9_
            clear n0_ n1_ n2_ n3_ n4_ n5_ n6_ n7_ n8_ n9_
            (try clear hb)
            (try clear hb2)
            (try clear hk)
            (try clear hi)
            (try clear ho0)
            refine hK.out _ _ ⟨(blk_cell BK473.out 0).trans rfl, (blk_cell BK473.out 1).trans rfl, (blk_cell BK473.out 2).trans rfl, (blk_cell BK449.out 0).trans rfl, (blk_cell BK449.out 1).trans rfl⟩ (fun hHeld => ?_)
            clear hK K
            refine norm_ (a' := ?_) ?_ ?_
            rotate_left
            · show Act.put _ (some 45) _ = _
              simp only [Act.put, List.setIfInBounds_toArray, List.set_cons_zero, List.set_cons_succ, i64_w, i32_w]
              rfl
            refine pure_ (i := 6) (N := some 13) (v := ?_) (a' := ?_) #[true, true, true, true, true, true, true] rfl rfl (by kernel_rfl) (fun _ _ _ h => h) (Or.inl ⟨by rfl, ?_⟩) ?_ ?_
            rotate_left
            · intro w'
              go_simp
              with_reducible rfl
            rotate_left
            · simp only [Act.put, List.setIfInBounds_toArray, List.set_cons_zero, List.set_cons_succ, i64_w, i32_w]
              rfl
            refine done_ (by kernel_rfl) ?_
            obtain ⟨Ao60, co60, eo60⟩ := Kd.R_slice HO478.out
            subst eo60
            obtain ⟨Ao61, co61, eo61⟩ := Kd.R_slice HO464.out
            subst eo61
            try go_wp2_with (first | ((with_reducible refine gate_callee (f := 13) rfl ?_); refine goesL_ (some 48) rfl rfl Try.func13 (by kernel_rfl) rfl #[.slice Ao60 t476.length co60, .slice Ao61 t462.length co61] rfl arr_ ?_; (with_reducible refine (laws_eqIntS.calls k _ _ t476 _ _ t462 true _ ?side1 ?side2 ?side3 ?side4 A24.out).mono ?_); (case side1 => repeat (first | exact (Kd.R_reads' HO478.out).2.2 | (with_reducible refine Kd.C_alloc ?_ _) | (with_reducible refine Kd.C_drewN ?_ _) | (with_reducible refine Kd.C_drew ?_))); (case side2 => exact (Kd.R_reads' HO478.out).2.1); (case side3 => repeat (first | exact (Kd.R_reads' HO464.out).2.2 | (with_reducible refine Kd.C_alloc ?_ _) | (with_reducible refine Kd.C_drewN ?_ _) | (with_reducible refine Kd.C_drew ?_))); (case side4 => exact (Kd.R_reads' HO464.out).2.1); rintro e w' ⟨rfl, ⟨nd, rfl⟩⟩; refine ⟨_, rfl, ?_⟩) | ((with_reducible refine gate_callee (f := 11) rfl ?_); refine goesL_ (some 52) rfl rfl Try.func11 (by kernel_rfl) rfl #[.slice A0 l0.length c0] rfl arr_ ?_; (with_reducible refine (laws_toHeardS.calls k _ _ l0 t480 _ ?side1 ?side2 A26.out).mono ?_); (case side1 => repeat (first | exact (Kd.C_below HR0.out (hb3_ HB.out GE448.out GE449.out GE473.out)) | (with_reducible refine Kd.C_alloc ?_ _) | (with_reducible refine Kd.C_drewN ?_ _) | (with_reducible refine Kd.C_drew ?_))); (case side2 => exact HC0.out); rintro e w62 ⟨v481, rfl, ho0, hb⟩; refine ⟨_, rfl, ?_⟩; have n0_ := Aside0.mk (Kd.R_elder' (by (with_reducible repeat (first | apply Kd.R_alloc | apply Kd.R_drewN | apply Kd.R_drew)); exact HO454.out) (Kd.R_base ho0) hb); have n1_ := Aside0.mk (Kd.R_below (by (with_reducible repeat (first | apply Kd.R_alloc | apply Kd.R_drewN | apply Kd.R_drew)); exact HO459.out) hb); have n2_ := Aside0.mk (Kd.R_below (by (with_reducible repeat (first | apply Kd.R_alloc | apply Kd.R_drewN | apply Kd.R_drew)); exact HO464.out) hb); have n3_ := Aside0.mk (Kd.R_elder' (by (with_reducible repeat (first | apply Kd.R_alloc | apply Kd.R_drewN | apply Kd.R_drew)); exact HO467.out) (Kd.R_base ho0) hb); have n4_ := Aside0.mk (Kd.R_below (by (with_reducible repeat (first | apply Kd.R_alloc | apply Kd.R_drewN | apply Kd.R_drew)); exact HO472.out) hb); have n5_ := Aside0.mk (Kd.R_below (by (with_reducible repeat (first | apply Kd.R_alloc | apply Kd.R_drewN | apply Kd.R_drew)); exact HO478.out) hb); have n6_ := Aside0.mk (Kd.R_lower (Kd.R_new' (Kd.R_new' ho0 (Kd.R_lt (by (with_reducible repeat (first | apply Kd.R_alloc | apply Kd.R_drewN | apply Kd.R_drew)); exact HO454.out))) (Kd.R_lt (by (with_reducible repeat (first | apply Kd.R_alloc | apply Kd.R_drewN | apply Kd.R_drew)); exact HO467.out))) (below_size (hb3_ HB.out GE448.out GE449.out GE473.out))); have n7_ := Aside0.mk (bb_ BK448.out hb); have n8_ := Aside0.mk (bb_ BK449.out hb); have n9_ := Aside0.mk (bb_ BK473.out hb); have n10_ := Aside0.mk (below_step (hb3_ HB.out GE448.out GE449.out GE473.out) hb); clear HO454; clear HO459; clear HO464; clear HO467; clear HO472; clear HO478; clear BK448; clear BK449; clear BK473; clear HB; have HO454 := n0_; have HO459 := n1_; have HO464 := n2_; have HO467 := n3_; have HO472 := n4_; have HO478 := n5_; have HO482 := n6_; have BK448 := n7_; have BK449 := n8_; have BK473 := n9_; have HB := n10_; clear n0_ n1_ n2_ n3_ n4_ n5_ n6_ n7_ n8_ n9_ n10_; (try clear hb); (try clear hb2); (try clear hk); (try clear hi); (try clear ho0); obtain ⟨Ao63, co63, eo63⟩ := Kd.R_slice HO482.out; subst eo63) | ((with_reducible refine gate_callee (f := 14) rfl ?_); refine goesL_ (some 53) rfl rfl Try.func14 (by kernel_rfl) rfl #[.slice Ao58 t465.length co58, .slice Ao63 t480.length co63] rfl arr_ ?_; (with_reducible refine (laws_eqHeardS.calls k _ _ t465 _ _ t480 true _ ?side1 ?side2 ?side3 ?side4 A27.out).mono ?_); (case side1 => repeat (first | exact (Kd.R_reads' HO467.out).2.2 | (with_reducible refine Kd.C_alloc ?_ _) | (with_reducible refine Kd.C_drewN ?_ _) | (with_reducible refine Kd.C_drew ?_))); (case side2 => exact (Kd.R_reads' HO467.out).2.1); (case side3 => repeat (first | exact (Kd.R_reads' HO482.out).2.2 | (with_reducible refine Kd.C_alloc ?_ _) | (with_reducible refine Kd.C_drewN ?_ _) | (with_reducible refine Kd.C_drew ?_))); (case side4 => exact (Kd.R_reads' HO482.out).2.1); rintro e w64 ⟨rfl, hb⟩; refine ⟨_, rfl, ?_⟩; have n0_ := Aside0.mk (Kd.R_below (by (with_reducible repeat (first | apply Kd.R_alloc | apply Kd.R_drewN | apply Kd.R_drew)); exact HO454.out) hb); have n1_ := Aside0.mk (Kd.R_below (by (with_reducible repeat (first | apply Kd.R_alloc | apply Kd.R_drewN | apply Kd.R_drew)); exact HO459.out) hb); have n2_ := Aside0.mk (Kd.R_below (by (with_reducible repeat (first | apply Kd.R_alloc | apply Kd.R_drewN | apply Kd.R_drew)); exact HO464.out) hb); have n3_ := Aside0.mk (Kd.R_below (by (with_reducible repeat (first | apply Kd.R_alloc | apply Kd.R_drewN | apply Kd.R_drew)); exact HO467.out) hb); have n4_ := Aside0.mk (Kd.R_below (by (with_reducible repeat (first | apply Kd.R_alloc | apply Kd.R_drewN | apply Kd.R_drew)); exact HO472.out) hb); have n5_ := Aside0.mk (Kd.R_below (by (with_reducible repeat (first | apply Kd.R_alloc | apply Kd.R_drewN | apply Kd.R_drew)); exact HO478.out) hb); have n6_ := Aside0.mk (Kd.R_below (by (with_reducible repeat (first | apply Kd.R_alloc | apply Kd.R_drewN | apply Kd.R_drew)); exact HO482.out) hb); have n7_ := Aside0.mk (bb_ BK448.out hb); have n8_ := Aside0.mk (bb_ BK449.out hb); have n9_ := Aside0.mk (bb_ BK473.out hb); have n10_ := Aside0.mk (below_step (hb3_ HB.out GE448.out GE449.out GE473.out) hb); clear HO454; clear HO459; clear HO464; clear HO467; clear HO472; clear HO478; clear HO482; clear BK448; clear BK449; clear BK473; clear HB; have HO454 := n0_; have HO459 := n1_; have HO464 := n2_; have HO467 := n3_; have HO472 := n4_; have HO478 := n5_; have HO482 := n6_; have BK448 := n7_; have BK449 := n8_; have BK473 := n9_; have HB := n10_; clear n0_ n1_ n2_ n3_ n4_ n5_ n6_ n7_ n8_ n9_ n10_; (try clear hb); (try clear hb2); (try clear hk); (try clear hi)))
            have n0_ := Aside0.mk (Kd.R_drew HO454.out)
            have n1_ := Aside0.mk (Kd.R_drew HO459.out)
            have n2_ := Aside0.mk (Kd.R_drew HO464.out)
            have n3_ := Aside0.mk (Kd.R_drew HO467.out)
            have n4_ := Aside0.mk (Kd.R_drew HO472.out)
            have n5_ := Aside0.mk (Kd.R_drew HO478.out)
            have n6_ := Aside0.mk (Kd.R_drew HO482.out)
            have n7_ := Aside0.mk (blk_drew BK448.out)
            have n8_ := Aside0.mk (blk_drew BK449.out)
            have n9_ := Aside0.mk (blk_drew BK473.out)
            have n10_ := Aside0.mk (below_drew1 HB.out)
            clear HO454
            clear HO459
            clear HO464
            clear HO467
            clear HO472
            clear HO478
            clear HO482
            clear BK448
            clear BK449
            clear BK473
            clear HB
            have HO454 := n0_
            have HO459 := n1_
            have HO464 := n2_
            have HO467 := n3_
            have HO472 := n4_
            have HO478 := n5_
            have HO482 := n6_
            have BK448 := n7_
            have BK449 := n8_
            have BK473 := n9_
            have HB := n10_
            clear n0_ n1_ n2_ n3_ n4_ n5_ n6_ n7_ n8_ n9_ n10_
            refine start_ (n := 5) (S := fun w' => w'.cell? ⟨gb473, 0, none⟩ = some (.int .i64 t468) ∧ w'.cell? ⟨gb473, 1, none⟩ = some (.int .i64 t469) ∧ w'.cell? ⟨gb473, 2, none⟩ = some (.slice Ao54 t470.length co54) ∧ w'.cell? ⟨gb448, 0, none⟩ = some (.int .i64 a1_0) ∧ w'.cell? ⟨gb448, 1, none⟩ = some (.int .i64 a1_1) ∧ w'.cell? ⟨gb448, 2, none⟩ = some (.slice A1_2 l1_2.length c1_2)) (ds := []) #[false, false, false, false, false] (by kernel_rfl) rfl rfl ⟨(blk_cell BK473.out 0).trans rfl, (blk_cell BK473.out 1).trans rfl, (blk_cell BK473.out 2).trans rfl, (blk_cell BK448.out 0).trans rfl, (blk_cell BK448.out 1).trans rfl, (blk_cell BK448.out 2).trans rfl⟩ (fun hHeld => ?_)
            generalize w64.drew = w65 at HO454 HO459 HO464 HO467 HO472 HO478 HO482 BK448 BK449 BK473 HB hHeld ⊢
            refine take_ (i := 0) (N := some 55) (v := ?_) (a' := ?_) #[true, false, false, false, false] rfl rfl (by kernel_rfl) (fun _ _ _ h => h) (Or.inl ⟨by rfl, ?_⟩) hHeld ?_ ?_
            rotate_left
            · rintro w' ⟨s0, s1, s2, s3, s4, s5⟩
              go_simp
              with_reducible rfl
            rotate_left
            · simp only [Act.put, List.setIfInBounds_toArray, List.set_cons_zero, List.set_cons_succ, i64_w, i32_w]
              rfl
            refine take_ (i := 1) (N := some 56) (v := ?_) (a' := ?_) #[true, true, false, false, false] rfl rfl (by kernel_rfl) (fun _ _ _ h => h) (Or.inl ⟨by rfl, ?_⟩) hHeld ?_ ?_
            rotate_left
            · rintro w' ⟨s0, s1, s2, s3, s4, s5⟩
              go_simp
              with_reducible rfl
            rotate_left
            · simp only [Act.put, List.setIfInBounds_toArray, List.set_cons_zero, List.set_cons_succ, i64_w, i32_w]
              rfl
            refine one_ (i := 2) (N := some 57) #[true, true, true, false, false] rfl rfl (by kernel_rfl) (by decide) (fun K hK => ?_)
            refine goes_ Try.func20 (by kernel_rfl) rfl #[.agg #[.int .i64 a1_0, .int .i64 a1_1, .slice A1_2 l1_2.length c1_2]] (by rfl) rfl rfl arr_ ?_
            with_reducible refine (laws_toPlan.calls k a1_0 a1_1 _ _ l1_2 t484 t485 t486 _ ?side1 ?side2 A29.out).mono ?_
            (case side1 => exact kc_ (Kd.C_below HR1_2.out HB.out))
            (case side2 => exact HC1_2.out)
            rintro e w66 ⟨v487, rfl, ho0, hb⟩
            refine ⟨_, rfl, ?_⟩
            have n0_ := Aside0.mk (Kd.R_below (by (with_reducible repeat (first | apply Kd.R_alloc | apply Kd.R_drewN | apply Kd.R_drew)); exact HO454.out) hb)
            have n1_ := Aside0.mk (Kd.R_elder' (by (with_reducible repeat (first | apply Kd.R_alloc | apply Kd.R_drewN | apply Kd.R_drew)); exact HO459.out) (Kd.R_base ho0) hb)
            have n2_ := Aside0.mk (Kd.R_below (by (with_reducible repeat (first | apply Kd.R_alloc | apply Kd.R_drewN | apply Kd.R_drew)); exact HO464.out) hb)
            have n3_ := Aside0.mk (Kd.R_below (by (with_reducible repeat (first | apply Kd.R_alloc | apply Kd.R_drewN | apply Kd.R_drew)); exact HO467.out) hb)
            have n4_ := Aside0.mk (Kd.R_elder' (by (with_reducible repeat (first | apply Kd.R_alloc | apply Kd.R_drewN | apply Kd.R_drew)); exact HO472.out) (Kd.R_base ho0) hb)
            have n5_ := Aside0.mk (Kd.R_below (by (with_reducible repeat (first | apply Kd.R_alloc | apply Kd.R_drewN | apply Kd.R_drew)); exact HO478.out) hb)
            have n6_ := Aside0.mk (Kd.R_below (by (with_reducible repeat (first | apply Kd.R_alloc | apply Kd.R_drewN | apply Kd.R_drew)); exact HO482.out) hb)
            have n7_ := Aside0.mk (Kd.R_lower (Kd.R_new' (Kd.R_new' ho0 (Kd.R_lt (by (with_reducible repeat (first | apply Kd.R_alloc | apply Kd.R_drewN | apply Kd.R_drew)); exact HO459.out))) (Kd.R_lt (by (with_reducible repeat (first | apply Kd.R_alloc | apply Kd.R_drewN | apply Kd.R_drew)); exact HO472.out))) (below_size (hb3_ HB.out GE448.out GE449.out GE473.out)))
            have n8_ := Aside0.mk (bb_ BK448.out hb)
            have n9_ := Aside0.mk (bb_ BK449.out hb)
            have n10_ := Aside0.mk (bb_ BK473.out hb)
            have n11_ := Aside0.mk (below_step (hb3_ HB.out GE448.out GE449.out GE473.out) hb)
            clear HO454
            clear HO459
            clear HO464
            clear HO467
            clear HO472
            clear HO478
            clear HO482
            clear BK448
            clear BK449
            clear BK473
            clear HB
            have HO454 := n0_
            have HO459 := n1_
            have HO464 := n2_
            have HO467 := n3_
            have HO472 := n4_
            have HO478 := n5_
            have HO482 := n6_
            have HO488 := n7_
            have BK448 := n8_
            have BK449 := n9_
            have BK473 := n10_
            have HB := n11_
            clear n0_ n1_ n2_ n3_ n4_ n5_ n6_ n7_ n8_ n9_ n10_ n11_
            (try clear hb)
            (try clear hb2)
            (try clear hk)
            (try clear hi)
            (try clear ho0)
            obtain ⟨Ao67, co67, eo67⟩ := Kd.R_slice HO488.out
            (first | subst eo67 | (injection eo67 with f1_ f2_ f3_; have f4_ := f1_.symm; have f5_ := f3_.symm; clear f1_ f2_ f3_; subst f4_; subst f5_))
            refine hK.out _ _ ⟨(blk_cell BK473.out 0).trans rfl, (blk_cell BK473.out 1).trans rfl, (blk_cell BK473.out 2).trans rfl, (blk_cell BK448.out 0).trans rfl, (blk_cell BK448.out 1).trans rfl, (blk_cell BK448.out 2).trans rfl⟩ (fun hHeld => ?_)
            clear hK K
            refine norm_ (a' := ?_) ?_ ?_
            rotate_left
            · show Act.put _ (some 57) _ = _
              simp only [Act.put, List.setIfInBounds_toArray, List.set_cons_zero, List.set_cons_succ, i64_w, i32_w]
              rfl
            refine one_ (i := 3) (N := some 58) #[true, true, true, true, false] rfl rfl (by kernel_rfl) (by decide) (fun K hK => ?_)
            refine goes_ Try.func23 (by kernel_rfl) rfl #[.agg #[.int .i64 t468, .int .i64 t469, .slice Ao54 t470.length co54], .agg #[.int .i64 t484, .int .i64 t485, .slice Ao67 t486.length co67]] (by rfl) rfl rfl arr_ ?_
            with_reducible refine (laws_eqPlan.calls k t468 t469 _ _ t470 t484 t485 _ _ t486 true _ ?side1 ?side2 ?side3 ?side4 A30.out).mono ?_
            (case side1 => repeat (first | exact (Kd.R_reads' HO472.out).2.2 | (with_reducible refine Kd.C_alloc ?_ _) | (with_reducible refine Kd.C_drewN ?_ _) | (with_reducible refine Kd.C_drew ?_)))
            (case side2 => exact (Kd.R_reads' HO472.out).2.1)
            (case side3 => repeat (first | exact (Kd.R_reads' HO488.out).2.2 | (with_reducible refine Kd.C_alloc ?_ _) | (with_reducible refine Kd.C_drewN ?_ _) | (with_reducible refine Kd.C_drew ?_)))
            (case side4 => exact (Kd.R_reads' HO488.out).2.1)
            rintro e w68 ⟨rfl, hb⟩
            refine ⟨_, rfl, ?_⟩
            have n0_ := Aside0.mk (Kd.R_below (by (with_reducible repeat (first | apply Kd.R_alloc | apply Kd.R_drewN | apply Kd.R_drew)); exact HO454.out) hb)
            have n1_ := Aside0.mk (Kd.R_below (by (with_reducible repeat (first | apply Kd.R_alloc | apply Kd.R_drewN | apply Kd.R_drew)); exact HO459.out) hb)
            have n2_ := Aside0.mk (Kd.R_below (by (with_reducible repeat (first | apply Kd.R_alloc | apply Kd.R_drewN | apply Kd.R_drew)); exact HO464.out) hb)
            have n3_ := Aside0.mk (Kd.R_below (by (with_reducible repeat (first | apply Kd.R_alloc | apply Kd.R_drewN | apply Kd.R_drew)); exact HO467.out) hb)
            have n4_ := Aside0.mk (Kd.R_below (by (with_reducible repeat (first | apply Kd.R_alloc | apply Kd.R_drewN | apply Kd.R_drew)); exact HO472.out) hb)
            have n5_ := Aside0.mk (Kd.R_below (by (with_reducible repeat (first | apply Kd.R_alloc | apply Kd.R_drewN | apply Kd.R_drew)); exact HO478.out) hb)
            have n6_ := Aside0.mk (Kd.R_below (by (with_reducible repeat (first | apply Kd.R_alloc | apply Kd.R_drewN | apply Kd.R_drew)); exact HO482.out) hb)
            have n7_ := Aside0.mk (Kd.R_below (by (with_reducible repeat (first | apply Kd.R_alloc | apply Kd.R_drewN | apply Kd.R_drew)); exact HO488.out) hb)
            have n8_ := Aside0.mk (bb_ BK448.out hb)
            have n9_ := Aside0.mk (bb_ BK449.out hb)
            have n10_ := Aside0.mk (bb_ BK473.out hb)
            have n11_ := Aside0.mk (below_step (hb3_ HB.out GE448.out GE449.out GE473.out) hb)
            clear HO454
            clear HO459
            clear HO464
            clear HO467
            clear HO472
            clear HO478
            clear HO482
            clear HO488
            clear BK448
            clear BK449
            clear BK473
            clear HB
            have HO454 := n0_
            have HO459 := n1_
            have HO464 := n2_
            have HO467 := n3_
            have HO472 := n4_
            have HO478 := n5_
            have HO482 := n6_
            have HO488 := n7_
            have BK448 := n8_
            have BK449 := n9_
            have BK473 := n10_
            have HB := n11_
            clear n0_ n1_ n2_ n3_ n4_ n5_ n6_ n7_ n8_ n9_ n10_ n11_
            (try clear hb)
            (try clear hb2)
            (try clear hk)
            (try clear hi)
            refine hK.out _ _ ⟨(blk_cell BK473.out 0).trans rfl, (blk_cell BK473.out 1).trans rfl, (blk_cell BK473.out 2).trans rfl, (blk_cell BK448.out 0).trans rfl, (blk_cell BK448.out 1).trans rfl, (blk_cell BK448.out 2).trans rfl⟩ (fun hHeld => ?_)
            clear hK K
            refine norm_ (a' := ?_) ?_ ?_
            rotate_left
            · show Act.put _ (some 58) _ = _
              simp only [Act.put, List.setIfInBounds_toArray, List.set_cons_zero, List.set_cons_succ, i64_w, i32_w]
              rfl
            refine pure_ (i := 4) (N := some 59) (v := ?_) (a' := ?_) #[true, true, true, true, true] rfl rfl (by kernel_rfl) (fun _ _ _ h => h) (Or.inl ⟨by rfl, ?_⟩) ?_ ?_
            rotate_left
            · intro w'
              go_simp
              with_reducible rfl
            rotate_left
            · simp only [Act.put, List.setIfInBounds_toArray, List.set_cons_zero, List.set_cons_succ, i64_w, i32_w]
              rfl
            refine done_ (by kernel_rfl) ?_
            go_upto_region 21 with (first | ((with_reducible refine gate_callee (f := 15) rfl ?_); refine goesL_ (some 62) rfl rfl Try.func15 (by kernel_rfl) rfl #[.slice Ao58 t465.length co58, .int .i64 1] rfl arr_ ?_; (with_reducible refine (laws_markHeardS.calls k (fun k_ => some k_ = (.slice Ao58 t465.length co58 : Value).ownBlock) (.slice Ao58 t465.length co58) t465 1 t490 t491 w _ ?side1 ?side2 A32.out).mono ?_); (case side1 => repeat (first | (with_reducible first | exact HB.out | apply below_alloc | apply pw_below_drewN | apply below_drew1 | refine below_set ?_ GE448.out | refine below_set ?_ GE449.out | refine below_set ?_ GE473.out) | exact HB.out)); (case side2 => exact Kd.R_tight rfl HO467.out); rintro e w69 ⟨rfl, hy0, hb, hkp⟩; refine ⟨_, rfl, ?_⟩; have n0_ := Aside0.mk (blk_kept (bk_ BK448.out) hkp (fun hs_ => (fun e_ => (Kd.R_ne HO467.out BK448.out (by decide)) e_) hs_)); have n1_ := Aside0.mk (blk_kept (bk_ BK449.out) hkp (fun hs_ => (fun e_ => (Kd.R_ne HO467.out BK449.out (by decide)) e_) hs_)); have n2_ := Aside0.mk (Kd.R_mono (ok' := fun k_ => some k_ ≠ (.slice Ao58 t465.length co58 : Value).ownBlock ∧ some k_ ≠ (.slice Ao63 t480.length co63 : Value).ownBlock) (Kd.R_keptB (HO454.out) hkp (fun k_ hk_ hs_ => (hk_.1) hs_)) (fun k_ hk_ => ⟨hk_.1.1, hk_.1.2⟩)); have n3_ := Aside0.mk (Kd.R_mono (ok' := fun k_ => some k_ ≠ (.slice Ao54 t470.length co54 : Value).ownBlock ∧ some k_ ≠ (.slice Ao67 t486.length co67 : Value).ownBlock) (Kd.R_keptB ((Kd.R_apart' HO459.out (Kd.R_typed HO467.out) (by decide))) hkp (fun k_ hk_ hs_ => (hk_.2) hs_)) (fun k_ hk_ => ⟨hk_.1.1.1, hk_.1.1.2⟩)); have n4_ := Aside0.mk (Kd.R_mono (ok' := fun k_ => some k_ ≠ (.slice Ao60 t476.length co60 : Value).ownBlock) (Kd.R_keptB ((Kd.R_apart' HO464.out (Kd.R_typed HO467.out) (by decide))) hkp (fun k_ hk_ hs_ => (hk_.2) hs_)) (fun k_ hk_ => hk_.1.1.2)); have n5_ := Aside0.mk (Kd.R_reok rfl hy0 (fun k_ e_ => HO467.out.1 k_ e_)); have n6_ := Aside0.mk (Kd.R_mono (ok' := fun k_ => some k_ ≠ (.slice Ao45 t457.length co45 : Value).ownBlock ∧ some k_ ≠ (.slice Ao67 t486.length co67 : Value).ownBlock) (Kd.R_keptB ((Kd.R_apart' HO472.out (Kd.R_typed HO467.out) (by decide))) hkp (fun k_ hk_ hs_ => (hk_.2) hs_)) (fun k_ hk_ => ⟨hk_.1.1.1, hk_.1.1.2⟩)); have n7_ := Aside0.mk (blk_kept (bk_ BK473.out) hkp (fun hs_ => (fun e_ => (Kd.R_ne HO467.out BK473.out (by decide)) e_) hs_)); have n8_ := Aside0.mk (Kd.R_mono (ok' := fun k_ => some k_ ≠ (.slice Ao61 t462.length co61 : Value).ownBlock) (Kd.R_keptB ((Kd.R_apart' HO478.out (Kd.R_typed HO467.out) (by decide))) hkp (fun k_ hk_ hs_ => (hk_.2) hs_)) (fun k_ hk_ => hk_.1.1.2)); have n9_ := Aside0.mk (Kd.R_mono (ok' := fun k_ => some k_ ≠ (.slice Ao44 t452.length co44 : Value).ownBlock ∧ some k_ ≠ (.slice Ao58 t465.length co58 : Value).ownBlock) (Kd.R_keptB (HO482.out) hkp (fun k_ hk_ hs_ => (hk_.2) hs_)) (fun k_ hk_ => ⟨hk_.1.1.2, hk_.1.2⟩)); have n10_ := Aside0.mk (Kd.R_mono (ok' := fun k_ => some k_ ≠ (.slice Ao45 t457.length co45 : Value).ownBlock ∧ some k_ ≠ (.slice Ao54 t470.length co54 : Value).ownBlock) (Kd.R_keptB ((Kd.R_apart' HO488.out (Kd.R_typed HO467.out) (by decide))) hkp (fun k_ hk_ hs_ => (hk_.2) hs_)) (fun k_ hk_ => ⟨hk_.1.1.1.2, hk_.1.1.2⟩)); have n11_ := Aside0.mk (hb); clear BK448; clear BK449; clear HO454; clear HO459; clear HO464; clear HO467; clear HO472; clear BK473; clear HO478; clear HO482; clear HO488; clear HB; have BK448 := n0_; have BK449 := n1_; have HO454 := n2_; have HO459 := n3_; have HO464 := n4_; have HO467 := n5_; have HO472 := n6_; have BK473 := n7_; have HO478 := n8_; have HO482 := n9_; have HO488 := n10_; have HB := n11_; clear n0_ n1_ n2_ n3_ n4_ n5_ n6_ n7_ n8_ n9_ n10_ n11_; (try clear hb); (try clear hkp); (try clear hy0); have hcz70_0 := bc_ BK473.out 0 (.int .i64 t468) rfl; have hcz70_1 := bc_ BK473.out 1 (.int .i64 t469) rfl; have hcz70_2 := bc_ BK473.out 2 (.slice Ao54 t470.length co54) rfl; have hfz70_0 := blk_frozen BK473.out 0; have hfz70_1 := blk_frozen BK473.out 1; have hfz70_2 := blk_frozen BK473.out 2) | ((with_reducible refine gate_callee (f := 24) rfl ?_); refine goesL_ (some 65) rfl rfl Try.func24 (by kernel_rfl) rfl #[.agg #[.int .i64 t468, .int .i64 t469, .slice Ao54 t470.length co54], .int .i64 t490] rfl arr_ ?_; (with_reducible refine (laws_markPlan.calls k t468 t469 (fun k_ => some k_ = (.slice Ao54 t470.length co54 : Value).ownBlock) (.slice Ao54 t470.length co54) t470 t490 t492 t493 w _ ?side1 ?side2 A33.out).mono ?_); (case side1 => repeat (first | (with_reducible first | exact HB.out | apply below_alloc | apply pw_below_drewN | apply below_drew1 | refine below_set ?_ GE448.out | refine below_set ?_ GE449.out | refine below_set ?_ GE473.out) | exact HB.out)); (case side2 => exact Kd.R_tight rfl HO472.out); rintro e w71 ⟨rfl, hy0, hb, hkp⟩; refine ⟨_, rfl, ?_⟩; have n0_ := Aside0.mk (blk_kept (bk_ BK448.out) hkp (fun hs_ => (fun e_ => (Kd.R_ne HO472.out BK448.out (by decide)) e_) hs_)); have n1_ := Aside0.mk (blk_kept (bk_ BK449.out) hkp (fun hs_ => (fun e_ => (Kd.R_ne HO472.out BK449.out (by decide)) e_) hs_)); have n2_ := Aside0.mk (Kd.R_mono (ok' := fun k_ => some k_ ≠ (.slice Ao58 t465.length co58 : Value).ownBlock ∧ some k_ ≠ (.slice Ao63 t480.length co63 : Value).ownBlock) (Kd.R_keptB ((Kd.R_apart' HO454.out (Kd.R_typed HO472.out) (by decide))) hkp (fun k_ hk_ hs_ => (hk_.2) hs_)) (fun k_ hk_ => ⟨hk_.1.1.1, hk_.1.1.2⟩)); have n3_ := Aside0.mk (Kd.R_mono (ok' := fun k_ => some k_ ≠ (.slice Ao54 t470.length co54 : Value).ownBlock ∧ some k_ ≠ (.slice Ao67 t486.length co67 : Value).ownBlock) (Kd.R_keptB (HO459.out) hkp (fun k_ hk_ hs_ => (hk_.1) hs_)) (fun k_ hk_ => ⟨hk_.1.1, hk_.1.2⟩)); have n4_ := Aside0.mk (Kd.R_mono (ok' := fun k_ => some k_ ≠ (.slice Ao60 t476.length co60 : Value).ownBlock) (Kd.R_keptB ((Kd.R_apart' HO464.out (Kd.R_typed HO472.out) (by decide))) hkp (fun k_ hk_ hs_ => (hk_.2) hs_)) (fun k_ hk_ => hk_.1.1)); have n5_ := Aside0.mk (Kd.R_mono (ok' := fun k_ => some k_ ≠ (.slice Ao44 t452.length co44 : Value).ownBlock ∧ some k_ ≠ (.slice Ao63 t480.length co63 : Value).ownBlock) (Kd.R_keptB ((Kd.R_apart' HO467.out (Kd.R_typed HO472.out) (by decide))) hkp (fun k_ hk_ hs_ => (hk_.2) hs_)) (fun k_ hk_ => ⟨hk_.1.1.1, hk_.1.1.2⟩)); have n6_ := Aside0.mk (Kd.R_reok rfl hy0 (fun k_ e_ => HO472.out.1 k_ e_)); have n7_ := Aside0.mk (blk_kept (bk_ BK473.out) hkp (fun hs_ => (fun e_ => (Kd.R_ne HO472.out BK473.out (by decide)) e_) hs_)); have n8_ := Aside0.mk (Kd.R_mono (ok' := fun k_ => some k_ ≠ (.slice Ao61 t462.length co61 : Value).ownBlock) (Kd.R_keptB ((Kd.R_apart' HO478.out (Kd.R_typed HO472.out) (by decide))) hkp (fun k_ hk_ hs_ => (hk_.2) hs_)) (fun k_ hk_ => hk_.1.1)); have n9_ := Aside0.mk (Kd.R_mono (ok' := fun k_ => some k_ ≠ (.slice Ao44 t452.length co44 : Value).ownBlock ∧ some k_ ≠ (.slice Ao58 t465.length co58 : Value).ownBlock) (Kd.R_keptB ((Kd.R_apart' HO482.out (Kd.R_typed HO472.out) (by decide))) hkp (fun k_ hk_ hs_ => (hk_.2) hs_)) (fun k_ hk_ => ⟨hk_.1.1.1, hk_.1.1.2⟩)); have n10_ := Aside0.mk (Kd.R_mono (ok' := fun k_ => some k_ ≠ (.slice Ao45 t457.length co45 : Value).ownBlock ∧ some k_ ≠ (.slice Ao54 t470.length co54 : Value).ownBlock) (Kd.R_keptB (HO488.out) hkp (fun k_ hk_ hs_ => (hk_.2) hs_)) (fun k_ hk_ => ⟨hk_.1.1, hk_.1.2⟩)); have n11_ := Aside0.mk (hb); clear BK448; clear BK449; clear HO454; clear HO459; clear HO464; clear HO467; clear HO472; clear BK473; clear HO478; clear HO482; clear HO488; clear HB; have BK448 := n0_; have BK449 := n1_; have HO454 := n2_; have HO459 := n3_; have HO464 := n4_; have HO467 := n5_; have HO472 := n6_; have BK473 := n7_; have HO478 := n8_; have HO482 := n9_; have HO488 := n10_; have HB := n11_; clear n0_ n1_ n2_ n3_ n4_ n5_ n6_ n7_ n8_ n9_ n10_ n11_; (try clear hb); (try clear hkp); (try clear hy0)))
            (try simp only [Act.put, List.setIfInBounds_toArray, List.set_cons_zero, List.set_cons_succ])
            go_cut [73] (fun v73 wc => ∃ (kq : Nat) (x73_33 : Bool), v73 = .bool x73_33 ∧ Aside0 (laws_FnExactHeardLost.j0 kq l0 a3 t462 t476 x73_33 a1_0 a1_1 l1_2 a2_0 a2_1 = some r) ∧ Aside0 (kq ≤ k) ∧ Aside0 (Kd.R (Kd.int .i64) 3 wc w.heap.size (fun k_ => some k_ ≠ ((.slice Ao60 t476.length co60) : Value).ownBlock) (.slice Ao61 t462.length co61) t462) ∧ Aside0 (Kd.R (Kd.int .i64) 3 wc w.heap.size (fun k_ => some k_ ≠ ((.slice Ao61 t462.length co61) : Value).ownBlock) (.slice Ao60 t476.length co60) t476) ∧ Aside0 (Kd.R k89 89 wc w.heap.size (fun _ => True) (.slice Ao54 t470.length co54) t493) ∧ Aside0 (wc.heap[gb448]? = some (.cells #[.int .i64 a1_0, .int .i64 a1_1, (.slice A1_2 l1_2.length c1_2)] 35 (0, 0))) ∧ Aside0 (wc.heap[gb449]? = some (.cells #[.int .i64 a2_0, .int .i64 a2_1] 37 (0, 0))) ∧ Aside0 (wc.heap[gb473]? = some (.cells #[.int .i64 t468, .int .i64 t469, (.slice Ao54 t470.length co54)] 42 (0, 0))) ∧ Aside0 (Below w.heap.size w wc))
            case first =>
              have H := HC34.out
              clear HC34
              by_cases c72 : t492 < 0
              · rw [if_pos c72] at H
                have c72b0 : decide (t492 < 0) = true := decide_eq_true c72
                clear c72
                (first | rw [c72b0] | (simp only [i64_w, i32_w]; rw [c72b0]) | skip)
                have H' := Aside0.mk H
                clear H
                go_wp2
                go_meet
                case rel => exact ⟨_, (true), (by first | rfl | (simp; done) | (simp [*]; done)), H', ⟨by first | omega | exact Nat.le_refl _⟩, ⟨by (with_reducible repeat (first | apply Kd.R_alloc | apply Kd.R_drewN | apply Kd.R_drew)); exact HO464.out⟩, ⟨by (with_reducible repeat (first | apply Kd.R_alloc | apply Kd.R_drewN | apply Kd.R_drew)); exact HO478.out⟩, ⟨by (with_reducible repeat (first | apply Kd.R_alloc | apply Kd.R_drewN | apply Kd.R_drew)); exact Kd.R_mono HO472.out (fun _ hk => trivial)⟩, ⟨bk_ BK448.out⟩, ⟨bk_ BK449.out⟩, ⟨bk_ BK473.out⟩, ⟨hb3_ HB.out GE448.out GE449.out GE473.out⟩⟩
              · rw [if_neg c72] at H
                have c72b0 : decide (t492 < 0) = false := decide_eq_false c72
                clear c72
                (first | rw [c72b0] | (simp only [i64_w, i32_w]; rw [c72b0]) | skip)
                replace H := Option.bind_eq_some_iff.mp H
                obtain ⟨t494, A730, H⟩ := H
                replace H : (laws_FnExactHeardLost.j0 k l0 a3 t462 t476 (!t494) a1_0 a1_1 l1_2 a2_0 a2_1) = some r := H
                have A73 := Aside0.mk A730
                clear A730
                have H' := Aside0.mk H
                clear H
                go_wp2_with (first | (go_at_call 13; (with_reducible refine (laws_eqIntS.calls k _ _ t476 _ _ t462 t494 _ ?side1 ?side2 ?side3 ?side4 A73.out).mono ?_); (case side1 => repeat (first | exact (Kd.R_reads' HO478.out).2.2 | (with_reducible refine Kd.C_alloc ?_ _) | (with_reducible refine Kd.C_drewN ?_ _) | (with_reducible refine Kd.C_drew ?_))); (case side2 => exact (Kd.R_reads' HO478.out).2.1); (case side3 => repeat (first | exact (Kd.R_reads' HO464.out).2.2 | (with_reducible refine Kd.C_alloc ?_ _) | (with_reducible refine Kd.C_drewN ?_ _) | (with_reducible refine Kd.C_drew ?_))); (case side4 => exact (Kd.R_reads' HO464.out).2.1); rintro e w' ⟨rfl, ⟨nd, rfl⟩⟩))
                go_meet
                case rel => exact ⟨_, (!t494), (by first | rfl | (simp; done) | (simp [*]; done)), H', ⟨by first | omega | exact Nat.le_refl _⟩, ⟨by (with_reducible repeat (first | apply Kd.R_alloc | apply Kd.R_drewN | apply Kd.R_drew)); exact HO464.out⟩, ⟨by (with_reducible repeat (first | apply Kd.R_alloc | apply Kd.R_drewN | apply Kd.R_drew)); exact HO478.out⟩, ⟨by (with_reducible repeat (first | apply Kd.R_alloc | apply Kd.R_drewN | apply Kd.R_drew)); exact Kd.R_mono HO472.out (fun _ hk => trivial)⟩, ⟨bk_ BK448.out⟩, ⟨bk_ BK449.out⟩, ⟨bk_ BK473.out⟩, ⟨hb3_ HB.out GE448.out GE449.out GE473.out⟩⟩
            case rest =>
              clear HC34
              try clear c1
              try clear c2
              try clear p2
              try clear c5
              try clear c7
              try clear c11
              try clear c13
              try clear c14
              try clear c15
              try clear c20
              try clear c21
              try clear c23
              try clear c24
              try clear c25
              try clear c26
              try clear c51
              try clear c52
              try clear c72
              try clear c72b0
              try clear hcz48_0
              try clear hcz48_1
              try clear hcz48_2
              try clear hcz53_0
              try clear hcz53_1
              try clear hcz53_2
              try clear hcz70_0
              try clear hcz70_1
              try clear hcz70_2
              try clear hfz48_0
              try clear hfz48_1
              try clear hfz48_2
              try clear hfz53_0
              try clear hfz53_1
              try clear hfz53_2
              try clear hfz70_0
              try clear hfz70_1
              try clear hfz70_2
              obtain ⟨kq, x73_33, rfl, HA, HJ33, HO_10, HO_13, HO_474002, BK448, BK449, BK473, HB⟩ := hcut
              have hl474002_33 := (Kd.R_reads' HO_474002.out).1
              rw [hl474002_33] at HO_474002
              (try simp only [hl474002_33])
              (try simp only [hl474002_33] at BK448)
              (try simp only [hl474002_33] at BK449)
              (try simp only [hl474002_33] at BK473)
              (try simp only [hl474002_33] at HO_10)
              (try simp only [hl474002_33] at HO_13)
              cases kq with
              | zero => exact absurd HA.out (by simp [laws_FnExactHeardLost.j0])
              | succ kj33 =>
                have H := HA.out
                clear HA
                simp only [laws_FnExactHeardLost.j0] at H
                by_cases c74 : x73_33 = true
                · subst c74
                  have H1 : (some false) = some r := by rw [if_pos rfl] at H; exact H
                  clear H
                  have H := H1
                  clear H1
                  obtain rfl := Option.some.inj H
                  exact absurd hr_ (by decide)
                · replace c74 := Bool.eq_false_iff.mpr c74
                  subst c74
                  have H1 : ((laws_markIntS.f kj33 t476 1).bind fun bt495 => ((laws_heldIntS.f kj33 bt495.2 1).bind fun t497 => (if t497 < 0 then (some false) else (if t497 = bt495.1 then ((laws_toHeardS.f kj33 l0).bind fun t498 => ((laws_toPlan.f kj33 a1_0 a1_1 l1_2).bind fun bt501 => ((laws_toDrift.f a2_0 a2_1).bind fun bt506 => ((impl_HeardLost.f kj33 t498 bt501.1 bt501.2.1 bt501.2.2 bt506.1 bt506.2 a3).bind fun t508 => ((laws_eqIntS.f kj33 t508 t462).bind fun t511 => (if t511 = true then ((laws_heldIntS.f kj33 bt495.2 1).bind fun t512 => (if t512 < 0 then (some false) else (if t512 = bt495.1 then (some true) else (some false)))) else (some false))))))) else (some false))))) = some r := by rw [if_neg (show ¬ (false = true) by decide)] at H; exact H
                  clear H
                  have H := H1
                  clear H1
                  replace H := Option.bind_eq_some_iff.mp H
                  obtain ⟨⟨t495, t496⟩, A750, H⟩ := H
                  replace H : ((laws_heldIntS.f kj33 t496 1).bind fun t497 => (if t497 < 0 then (some false) else (if t497 = t495 then ((laws_toHeardS.f kj33 l0).bind fun t498 => ((laws_toPlan.f kj33 a1_0 a1_1 l1_2).bind fun bt501 => ((laws_toDrift.f a2_0 a2_1).bind fun bt506 => ((impl_HeardLost.f kj33 t498 bt501.1 bt501.2.1 bt501.2.2 bt506.1 bt506.2 a3).bind fun t508 => ((laws_eqIntS.f kj33 t508 t462).bind fun t511 => (if t511 = true then ((laws_heldIntS.f kj33 t496 1).bind fun t512 => (if t512 < 0 then (some false) else (if t512 = t495 then (some true) else (some false)))) else (some false))))))) else (some false)))) = some r := H
                  have A75 := Aside0.mk A750
                  clear A750
                  replace H := Option.bind_eq_some_iff.mp H
                  obtain ⟨t497, A760, H⟩ := H
                  replace H : (if t497 < 0 then (some false) else (if t497 = t495 then ((laws_toHeardS.f kj33 l0).bind fun t498 => ((laws_toPlan.f kj33 a1_0 a1_1 l1_2).bind fun bt501 => ((laws_toDrift.f a2_0 a2_1).bind fun bt506 => ((impl_HeardLost.f kj33 t498 bt501.1 bt501.2.1 bt501.2.2 bt506.1 bt506.2 a3).bind fun t508 => ((laws_eqIntS.f kj33 t508 t462).bind fun t511 => (if t511 = true then ((laws_heldIntS.f kj33 t496 1).bind fun t512 => (if t512 < 0 then (some false) else (if t512 = t495 then (some true) else (some false)))) else (some false))))))) else (some false))) = some r := H
                  have A76 := Aside0.mk A760
                  clear A760
                  by_cases c77 : t497 < 0
                  · rw [if_pos c77] at H
                    have c77b0 : decide (t497 < 0) = true := decide_eq_true c77
                    clear c77
                    obtain rfl := Option.some.inj H
                    exact absurd hr_ (by decide)
                  · rw [if_neg c77] at H
                    have c77b0 : decide (t497 < 0) = false := decide_eq_false c77
                    clear c77
                    by_cases c78 : t497 = t495
                    · rw [if_pos c78] at H
                      have c78b0 : (t497 == t495) = true := beq_iff_eq.mpr c78
                      have c78b1 : (t497 != t495) = false := bne_eq_false_iff_eq.mpr c78
                      clear c78
                      replace H := Option.bind_eq_some_iff.mp H
                      obtain ⟨t498, A790, H⟩ := H
                      replace H : ((laws_toPlan.f kj33 a1_0 a1_1 l1_2).bind fun bt501 => ((laws_toDrift.f a2_0 a2_1).bind fun bt506 => ((impl_HeardLost.f kj33 t498 bt501.1 bt501.2.1 bt501.2.2 bt506.1 bt506.2 a3).bind fun t508 => ((laws_eqIntS.f kj33 t508 t462).bind fun t511 => (if t511 = true then ((laws_heldIntS.f kj33 t496 1).bind fun t512 => (if t512 < 0 then (some false) else (if t512 = t495 then (some true) else (some false)))) else (some false)))))) = some r := H
                      have A79 := Aside0.mk A790
                      clear A790
                      replace H := Option.bind_eq_some_iff.mp H
                      obtain ⟨⟨t501, t502, t503⟩, A800, H⟩ := H
                      replace H : ((laws_toDrift.f a2_0 a2_1).bind fun bt506 => ((impl_HeardLost.f kj33 t498 t501 t502 t503 bt506.1 bt506.2 a3).bind fun t508 => ((laws_eqIntS.f kj33 t508 t462).bind fun t511 => (if t511 = true then ((laws_heldIntS.f kj33 t496 1).bind fun t512 => (if t512 < 0 then (some false) else (if t512 = t495 then (some true) else (some false)))) else (some false))))) = some r := H
                      have A80 := Aside0.mk A800
                      clear A800
                      replace H := Option.bind_eq_some_iff.mp H
                      obtain ⟨⟨t506, t507⟩, A810, H⟩ := H
                      replace H : ((impl_HeardLost.f kj33 t498 t501 t502 t503 t506 t507 a3).bind fun t508 => ((laws_eqIntS.f kj33 t508 t462).bind fun t511 => (if t511 = true then ((laws_heldIntS.f kj33 t496 1).bind fun t512 => (if t512 < 0 then (some false) else (if t512 = t495 then (some true) else (some false)))) else (some false)))) = some r := H
                      have A81 := Aside0.mk A810
                      clear A810
                      replace H := Option.bind_eq_some_iff.mp H
                      obtain ⟨t508, A820, H⟩ := H
                      replace H : ((laws_eqIntS.f kj33 t508 t462).bind fun t511 => (if t511 = true then ((laws_heldIntS.f kj33 t496 1).bind fun t512 => (if t512 < 0 then (some false) else (if t512 = t495 then (some true) else (some false)))) else (some false))) = some r := H
                      have A82 := Aside0.mk A820
                      clear A820
                      replace H := Option.bind_eq_some_iff.mp H
                      obtain ⟨t511, A830, H⟩ := H
                      replace H : (if t511 = true then ((laws_heldIntS.f kj33 t496 1).bind fun t512 => (if t512 < 0 then (some false) else (if t512 = t495 then (some true) else (some false)))) else (some false)) = some r := H
                      have A83 := Aside0.mk A830
                      clear A830
                      by_cases c84 : t511 = true
                      · subst c84
                        have H1 : ((laws_heldIntS.f kj33 t496 1).bind fun t512 => (if t512 < 0 then (some false) else (if t512 = t495 then (some true) else (some false)))) = some r := by rw [if_pos rfl] at H; exact H
                        clear H
                        have H := H1
                        clear H1
                        replace H := Option.bind_eq_some_iff.mp H
                        obtain ⟨t512, A850, H⟩ := H
                        replace H : (if t512 < 0 then (some false) else (if t512 = t495 then (some true) else (some false))) = some r := H
                        have A85 := Aside0.mk A850
                        clear A850
                        by_cases c86 : t512 < 0
                        · rw [if_pos c86] at H
                          have c86b0 : decide (t512 < 0) = true := decide_eq_true c86
                          clear c86
                          obtain rfl := Option.some.inj H
                          exact absurd hr_ (by decide)
                        · rw [if_neg c86] at H
                          have c86b0 : decide (t512 < 0) = false := decide_eq_false c86
                          clear c86
                          by_cases c87 : t512 = t495
                          · rw [if_pos c87] at H
                            have c87b0 : (t512 == t495) = true := beq_iff_eq.mpr c87
                            have c87b1 : (t512 != t495) = false := bne_eq_false_iff_eq.mpr c87
                            clear c87
                            obtain rfl := Option.some.inj H
                            try go_wp2_with (first | ((with_reducible refine gate_callee (f := 16) rfl ?_); refine goesL_ (some 76) rfl rfl Try.func16 (by kernel_rfl) rfl #[.slice Ao60 t476.length co60, .int .i64 1] rfl arr_ ?_; (with_reducible refine (laws_markIntS.calls kj33 (fun k_ => some k_ = (.slice Ao60 t476.length co60 : Value).ownBlock) (.slice Ao60 t476.length co60) t476 1 t495 t496 w _ ?side1 ?side2 A75.out).mono ?_); (case side1 => repeat (first | (with_reducible first | exact HB.out | apply below_alloc | apply pw_below_drewN | apply below_drew1 | refine below_set ?_ GE448.out | refine below_set ?_ GE449.out | refine below_set ?_ GE473.out) | exact HB.out)); (case side2 => exact Kd.R_tight rfl HO_13.out); rintro e w88 ⟨rfl, hy0, hb, hkp⟩; refine ⟨_, rfl, ?_⟩; have n0_ := Aside0.mk (Kd.R_mono (ok' := fun k_ => some k_ ≠ (.slice Ao60 t476.length co60 : Value).ownBlock) (Kd.R_keptB (HO_10.out) hkp (fun k_ hk_ hs_ => (hk_) hs_)) (fun k_ hk_ => hk_.1)); have n1_ := Aside0.mk (Kd.R_reok rfl hy0 (fun k_ e_ => HO_13.out.1 k_ e_)); have n2_ := Aside0.mk (Kd.R_mono (ok' := fun k_ => True) (Kd.R_keptB ((Kd.R_apart' HO_474002.out (Kd.R_typed HO_13.out) (by decide))) hkp (fun k_ hk_ hs_ => (hk_.2) hs_)) (fun k_ hk_ => trivial)); have n3_ := Aside0.mk (blk_kept (bk_ BK448.out) hkp (fun hs_ => (fun e_ => (Kd.R_ne HO_13.out BK448.out (by decide)) e_) hs_)); have n4_ := Aside0.mk (blk_kept (bk_ BK449.out) hkp (fun hs_ => (fun e_ => (Kd.R_ne HO_13.out BK449.out (by decide)) e_) hs_)); have n5_ := Aside0.mk (blk_kept (bk_ BK473.out) hkp (fun hs_ => (fun e_ => (Kd.R_ne HO_13.out BK473.out (by decide)) e_) hs_)); have n6_ := Aside0.mk (hb); clear HO_10; clear HO_13; clear HO_474002; clear BK448; clear BK449; clear BK473; clear HB; have HO_10 := n0_; have HO_13 := n1_; have HO_474002 := n2_; have BK448 := n3_; have BK449 := n4_; have BK473 := n5_; have HB := n6_; clear n0_ n1_ n2_ n3_ n4_ n5_ n6_; (try clear hb); (try clear hkp); (try clear hy0)) | ((with_reducible refine gate_callee (f := 17) rfl ?_); refine goesL_ (some 79) rfl rfl Try.func17 (by kernel_rfl) rfl #[.slice Ao60 t496.length co60, .int .i64 1] rfl (by (try simp only [List.map_toArray, List.map_cons, List.map_nil]); first | done | (rw [show t496.length = t476.length from (Kd.R_reads' HO_13.out).1.symm] <;> rfl) | rfl | (simp only [List.length_drop, List.length_take]; rfl)) ?_; (with_reducible refine (laws_heldIntS.calls kj33 _ _ t496 1 t497 _ ?side1 ?side2 A76.out).mono ?_); (case side1 => repeat (first | exact (Kd.R_reads' HO_13.out).2.2 | (with_reducible refine Kd.C_alloc ?_ _) | (with_reducible refine Kd.C_drewN ?_ _) | (with_reducible refine Kd.C_drew ?_))); (case side2 => rw [show t496.length = t476.length from (Kd.R_reads' HO_13.out).1.symm]; exact (Kd.R_reads' HO_13.out).2.1); rintro e w' ⟨rfl, ⟨nd, rfl⟩⟩; refine ⟨_, rfl, ?_⟩))
                            (try (rw [drewN_self w88]; generalize hq_ : World.drewN w88 _ = w88; have n0_ : Aside0 (Kd.R (Kd.int .i64) 3 w88 w.heap.size (fun k_ => some k_ ≠ (.slice Ao60 t476.length co60 : Value).ownBlock) (.slice Ao61 t462.length co61) t462) := ⟨by rw [← hq_]; exact (by (with_reducible repeat (first | apply Kd.R_alloc | apply Kd.R_drewN | apply Kd.R_drew)); exact HO_10.out)⟩; have n1_ : Aside0 (Kd.R (Kd.int .i64) 3 w88 w.heap.size (fun k_ => some k_ ≠ (.slice Ao61 t462.length co61 : Value).ownBlock) (.slice Ao60 t476.length co60) t496) := ⟨by rw [← hq_]; exact (by (with_reducible repeat (first | apply Kd.R_alloc | apply Kd.R_drewN | apply Kd.R_drew)); exact HO_13.out)⟩; have n2_ : Aside0 (Kd.R k89 89 w88 w.heap.size (fun _ => True) (.slice Ao54 t493.length co54) t493) := ⟨by rw [← hq_]; exact (by (with_reducible repeat (first | apply Kd.R_alloc | apply Kd.R_drewN | apply Kd.R_drew)); exact HO_474002.out)⟩; have n3_ : Aside0 (w88.heap[gb448]? = some (.cells #[.int .i64 a1_0, .int .i64 a1_1, .slice A1_2 l1_2.length c1_2] 35 (0, 0))) := ⟨by rw [← hq_]; exact (bk_ BK448.out)⟩; have n4_ : Aside0 (w88.heap[gb449]? = some (.cells #[.int .i64 a2_0, .int .i64 a2_1] 37 (0, 0))) := ⟨by rw [← hq_]; exact (bk_ BK449.out)⟩; have n5_ : Aside0 (w88.heap[gb473]? = some (.cells #[.int .i64 t468, .int .i64 t469, .slice Ao54 t493.length co54] 42 (0, 0))) := ⟨by rw [← hq_]; exact (bk_ BK473.out)⟩; have n6_ : Aside0 (Below w.heap.size w w88) := ⟨by rw [← hq_]; exact (hb3_ HB.out GE448.out GE449.out GE473.out)⟩; clear HO_10 HO_13 HO_474002 BK448 BK449 BK473 HB hq_; have HO_10 := n0_; have HO_13 := n1_; have HO_474002 := n2_; have BK448 := n3_; have BK449 := n4_; have BK473 := n5_; have HB := n6_; clear n0_ n1_ n2_ n3_ n4_ n5_ n6_))
                            have n0_ := Aside0.mk (Kd.R_drew HO_10.out)
                            have n1_ := Aside0.mk (Kd.R_drew HO_13.out)
                            have n2_ := Aside0.mk (Kd.R_drew HO_474002.out)
                            have n3_ := Aside0.mk (blk_drew BK448.out)
                            have n4_ := Aside0.mk (blk_drew BK449.out)
                            have n5_ := Aside0.mk (blk_drew BK473.out)
                            have n6_ := Aside0.mk (below_drew1 HB.out)
                            clear HO_10
                            clear HO_13
                            clear HO_474002
                            clear BK448
                            clear BK449
                            clear BK473
                            clear HB
                            have HO_10 := n0_
                            have HO_13 := n1_
                            have HO_474002 := n2_
                            have BK448 := n3_
                            have BK449 := n4_
                            have BK473 := n5_
                            have HB := n6_
                            clear n0_ n1_ n2_ n3_ n4_ n5_ n6_
                            refine start_ (n := 9) (S := fun w' => w'.cell? ⟨gb448, 0, none⟩ = some (.int .i64 a1_0) ∧ w'.cell? ⟨gb448, 1, none⟩ = some (.int .i64 a1_1) ∧ w'.cell? ⟨gb448, 2, none⟩ = some (.slice A1_2 l1_2.length c1_2) ∧ w'.cell? ⟨gb449, 0, none⟩ = some (.int .i64 a2_0) ∧ w'.cell? ⟨gb449, 1, none⟩ = some (.int .i64 a2_1)) (ds := []) #[false, false, false, false, false, false, false, false, false] (by kernel_rfl) rfl rfl ⟨(blk_cell BK448.out 0).trans rfl, (blk_cell BK448.out 1).trans rfl, (blk_cell BK448.out 2).trans rfl, (blk_cell BK449.out 0).trans rfl, (blk_cell BK449.out 1).trans rfl⟩ (fun hHeld => ?_); refine with_tabW laws_FnExactHeardLost.tab31 laws_FnExactHeardLost.bits31 (fun HT_ HW_ => ?_)
                            generalize w88.drew = w89 at HO_10 HO_13 HO_474002 BK448 BK449 BK473 HB hHeld ⊢
                            refine pure_ (i := 0) (N := some 85) (v := ?_) (a' := ?_) #[true, false, false, false, false, false, false, false, false] rfl rfl (any_of HT_.out (by kernel_rfl)) (fun _ _ _ h => h) (Or.inl ⟨by rfl, ?_⟩) ?_ ?_
                            rotate_left
                            · intro w'
                              go_simp
                              with_reducible rfl
                            rotate_left
                            · simp only [Act.put, List.setIfInBounds_toArray, List.set_cons_zero, List.set_cons_succ, i64_w, i32_w]
                              rfl
                            refine pure_ (i := 6) (N := some 91) (v := ?_) (a' := ?_) #[true, false, false, false, false, false, true, false, false] rfl rfl (any_of HT_.out (by kernel_rfl)) (fun _ _ _ h => h) (Or.inl ⟨by rfl, ?_⟩) ?_ ?_
                            rotate_left
                            · intro w'
                              go_simp
                              with_reducible rfl
                            rotate_left
                            · simp only [Act.put, List.setIfInBounds_toArray, List.set_cons_zero, List.set_cons_succ, i64_w, i32_w]
                              rfl
                            refine take_ (i := 2) (N := some 87) (v := ?_) (a' := ?_) #[true, false, true, false, false, false, true, false, false] rfl rfl (take_ofW HT_.out HW_.out (by kernel_rfl)) (fun _ _ _ h => h) (Or.inl ⟨by rfl, ?_⟩) hHeld ?_ ?_
                            rotate_left
                            · rintro w' ⟨s0, s1, s2, s3, s4⟩
                              go_simp
                              with_reducible rfl
                            rotate_left
                            · simp only [Act.put, List.setIfInBounds_toArray, List.set_cons_zero, List.set_cons_succ, i64_w, i32_w]
                              rfl
                            refine take_ (i := 4) (N := some 89) (v := ?_) (a' := ?_) #[true, false, true, false, true, false, true, false, false] rfl rfl (take_ofW HT_.out HW_.out (by kernel_rfl)) (fun _ _ _ h => h) (Or.inl ⟨by rfl, ?_⟩) hHeld ?_ ?_
                            rotate_left
                            · rintro w' ⟨s0, s1, s2, s3, s4⟩
                              go_simp
                              with_reducible rfl
                            rotate_left
                            · simp only [Act.put, List.setIfInBounds_toArray, List.set_cons_zero, List.set_cons_succ, i64_w, i32_w]
                              rfl
                            refine one_ (i := 1) (N := some 86) #[true, true, true, false, true, false, true, false, false] rfl rfl (one_of HT_.out (by kernel_rfl)) (by decide) (fun K hK => ?_)
                            refine goes_ Try.func11 (by kernel_rfl) rfl #[.slice A0 l0.length c0] (by rfl) rfl rfl arr_ ?_
                            with_reducible refine (laws_toHeardS.calls kj33 _ _ l0 t498 _ ?side1 ?side2 A79.out).mono ?_
                            (case side1 => exact kc_ (Kd.C_below HR0.out HB.out))
                            (case side2 => exact HC0.out)
                            rintro e w90 ⟨v499, rfl, ho0, hb⟩
                            refine ⟨_, rfl, ?_⟩
                            have n0_ := Aside0.mk (Kd.R_below (by (with_reducible repeat (first | apply Kd.R_alloc | apply Kd.R_drewN | apply Kd.R_drew)); exact HO_10.out) hb)
                            have n1_ := Aside0.mk (Kd.R_below (by (with_reducible repeat (first | apply Kd.R_alloc | apply Kd.R_drewN | apply Kd.R_drew)); exact HO_13.out) hb)
                            have n2_ := Aside0.mk (Kd.R_below (by (with_reducible repeat (first | apply Kd.R_alloc | apply Kd.R_drewN | apply Kd.R_drew)); exact HO_474002.out) hb)
                            have n3_ := Aside0.mk (Kd.R_lower ho0 (below_size (hb3_ HB.out GE448.out GE449.out GE473.out)))
                            have n4_ := Aside0.mk (bb_ BK448.out hb)
                            have n5_ := Aside0.mk (bb_ BK449.out hb)
                            have n6_ := Aside0.mk (bb_ BK473.out hb)
                            have n7_ := Aside0.mk (below_step (hb3_ HB.out GE448.out GE449.out GE473.out) hb)
                            clear HO_10
                            clear HO_13
                            clear HO_474002
                            clear BK448
                            clear BK449
                            clear BK473
                            clear HB
                            have HO_10 := n0_
                            have HO_13 := n1_
                            have HO_474002 := n2_
                            have HO500 := n3_
                            have BK448 := n4_
                            have BK449 := n5_
                            have BK473 := n6_
                            have HB := n7_
                            clear n0_ n1_ n2_ n3_ n4_ n5_ n6_ n7_
                            (try clear hb)
                            (try clear hb2)
                            (try clear hk)
                            (try clear hi)
                            (try clear ho0)
                            refine hK.out _ _ ⟨(blk_cell BK448.out 0).trans rfl, (blk_cell BK448.out 1).trans rfl, (blk_cell BK448.out 2).trans rfl, (blk_cell BK449.out 0).trans rfl, (blk_cell BK449.out 1).trans rfl⟩ (fun hHeld => ?_)
                            clear hK K
                            refine norm_ (a' := ?_) ?_ ?_
                            rotate_left
                            · show Act.put _ (some 86) _ = _
                              simp only [Act.put, List.setIfInBounds_toArray, List.set_cons_zero, List.set_cons_succ, i64_w, i32_w]
                              rfl
                            refine one_ (i := 3) (N := some 88) #[true, true, true, true, true, false, true, false, false] rfl rfl (one_of HT_.out (by kernel_rfl)) (by decide) (fun K hK => ?_)
                            refine goes_ Try.func20 (by kernel_rfl) rfl #[.agg #[.int .i64 a1_0, .int .i64 a1_1, .slice A1_2 l1_2.length c1_2]] (by rfl) rfl rfl arr_ ?_
                            with_reducible refine (laws_toPlan.calls kj33 a1_0 a1_1 _ _ l1_2 t501 t502 t503 _ ?side1 ?side2 A80.out).mono ?_
                            (case side1 => exact kc_ (Kd.C_below HR1_2.out HB.out))
                            (case side2 => exact HC1_2.out)
                            rintro e w91 ⟨v504, rfl, ho0, hb⟩
                            refine ⟨_, rfl, ?_⟩
                            have n0_ := Aside0.mk (Kd.R_below (by (with_reducible repeat (first | apply Kd.R_alloc | apply Kd.R_drewN | apply Kd.R_drew)); exact HO_10.out) hb)
                            have n1_ := Aside0.mk (Kd.R_below (by (with_reducible repeat (first | apply Kd.R_alloc | apply Kd.R_drewN | apply Kd.R_drew)); exact HO_13.out) hb)
                            have n2_ := Aside0.mk (Kd.R_elder' (by (with_reducible repeat (first | apply Kd.R_alloc | apply Kd.R_drewN | apply Kd.R_drew)); exact HO_474002.out) (Kd.R_base ho0) hb)
                            have n3_ := Aside0.mk (Kd.R_below (by (with_reducible repeat (first | apply Kd.R_alloc | apply Kd.R_drewN | apply Kd.R_drew)); exact HO500.out) hb)
                            have n4_ := Aside0.mk (Kd.R_lower (Kd.R_new' ho0 (Kd.R_lt (by (with_reducible repeat (first | apply Kd.R_alloc | apply Kd.R_drewN | apply Kd.R_drew)); exact HO_474002.out))) (below_size (hb3_ HB.out GE448.out GE449.out GE473.out)))
                            have n5_ := Aside0.mk (bb_ BK448.out hb)
                            have n6_ := Aside0.mk (bb_ BK449.out hb)
                            have n7_ := Aside0.mk (bb_ BK473.out hb)
                            have n8_ := Aside0.mk (below_step (hb3_ HB.out GE448.out GE449.out GE473.out) hb)
                            clear HO_10
                            clear HO_13
                            clear HO_474002
                            clear HO500
                            clear BK448
                            clear BK449
                            clear BK473
                            clear HB
                            have HO_10 := n0_
                            have HO_13 := n1_
                            have HO_474002 := n2_
                            have HO500 := n3_
                            have HO505 := n4_
                            have BK448 := n5_
                            have BK449 := n6_
                            have BK473 := n7_
                            have HB := n8_
                            clear n0_ n1_ n2_ n3_ n4_ n5_ n6_ n7_ n8_
                            (try clear hb)
                            (try clear hb2)
                            (try clear hk)
                            (try clear hi)
                            (try clear ho0)
                            refine hK.out _ _ ⟨(blk_cell BK448.out 0).trans rfl, (blk_cell BK448.out 1).trans rfl, (blk_cell BK448.out 2).trans rfl, (blk_cell BK449.out 0).trans rfl, (blk_cell BK449.out 1).trans rfl⟩ (fun hHeld => ?_)
                            clear hK K
                            refine norm_ (a' := ?_) ?_ ?_
                            rotate_left
                            · show Act.put _ (some 88) _ = _
                              simp only [Act.put, List.setIfInBounds_toArray, List.set_cons_zero, List.set_cons_succ, i64_w, i32_w]
                              rfl
                            refine one_ (i := 5) (N := some 90) #[true, true, true, true, true, true, true, false, false] rfl rfl (one_of HT_.out (by kernel_rfl)) (by decide) (fun K hK => ?_)
                            refine goes_ Try.func21 (by kernel_rfl) rfl #[.agg #[.int .i64 a2_0, .int .i64 a2_1]] (by rfl) rfl rfl arr_ ?_
                            with_reducible refine (laws_toDrift.calls a2_0 a2_1 t506 t507 _ A81.out).mono ?_
                            rintro e w92 ⟨rfl, hb⟩
                            refine ⟨_, rfl, ?_⟩
                            have n0_ := Aside0.mk (Kd.R_below (by (with_reducible repeat (first | apply Kd.R_alloc | apply Kd.R_drewN | apply Kd.R_drew)); exact HO_10.out) hb)
                            have n1_ := Aside0.mk (Kd.R_below (by (with_reducible repeat (first | apply Kd.R_alloc | apply Kd.R_drewN | apply Kd.R_drew)); exact HO_13.out) hb)
                            have n2_ := Aside0.mk (Kd.R_below (by (with_reducible repeat (first | apply Kd.R_alloc | apply Kd.R_drewN | apply Kd.R_drew)); exact HO_474002.out) hb)
                            have n3_ := Aside0.mk (Kd.R_below (by (with_reducible repeat (first | apply Kd.R_alloc | apply Kd.R_drewN | apply Kd.R_drew)); exact HO500.out) hb)
                            have n4_ := Aside0.mk (Kd.R_below (by (with_reducible repeat (first | apply Kd.R_alloc | apply Kd.R_drewN | apply Kd.R_drew)); exact HO505.out) hb)
                            have n5_ := Aside0.mk (bb_ BK448.out hb)
                            have n6_ := Aside0.mk (bb_ BK449.out hb)
                            have n7_ := Aside0.mk (bb_ BK473.out hb)
                            have n8_ := Aside0.mk (below_step (hb3_ HB.out GE448.out GE449.out GE473.out) hb)
                            clear HO_10
                            clear HO_13
                            clear HO_474002
                            clear HO500
                            clear HO505
                            clear BK448
                            clear BK449
                            clear BK473
                            clear HB
                            have HO_10 := n0_
                            have HO_13 := n1_
                            have HO_474002 := n2_
                            have HO500 := n3_
                            have HO505 := n4_
                            have BK448 := n5_
                            have BK449 := n6_
                            have BK473 := n7_
                            have HB := n8_
                            clear n0_ n1_ n2_ n3_ n4_ n5_ n6_ n7_ n8_
                            (try clear hb)
                            (try clear hb2)
                            (try clear hk)
                            (try clear hi)
                            obtain ⟨Ao93, co93, eo93⟩ := Kd.R_slice HO500.out
                            (first | subst eo93 | (injection eo93 with f1_ f2_ f3_; have f4_ := f1_.symm; have f5_ := f3_.symm; clear f1_ f2_ f3_; subst f4_; subst f5_))
                            obtain ⟨Ao94, co94, eo94⟩ := Kd.R_slice HO505.out
                            (first | subst eo94 | (injection eo94 with f1_ f2_ f3_; have f4_ := f1_.symm; have f5_ := f3_.symm; clear f1_ f2_ f3_; subst f4_; subst f5_))
                            refine hK.out _ _ ⟨(blk_cell BK448.out 0).trans rfl, (blk_cell BK448.out 1).trans rfl, (blk_cell BK448.out 2).trans rfl, (blk_cell BK449.out 0).trans rfl, (blk_cell BK449.out 1).trans rfl⟩ (fun hHeld => ?_)
                            clear hK K
                            refine norm_ (a' := ?_) ?_ ?_
                            rotate_left
                            · show Act.put _ (some 90) _ = _
                              simp only [Act.put, List.setIfInBounds_toArray, List.set_cons_zero, List.set_cons_succ, i64_w, i32_w]
                              rfl
                            refine one_ (i := 7) (N := some 92) #[true, true, true, true, true, true, true, true, false] rfl rfl (one_of HT_.out (by kernel_rfl)) (by decide) (fun K hK => ?_)
                            refine goes_ Try.func26 (by kernel_rfl) rfl #[.slice Ao93 t498.length co93, .agg #[.int .i64 t501, .int .i64 t502, .slice Ao94 t503.length co94], .agg #[.int .i64 t506, .int .i64 t507], .int .i64 a3] (by rfl) rfl rfl arr_ ?_
                            with_reducible refine (impl_HeardLost.calls kj33 _ _ t498 t501 t502 _ _ t503 t506 t507 a3 t508 _ ?side1 ?side2 ?side3 ?side4 A82.out).mono ?_
                            (case side1 => repeat (first | exact (Kd.R_reads' HO500.out).2.2 | (with_reducible refine Kd.C_alloc ?_ _) | (with_reducible refine Kd.C_drewN ?_ _) | (with_reducible refine Kd.C_drew ?_)))
                            (case side2 => exact (Kd.R_reads' HO500.out).2.1)
                            (case side3 => repeat (first | exact (Kd.R_reads' HO505.out).2.2 | (with_reducible refine Kd.C_alloc ?_ _) | (with_reducible refine Kd.C_drewN ?_ _) | (with_reducible refine Kd.C_drew ?_)))
                            (case side4 => exact (Kd.R_reads' HO505.out).2.1)
                            rintro e w95 ⟨v509, rfl, ho0, hb⟩
                            refine ⟨_, rfl, ?_⟩
                            have n0_ := Aside0.mk (Kd.R_elder' (by (with_reducible repeat (first | apply Kd.R_alloc | apply Kd.R_drewN | apply Kd.R_drew)); exact HO_10.out) (Kd.R_base ho0) hb)
                            have n1_ := Aside0.mk (Kd.R_elder' (by (with_reducible repeat (first | apply Kd.R_alloc | apply Kd.R_drewN | apply Kd.R_drew)); exact HO_13.out) (Kd.R_base ho0) hb)
                            have n2_ := Aside0.mk (Kd.R_below (by (with_reducible repeat (first | apply Kd.R_alloc | apply Kd.R_drewN | apply Kd.R_drew)); exact HO_474002.out) hb)
                            have n3_ := Aside0.mk (Kd.R_below (by (with_reducible repeat (first | apply Kd.R_alloc | apply Kd.R_drewN | apply Kd.R_drew)); exact HO500.out) hb)
                            have n4_ := Aside0.mk (Kd.R_below (by (with_reducible repeat (first | apply Kd.R_alloc | apply Kd.R_drewN | apply Kd.R_drew)); exact HO505.out) hb)
                            have n5_ := Aside0.mk (Kd.R_lower (Kd.R_new' (Kd.R_new' ho0 (Kd.R_lt (by (with_reducible repeat (first | apply Kd.R_alloc | apply Kd.R_drewN | apply Kd.R_drew)); exact HO_10.out))) (Kd.R_lt (by (with_reducible repeat (first | apply Kd.R_alloc | apply Kd.R_drewN | apply Kd.R_drew)); exact HO_13.out))) (below_size (hb3_ HB.out GE448.out GE449.out GE473.out)))
                            have n6_ := Aside0.mk (bb_ BK448.out hb)
                            have n7_ := Aside0.mk (bb_ BK449.out hb)
                            have n8_ := Aside0.mk (bb_ BK473.out hb)
                            have n9_ := Aside0.mk (below_step (hb3_ HB.out GE448.out GE449.out GE473.out) hb)
                            clear HO_10
                            clear HO_13
                            clear HO_474002
                            clear HO500
                            clear HO505
                            clear BK448
                            clear BK449
                            clear BK473
                            clear HB
                            have HO_10 := n0_
                            have HO_13 := n1_
                            have HO_474002 := n2_
                            have HO500 := n3_
                            have HO505 := n4_
                            have HO510 := n5_
                            have BK448 := n6_
                            have BK449 := n7_
                            have BK473 := n8_
                            have HB := n9_
                            clear n0_ n1_ n2_ n3_ n4_ n5_ n6_ n7_ n8_ n9_
                            (try clear hb)
                            (try clear hb2)
                            (try clear hk)
                            (try clear hi)
                            (try clear ho0)
                            refine hK.out _ _ ⟨(blk_cell BK448.out 0).trans rfl, (blk_cell BK448.out 1).trans rfl, (blk_cell BK448.out 2).trans rfl, (blk_cell BK449.out 0).trans rfl, (blk_cell BK449.out 1).trans rfl⟩ (fun hHeld => ?_)
                            clear hK K
                            refine norm_ (a' := ?_) ?_ ?_
                            rotate_left
                            · show Act.put _ (some 92) _ = _
                              simp only [Act.put, List.setIfInBounds_toArray, List.set_cons_zero, List.set_cons_succ, i64_w, i32_w]
                              rfl
                            refine pure_ (i := 8) (N := some 17) (v := ?_) (a' := ?_) #[true, true, true, true, true, true, true, true, true] rfl rfl (any_of HT_.out (by kernel_rfl)) (fun _ _ _ h => h) (Or.inl ⟨by rfl, ?_⟩) ?_ ?_
                            rotate_left
                            · intro w'
                              go_simp
                              with_reducible rfl
                            rotate_left
                            · simp only [Act.put, List.setIfInBounds_toArray, List.set_cons_zero, List.set_cons_succ, i64_w, i32_w]
                              rfl
                            refine done_ (done_of HT_.out (by kernel_rfl)) ?_
                            obtain ⟨Ao96, co96, eo96⟩ := Kd.R_slice HO510.out
                            subst eo96
                            try go_wp2_with (first | ((with_reducible refine gate_callee (f := 13) rfl ?_); refine goesL_ (some 95) rfl rfl Try.func13 (by kernel_rfl) rfl #[.slice Ao96 t508.length co96, .slice Ao61 t462.length co61] rfl arr_ ?_; (with_reducible refine (laws_eqIntS.calls kj33 _ _ t508 _ _ t462 true _ ?side1 ?side2 ?side3 ?side4 A83.out).mono ?_); (case side1 => repeat (first | exact (Kd.R_reads' HO510.out).2.2 | (with_reducible refine Kd.C_alloc ?_ _) | (with_reducible refine Kd.C_drewN ?_ _) | (with_reducible refine Kd.C_drew ?_))); (case side2 => exact (Kd.R_reads' HO510.out).2.1); (case side3 => repeat (first | exact (Kd.R_reads' HO_10.out).2.2 | (with_reducible refine Kd.C_alloc ?_ _) | (with_reducible refine Kd.C_drewN ?_ _) | (with_reducible refine Kd.C_drew ?_))); (case side4 => exact (Kd.R_reads' HO_10.out).2.1); rintro e w' ⟨rfl, ⟨nd, rfl⟩⟩; refine ⟨_, rfl, ?_⟩) | ((with_reducible refine gate_callee (f := 17) rfl ?_); refine goesL_ (some 99) rfl rfl Try.func17 (by kernel_rfl) rfl #[.slice Ao60 t496.length co60, .int .i64 1] rfl (by (try simp only [List.map_toArray, List.map_cons, List.map_nil]); first | done | (rw [show t496.length = t476.length from (Kd.R_reads' HO_13.out).1.symm] <;> rfl) | rfl | (simp only [List.length_drop, List.length_take]; rfl)) ?_; (with_reducible refine (laws_heldIntS.calls kj33 _ _ t496 1 t512 _ ?side1 ?side2 A85.out).mono ?_); (case side1 => repeat (first | exact (Kd.R_reads' HO_13.out).2.2 | (with_reducible refine Kd.C_alloc ?_ _) | (with_reducible refine Kd.C_drewN ?_ _) | (with_reducible refine Kd.C_drew ?_))); (case side2 => rw [show t496.length = t476.length from (Kd.R_reads' HO_13.out).1.symm]; exact (Kd.R_reads' HO_13.out).2.1); rintro e w' ⟨rfl, ⟨nd, rfl⟩⟩; refine ⟨_, rfl, ?_⟩))
                            go_ret
                            exact ⟨er_, hb3_ HB.out GE448.out GE449.out GE473.out⟩
                          · rw [if_neg c87] at H
                            have c87b0 : (t512 == t495) = false := beq_eq_false_iff_ne.mpr c87
                            have c87b1 : (t512 != t495) = true := bne_iff_ne.mpr c87
                            obtain rfl := Option.some.inj H
                            exact absurd hr_ (by decide)
                      · replace c84 := Bool.eq_false_iff.mpr c84
                        subst c84
                        have H1 : (some false) = some r := by rw [if_neg (show ¬ (false = true) by decide)] at H; exact H
                        clear H
                        have H := H1
                        clear H1
                        obtain rfl := Option.some.inj H
                        exact absurd hr_ (by decide)
                    · rw [if_neg c78] at H
                      have c78b0 : (t497 == t495) = false := beq_eq_false_iff_ne.mpr c78
                      have c78b1 : (t497 != t495) = true := bne_iff_ne.mpr c78
                      obtain rfl := Option.some.inj H
                      exact absurd hr_ (by decide)
          · replace c31 := Bool.eq_false_iff.mpr c31
            subst c31
            have H1 : (some false) = some r := by rw [if_neg (show ¬ (false = true) by decide)] at H; exact H
            clear H
            have H := H1
            clear H1
            obtain rfl := Option.some.inj H
            exact absurd hr_ (by decide)
        · replace c28 := Bool.eq_false_iff.mpr c28
          subst c28
          have H1 : (some false) = some r := by rw [if_neg (show ¬ (false = true) by decide)] at H; exact H
          clear H
          have H := H1
          clear H1
          obtain rfl := Option.some.inj H
          exact absurd hr_ (by decide)
      · replace c25 := Bool.eq_false_iff.mpr c25
        subst c25
        have H1 : (some false) = some r := by rw [if_neg (show ¬ (false = true) by decide)] at H; exact H
        clear H
        have H := H1
        clear H1
        obtain rfl := Option.some.inj H
        exact absurd hr_ (by decide)
end Go.Proofs.Ytknckcakcknbbaa.P
namespace Go.Proofs.Ytknckcakcknbbaa.V
open Go.RowKit Go.Proofs.Ytknckcakcknbbaa.P Go.Proofs.Ytknckcakcknbbaa.C Go.Proofs.Ytknckcakcknbbaa.G
theorem FnExactHeardLost : ∀ (l0 : List (S75)) (a1_0 : Int) (a1_1 : Int) (l1_2 : List (S110)) (a2_0 : Int) (a2_1 : Int) (a3 : Int), (l0.length ≤ 9223372036854775807 ∧ ∀ y ∈ l0, ((Lit.int .i64 y.f0).wf = true ∧ (Lit.int .i64 y.f1).wf = true)) → (Lit.int .i64 a1_0).wf = true → (Lit.int .i64 a1_1).wf = true → (l1_2.length ≤ 9223372036854775807 ∧ ∀ y ∈ l1_2, ((Lit.int .i64 y.f0).wf = true ∧ (Lit.int .i64 y.f1).wf = true)) → (Lit.int .i64 a2_0).wf = true → (Lit.int .i64 a2_1).wf = true → (Lit.int .i64 a3).wf = true → ∃ k, laws_FnExactHeardLost.f k l0 a1_0 a1_1 l1_2 a2_0 a2_1 a3 = some true := by
  intro l st gap p n d t ⟨hl, _⟩ _ _ ⟨hl2, _⟩ _ _ _
  refine ⟨2300000, ?_⟩
  unfold laws_FnExactHeardLost.f
  rcases szHeardS l hl 1048576 (by omega) with h | ⟨h, hs⟩
  · rw [h]; simp
  rw [h, Option.bind_some, if_neg (by omega)]
  rcases szPlan st gap p hl2 (1048576 - l.length) (by omega) with h2 | ⟨h2, hs2⟩
  · rw [h2]; simp
  rw [h2, Option.bind_some, if_neg (by omega)]
  have e1 : (l.map toH).length = l.length := by simp
  have e2 : (p.map toSl).length = p.length := by simp
  have hu := lost_len (l.map toH) st gap (p.map toSl) n d t
  have hj : ∀ k, 2250000 ≤ k → laws_FnExactHeardLost.j0 k l t (heardLost (l.map toH) st gap (p.map toSl) n d t) (heardLost (l.map toH) st gap (p.map toSl) n d t) false st gap p n d = some true := by
    intro k hk
    obtain ⟨k, rfl⟩ : ∃ j, k = j + 1 := ⟨k - 1, by omega⟩
    simp only [laws_FnExactHeardLost.j0, laws_toDrift.f]
    rw [if_neg (by decide), markIntS _ (by omega) 1 (by omega) k (by omega)]
    simp only [Option.bind_some]
    rw [heldIntS _ (by omega) 1 (by omega) k (by omega)]
    simp only [Option.bind_some]
    rw [if_neg (by omega), if_pos trivial, toHeardS l (by omega) k (by omega), toPlan st gap p (by omega) k (by omega)]
    simp only [Option.bind_some]
    rw [iHeardLost _ (by omega) _ _ _ (by omega) _ _ _ k (by omega)]
    simp only [Option.bind_some]
    rw [eqIntS _ (by omega) k (by omega)]
    simp only [Option.bind_some]
    rw [if_pos (by trivial), if_neg (by omega), if_pos (by trivial)]
  simp only [laws_toDrift.f]
  rw [toHeardS l (by omega) _ (by omega), toPlan st gap p (by omega) _ (by omega)]
  simp only [Option.bind_some]
  rw [sHeardLost _ (by omega) _ _ _ (by omega) _ _ _ _ (by omega), iHeardLost _ (by omega) _ _ _ (by omega) _ _ _ _ (by omega)]
  simp only [Option.bind_some]
  rw [eqIntS _ (by omega) _ (by omega), eqHeardS _ (by omega) _ (by omega), eqPlan _ _ _ (by omega) _ (by omega)]
  simp only [Option.bind_some, if_true]
  rw [markHeardS _ (by omega) 1 (by omega) _ (by omega)]
  simp only [Option.bind_some]
  rw [markPlan _ _ _ (by omega) _ (by omega) _ (by omega)]
  simp only [Option.bind_some, Bool.not_true]
  rw [if_neg (by omega)]
  exact hj _ (by omega)
end Go.Proofs.Ytknckcakcknbbaa.V
