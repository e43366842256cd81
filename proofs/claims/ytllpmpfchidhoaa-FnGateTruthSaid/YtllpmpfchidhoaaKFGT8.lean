/- Texts of the seat's proofs, part 8: functions of the program told as plain functions, with their contracts, and what is shown of them. No condition. -/
import Derived.Test.YtllpmpfchidhoaaUKFGT
import Derived.Test.YtllpmpfchidhoaaKFGT1
import Derived.Test.YtllpmpfchidhoaaKFGT2
import Derived.Test.YtllpmpfchidhoaaKFGT3
import Derived.Test.YtllpmpfchidhoaaKFGT7
import Derived.Test.YtllpmpfchidhoaaKFGT4
set_option linter.unusedVariables false
set_option linter.unusedSimpArgs false
namespace Go.Proofs.Ytllpmpfchidhoaa.P
open Go.RowKit Go.Proofs.YtllpmpfchidhoaaW.PrintWords Go.Proofs.YtllpmpfchidhoaaW.PrintLast Go.Proofs.YtllpmpfchidhoaaW.PrintMore
attribute [local go_sem] max2_int min2_int max_two min_two max_three min_three max_four min_four
set_option linter.unusedVariables false
set_option linter.unusedSimpArgs false
def spec_l1Down.f (a0 : Int) (a1 : Int) : Option (Int) := if a1 = 0 then (none) else (if (Int.tmod a0 a1) < 0 then (some (wrap64 ((wrap64 (Int.tdiv a0 a1)) - 1))) else (some (wrap64 (Int.tdiv a0 a1))))
set_option maxHeartbeats 8000000 in
set_option maxRecDepth 100000 in
theorem spec_l1Down.calls (a0 : Int) (a1 : Int) (r : Int) (w : World) (h : spec_l1Down.f a0 a1 = some r) :
  Calls Try.prog 64 #[.int .i64 a0, .int .i64 a1] w fun e w' => e = .returned (.int .i64 r) ∧ Drawn0 w w' := by
 have H : (if a1 = 0 then (none) else (if (Int.tmod a0 a1) < 0 then (some (wrap64 ((wrap64 (Int.tdiv a0 a1)) - 1))) else (some (wrap64 (Int.tdiv a0 a1))))) = some r := h
 clear h
 by_cases c3 : a1 = 0
 ·rw [if_pos c3] at H
  exact absurd H (by simp)
 ·rw [if_neg c3] at H
  have c3b0 : (a1 == 0) = false := beq_eq_false_iff_ne.mpr c3
  have c3b1 : (a1 != 0) = true := bne_iff_ne.mpr c3
  by_cases c4 : (Int.tmod a0 a1) < 0
  ·rw [if_pos c4] at H
   have c4b0 : decide ((Int.tmod a0 a1) < 0) = true := decide_eq_true c4
   clear c4
   obtain rfl := Option.some.inj H
   go_enter Try.func64, Try.ntmps64
   go_wp2
   go_ret
   exact ⟨by first | rfl | (simp; done) | (simp [*]; done), by repeat (first | exact Drawn0.refl _ | apply Drawn0.step)⟩
  ·rw [if_neg c4] at H
   have c4b0 : decide ((Int.tmod a0 a1) < 0) = false := decide_eq_false c4
   clear c4
   obtain rfl := Option.some.inj H
   go_enter Try.func64, Try.ntmps64
   go_wp2
   go_ret
   exact ⟨by first | rfl | (simp; done) | (simp [*]; done), by repeat (first | exact Drawn0.refl _ | apply Drawn0.step)⟩
def spec_MostTime.j0 : Nat → Int → Bool → Int → Int → Option (Int × Bool)
 | 0, _, _, _, _ => none
 | k + 1, x1, x13, x490000, x490001 => if x13 = true then (some (0, false)) else ((spec_l1Down.f (wrap64 (x1 * x490001)) (wrap64 (x490001 - x490000))).bind fun t492 => ((spec_l2Told.f t492).bind fun bt493 => (some (bt493.1, bt493.2))))
def spec_MostTime.f (k : Nat) (a0_0 : Int) (a0_1 : Int) (a1 : Int) : Option (Int × Bool) := (spec_DriftOk.f a0_0 a0_1).bind fun t490 => (if t490 = true then ((spec_l2Time.f a1).bind fun t491 => (spec_MostTime.j0 k a1 (!t491) a0_0 a0_1)) else (spec_MostTime.j0 k a1 true a0_0 a0_1))
set_option maxHeartbeats 8000000 in
set_option maxRecDepth 100000 in
theorem spec_MostTime.calls (k : Nat) (a0_0 : Int) (a0_1 : Int) (a1 : Int) (r1 : Int) (r2 : Bool) (w : World) (h : spec_MostTime.f k a0_0 a0_1 a1 = some (r1, r2)) :
  Calls Try.prog 13 #[.agg #[.int .i64 a0_0, .int .i64 a0_1], .int .i64 a1] w fun e w' => e = .returned (.tuple #[.int .i64 r1, .bool r2]) ∧ Below w.heap.size w w' := by
 have hu27 := Try.underlying27
 have HB := am_ (Below.refl w.heap.size w)
 have H : ((spec_DriftOk.f a0_0 a0_1).bind fun t490 => (if t490 = true then ((spec_l2Time.f a1).bind fun t491 => (spec_MostTime.j0 k a1 (!t491) a0_0 a0_1)) else (spec_MostTime.j0 k a1 true a0_0 a0_1))) = some (r1, r2) := h
 clear h
 have HC3 := Aside0.mk H
 clear H
 go_enter Try.func13, Try.ntmps13
 go_upto_region 1 with (first | ((with_reducible refine gate_dst (N := 2) rfl ?_); refine be_ (N := 2) (cs := #[.int .i64 a0_0, .int .i64 a0_1]) (t := 27) ?_; intro gb489 hg w4 hbox hb; have BK489 := am_ (hbox); have GW489 := am_ (hy_ hg (hb_ HB.out) : w.heap.size ≤ gb489); have GE489 := GW489; replace HB := am_ (below_step (hb_ HB.out) hb); clear hb hbox hg))
 (try simp only [Act.put, List.setIfInBounds_toArray, List.set_cons_zero, List.set_cons_succ])
 go_cut [13] (fun v13 wc => ∃ (kq : Nat) (x13_2 : Bool), v13 = .bool x13_2 ∧ Aside0 (spec_MostTime.j0 kq a1 x13_2 a0_0 a0_1 = some (r1, r2)) ∧ Aside0 (kq ≤ k) ∧ Aside0 (wc.heap[gb489]? = some (.cells #[.int .i64 a0_0, .int .i64 a0_1] 27 (0, 0))) ∧ Aside0 (Below w.heap.size w wc))
 case first =>
  have H := HC3.out
  clear HC3
  replace H := Option.bind_eq_some_iff.mp H
  obtain ⟨t490, A50, H⟩ := H
  replace H : (if t490 = true then ((spec_l2Time.f a1).bind fun t491 => (spec_MostTime.j0 k a1 (!t491) a0_0 a0_1)) else (spec_MostTime.j0 k a1 true a0_0 a0_1)) = some (r1, r2) := H
  have A5 := Aside0.mk A50
  clear A50
  by_cases c6 : t490 = true
  ·subst c6
   have H1 : ((spec_l2Time.f a1).bind fun t491 => (spec_MostTime.j0 k a1 (!t491) a0_0 a0_1)) = some (r1, r2) := by rw [if_pos rfl] at H; exact H
   clear H
   have H := H1
   clear H1
   replace H := Option.bind_eq_some_iff.mp H
   obtain ⟨t491, A70, H⟩ := H
   replace H : (spec_MostTime.j0 k a1 (!t491) a0_0 a0_1) = some (r1, r2) := H
   have A7 := Aside0.mk A70
   clear A70
   have H' := Aside0.mk H
   clear H
   have hcz8_0 := bc_ BK489.out 0 (.int .i64 a0_0) rfl
   have hcz8_1 := bc_ BK489.out 1 (.int .i64 a0_1) rfl
   have hfz8_0 := blk_frozen BK489.out 0
   have hfz8_1 := blk_frozen BK489.out 1
   go_wp2_with (first | ((with_reducible refine gate_callee (f := 53) rfl ?_); refine gl_ Try.func53 #[.agg #[.int .i64 a0_0, .int .i64 a0_1]] ?_; (with_reducible refine (spec_DriftOk.calls a0_0 a0_1 true _ A5.out).mono ?_); rintro e w9 ⟨rfl, hb⟩; refine ⟨_, rfl, ?_⟩; replace BK489 := am_ (bb_ BK489.out hb); replace HB := am_ (below_step (hb1_ HB.out GE489.out) hb); (try clear hb); (try clear hb2); (try clear hk); (try clear hi)) | (go_at_call 62; (with_reducible refine (spec_l2Time.calls a1 t491 _ A7.out).mono ?_); rintro e w' ⟨rfl, ⟨nd, rfl⟩⟩))
   go_meet
   case rel => exact ⟨_, (!t491), (by first | rfl | (simp; done) | (simp [*]; done)), H', ⟨by first | omega | exact Nat.le_refl _⟩, ⟨bk_ BK489.out⟩, ⟨hb1_ HB.out GE489.out⟩⟩
  ·replace c6 := Bool.eq_false_iff.mpr c6
   subst c6
   have H1 : (spec_MostTime.j0 k a1 true a0_0 a0_1) = some (r1, r2) := by rw [if_neg (show ¬ (false = true) by decide)] at H; exact H
   clear H
   have H := H1
   clear H1
   have H' := Aside0.mk H
   clear H
   have hcz10_0 := bc_ BK489.out 0 (.int .i64 a0_0) rfl
   have hcz10_1 := bc_ BK489.out 1 (.int .i64 a0_1) rfl
   have hfz10_0 := blk_frozen BK489.out 0
   have hfz10_1 := blk_frozen BK489.out 1
   go_wp2_with (first | ((with_reducible refine gate_callee (f := 53) rfl ?_); refine gl_ Try.func53 #[.agg #[.int .i64 a0_0, .int .i64 a0_1]] ?_; (with_reducible refine (spec_DriftOk.calls a0_0 a0_1 false _ A5.out).mono ?_); rintro e w11 ⟨rfl, hb⟩; refine ⟨_, rfl, ?_⟩; replace BK489 := am_ (bb_ BK489.out hb); replace HB := am_ (below_step (hb1_ HB.out GE489.out) hb); (try clear hb); (try clear hb2); (try clear hk); (try clear hi)))
   go_meet
   case rel => exact ⟨_, (true), (by first | rfl | (simp; done) | (simp [*]; done)), H', ⟨by first | omega | exact Nat.le_refl _⟩, ⟨bk_ BK489.out⟩, ⟨hb1_ HB.out GE489.out⟩⟩
 case rest =>
  clear HC3
  try clear c1
  try clear p2
  try clear c5
  try clear c6
  try clear hcz10_0
  try clear hcz10_1
  try clear hcz8_0
  try clear hcz8_1
  try clear hfz10_0
  try clear hfz10_1
  try clear hfz8_0
  try clear hfz8_1
  obtain ⟨kq, x13_2, rfl, HA, HJ2, BK489, HB⟩ := hcut
  cases kq with
  | zero => exact absurd HA.out (by simp [spec_MostTime.j0])
  | succ kj2 =>
   have H := HA.out
   clear HA
   simp only [spec_MostTime.j0] at H
   by_cases c12 : x13_2 = true
   ·subst c12
    have H1 : (some (0, false)) = some (r1, r2) := by rw [if_pos rfl] at H; exact H
    clear H
    have H := H1
    clear H1
    simp only [Option.some.injEq, Prod.mk.injEq] at H
    obtain ⟨rfl, rfl⟩ := H
    go_wp2
    go_ret2
    exact ⟨er_, hb1_ HB.out GE489.out⟩
   ·replace c12 := Bool.eq_false_iff.mpr c12
    subst c12
    have H1 : ((spec_l1Down.f (wrap64 (a1 * a0_1)) (wrap64 (a0_1 - a0_0))).bind fun t492 => ((spec_l2Told.f t492).bind fun bt493 => (some (bt493.1, bt493.2)))) = some (r1, r2) := by rw [if_neg (show ¬ (false = true) by decide)] at H; exact H
    clear H
    have H := H1
    clear H1
    replace H := Option.bind_eq_some_iff.mp H
    obtain ⟨t492, A130, H⟩ := H
    replace H : ((spec_l2Told.f t492).bind fun bt493 => (some (bt493.1, bt493.2))) = some (r1, r2) := H
    have A13 := Aside0.mk A130
    clear A130
    replace H := Option.bind_eq_some_iff.mp H
    obtain ⟨⟨t493, t494⟩, A140, H⟩ := H
    replace H : (some (t493, t494)) = some (r1, r2) := H
    have A14 := Aside0.mk A140
    clear A140
    simp only [Option.some.injEq, Prod.mk.injEq] at H
    obtain ⟨rfl, rfl⟩ := H
    have hcz15_0 := bc_ BK489.out 0 (.int .i64 a0_0) rfl
    have hcz15_1 := bc_ BK489.out 1 (.int .i64 a0_1) rfl
    have hfz15_0 := blk_frozen BK489.out 0
    have hfz15_1 := blk_frozen BK489.out 1
    go_wp2_with (first | ((with_reducible refine gate_callee (f := 64) rfl ?_); refine gl_ Try.func64 #[.int .i64 (wrap64 (a1 * a0_1)), .int .i64 (wrap64 (a0_1 - a0_0))] ?_; (with_reducible refine (spec_l1Down.calls (wrap64 (a1 * a0_1)) (wrap64 (a0_1 - a0_0)) t492 _ A13.out).mono ?_); rintro e w' ⟨rfl, ⟨nd, rfl⟩⟩; refine ⟨_, rfl, ?_⟩) | ((with_reducible refine gate_callee (f := 63) rfl ?_); refine gl_ Try.func63 #[.int .i64 t492] ?_; (with_reducible refine (spec_l2Told.calls t492 t493 t494 _ A14.out).mono ?_); rintro e w' ⟨rfl, ⟨nd, rfl⟩⟩; refine ⟨_, rfl, ?_⟩))
    go_ret2
    exact ⟨er_, hb1_ HB.out GE489.out⟩
def spec_Spread.f (a0_0 : Int) (a0_1 : Int) (a1 : Int) (a2 : Int) : Option (Int × Int × Bool) := (spec_IvalOk.f a0_0 a0_1).bind fun t497 => (if t497 = true then ((spec_l1In.f a1 0 2000000000000).bind fun t498 => (if t498 = true then ((spec_l1In.f a2 0 2000000000000).bind fun t499 => (if t499 = true then ((spec_l1Told.f (wrap64 (a0_0 - a1)) (wrap64 (a0_1 + a2))).bind fun bt500 => (some (bt500.1, bt500.2.1, bt500.2.2))) else (some (0, 0, false)))) else (some (0, 0, false)))) else (some (0, 0, false)))
set_option maxHeartbeats 8000000 in
set_option maxRecDepth 100000 in
theorem spec_Spread.calls (a0_0 : Int) (a0_1 : Int) (a1 : Int) (a2 : Int) (r1 : Int) (r2 : Int) (r3 : Bool) (w : World) (h : spec_Spread.f a0_0 a0_1 a1 a2 = some (r1, r2, r3)) :
  Calls Try.prog 76 #[.agg #[.int .i64 a0_0, .int .i64 a0_1], .int .i64 a1, .int .i64 a2] w fun e w' => e = .returned (.tuple #[.agg #[.int .i64 r1, .int .i64 r2], .bool r3]) ∧ Below w.heap.size w w' := by
 have hu25 := Try.underlying25
 have HB := am_ (Below.refl w.heap.size w)
 have H : ((spec_IvalOk.f a0_0 a0_1).bind fun t497 => (if t497 = true then ((spec_l1In.f a1 0 2000000000000).bind fun t498 => (if t498 = true then ((spec_l1In.f a2 0 2000000000000).bind fun t499 => (if t499 = true then ((spec_l1Told.f (wrap64 (a0_0 - a1)) (wrap64 (a0_1 + a2))).bind fun bt500 => (some (bt500.1, bt500.2.1, bt500.2.2))) else (some (0, 0, false)))) else (some (0, 0, false)))) else (some (0, 0, false)))) = some (r1, r2, r3) := h
 clear h
 replace H := Option.bind_eq_some_iff.mp H
 obtain ⟨t497, A40, H⟩ := H
 replace H : (if t497 = true then ((spec_l1In.f a1 0 2000000000000).bind fun t498 => (if t498 = true then ((spec_l1In.f a2 0 2000000000000).bind fun t499 => (if t499 = true then ((spec_l1Told.f (wrap64 (a0_0 - a1)) (wrap64 (a0_1 + a2))).bind fun bt500 => (some (bt500.1, bt500.2.1, bt500.2.2))) else (some (0, 0, false)))) else (some (0, 0, false)))) else (some (0, 0, false))) = some (r1, r2, r3) := H
 have A4 := Aside0.mk A40
 clear A40
 by_cases c5 : t497 = true
 ·subst c5
  have H1 : ((spec_l1In.f a1 0 2000000000000).bind fun t498 => (if t498 = true then ((spec_l1In.f a2 0 2000000000000).bind fun t499 => (if t499 = true then ((spec_l1Told.f (wrap64 (a0_0 - a1)) (wrap64 (a0_1 + a2))).bind fun bt500 => (some (bt500.1, bt500.2.1, bt500.2.2))) else (some (0, 0, false)))) else (some (0, 0, false)))) = some (r1, r2, r3) := by rw [if_pos rfl] at H; exact H
  clear H
  have H := H1
  clear H1
  replace H := Option.bind_eq_some_iff.mp H
  obtain ⟨t498, A60, H⟩ := H
  replace H : (if t498 = true then ((spec_l1In.f a2 0 2000000000000).bind fun t499 => (if t499 = true then ((spec_l1Told.f (wrap64 (a0_0 - a1)) (wrap64 (a0_1 + a2))).bind fun bt500 => (some (bt500.1, bt500.2.1, bt500.2.2))) else (some (0, 0, false)))) else (some (0, 0, false))) = some (r1, r2, r3) := H
  have A6 := Aside0.mk A60
  clear A60
  by_cases c7 : t498 = true
  ·subst c7
   have H1 : ((spec_l1In.f a2 0 2000000000000).bind fun t499 => (if t499 = true then ((spec_l1Told.f (wrap64 (a0_0 - a1)) (wrap64 (a0_1 + a2))).bind fun bt500 => (some (bt500.1, bt500.2.1, bt500.2.2))) else (some (0, 0, false)))) = some (r1, r2, r3) := by rw [if_pos rfl] at H; exact H
   clear H
   have H := H1
   clear H1
   replace H := Option.bind_eq_some_iff.mp H
   obtain ⟨t499, A80, H⟩ := H
   replace H : (if t499 = true then ((spec_l1Told.f (wrap64 (a0_0 - a1)) (wrap64 (a0_1 + a2))).bind fun bt500 => (some (bt500.1, bt500.2.1, bt500.2.2))) else (some (0, 0, false))) = some (r1, r2, r3) := H
   have A8 := Aside0.mk A80
   clear A80
   by_cases c9 : t499 = true
   ·subst c9
    have H1 : ((spec_l1Told.f (wrap64 (a0_0 - a1)) (wrap64 (a0_1 + a2))).bind fun bt500 => (some (bt500.1, bt500.2.1, bt500.2.2))) = some (r1, r2, r3) := by rw [if_pos rfl] at H; exact H
    clear H
    have H := H1
    clear H1
    replace H := Option.bind_eq_some_iff.mp H
    obtain ⟨⟨t500, t501, t502⟩, A100, H⟩ := H
    replace H : (some (t500, t501, t502)) = some (r1, r2, r3) := H
    have A10 := Aside0.mk A100
    clear A100
    simp only [Option.some.injEq, Prod.mk.injEq] at H
    obtain ⟨rfl, rfl, rfl⟩ := H
    go_enter Try.func76, Try.ntmps76
    go_wp2_with (first | ((with_reducible refine gate_dst (N := 3) rfl ?_); refine be_ (N := 3) (cs := #[.int .i64 a0_0, .int .i64 a0_1]) (t := 25) ?_; intro gb495 hg w11 hbox hb; have BK495 := am_ (hbox); have GW495 := am_ (hy_ hg (hb_ HB.out) : w.heap.size ≤ gb495); have GE495 := GW495; replace HB := am_ (below_step (hb_ HB.out) hb); clear hb hbox hg) | ((with_reducible refine gate_dst (N := 6) rfl ?_); refine be_ (N := 6) (cs := #[.int .i64 0, .int .i64 0]) (t := 25) ?_; intro gb496 hg w12 hbox hb; have BK496 := am_ (hbox); have GW496 := am_ (hy_ hg (hb1_ HB.out GE495.out) : w.heap.size ≤ gb496); have GE496 := GW496; have NB495_496 := am_ (bl_ hg BK495.out : gb495 ≠ gb496); have NB496_495 := nb_ NB495_496; replace BK495 := am_ (bb_ BK495.out hb); replace HB := am_ (below_step (hb1_ HB.out GE495.out) hb); clear hb hbox hg; have hnb13 := NB495_496.out; have hnc13 := NB496_495.out; obtain ⟨hcz14_0, hcz14_1, hfz14_0, hfz14_1⟩ := bc2_ BK495.out) | ((with_reducible refine gate_callee (f := 52) rfl ?_); refine gl_ Try.func52 #[.agg #[.int .i64 a0_0, .int .i64 a0_1]] ?_; (with_reducible refine (spec_IvalOk.calls a0_0 a0_1 true _ A4.out).mono ?_); rintro e w15 ⟨rfl, hb⟩; refine ⟨_, rfl, ?_⟩; replace BK495 := am_ (bb_ BK495.out hb); replace BK496 := am_ (bb_ BK496.out hb); replace HB := am_ (below_step (hb2_ HB.out GE495.out GE496.out) hb); (try clear hb); (try clear hb2); (try clear hk); (try clear hi)) | (go_at_call 54; (with_reducible refine (spec_l1In.calls a1 0 2000000000000 true _ A6.out).mono ?_); rintro e w' ⟨rfl, ⟨nd, rfl⟩⟩; (try (rw [drewN_self w15]; generalize hq_ : World.drewN w15 _ = w15; have n0_ : Aside0 (w15.heap[gb495]? = some (.cells #[.int .i64 a0_0, .int .i64 a0_1] 25 (0, 0))) := ⟨by rw [← hq_]; exact (bk_ BK495.out)⟩; have n1_ : Aside0 (w15.heap[gb496]? = some (.cells #[.int .i64 0, .int .i64 0] 25 (0, 0))) := ⟨by rw [← hq_]; exact (bk_ BK496.out)⟩; have n2_ : Aside0 (Below w.heap.size w w15) := ⟨by rw [← hq_]; exact (hb2_ HB.out GE495.out GE496.out)⟩; clear BK495 BK496 HB hq_; have BK495 := n0_; have BK496 := n1_; have HB := n2_; clear n0_ n1_ n2_))) | (go_at_call 54; (with_reducible refine (spec_l1In.calls a2 0 2000000000000 true _ A8.out).mono ?_); rintro e w' ⟨rfl, ⟨nd, rfl⟩⟩; (try (rw [drewN_self w15]; generalize hq_ : World.drewN w15 _ = w15; have n0_ : Aside0 (w15.heap[gb495]? = some (.cells #[.int .i64 a0_0, .int .i64 a0_1] 25 (0, 0))) := ⟨by rw [← hq_]; exact (bk_ BK495.out)⟩; have n1_ : Aside0 (w15.heap[gb496]? = some (.cells #[.int .i64 0, .int .i64 0] 25 (0, 0))) := ⟨by rw [← hq_]; exact (bk_ BK496.out)⟩; have n2_ : Aside0 (Below w.heap.size w w15) := ⟨by rw [← hq_]; exact (hb2_ HB.out GE495.out GE496.out)⟩; clear BK495 BK496 HB hq_; have BK495 := n0_; have BK496 := n1_; have HB := n2_; clear n0_ n1_ n2_)); obtain ⟨hcz16_0, hcz16_1, hfz16_0, hfz16_1⟩ := bc2_ BK495.out) | ((with_reducible refine gate_callee (f := 79) rfl ?_); refine gl_ Try.func79 #[.int .i64 (wrap64 (a0_0 - a1)), .int .i64 (wrap64 (a0_1 + a2))] ?_; (with_reducible refine (spec_l1Told.calls (wrap64 (a0_0 - a1)) (wrap64 (a0_1 + a2)) t500 t501 t502 _ A10.out).mono ?_); rintro e w17 ⟨rfl, hb⟩; refine ⟨_, rfl, ?_⟩; replace BK495 := am_ (bb_ BK495.out hb); replace BK496 := am_ (bb_ BK496.out hb); replace HB := am_ (below_step (hb2_ HB.out GE495.out GE496.out) hb); (try clear hb); (try clear hb2); (try clear hk); (try clear hi); obtain ⟨hcz18_0, hcz18_1, hfz18_0, hfz18_1⟩ := bc2_ BK496.out))
    refine bodyPost_ret (results_ct rfl _ _ gb496 25 #[.int .i64 t500, .int .i64 t501] (0, 0) _ rfl (by (with_reducible repeat (first | refine blk_drewN ?_ _ | refine blk_drew ?_ | refine blk_alloc ?_ _)); refine blk_put (cs := #[.int .i64 t500, .int .i64 0]) ?_ 1 _ rfl; (with_reducible repeat (first | refine blk_drewN ?_ _ | refine blk_drew ?_ | refine blk_alloc ?_ _)); refine blk_put (cs := #[.int .i64 0, .int .i64 0]) ?_ 0 _ rfl; (with_reducible repeat (first | refine blk_drewN ?_ _ | refine blk_drew ?_ | refine blk_alloc ?_ _)); exact BK496.out) Try.underlying25 rfl (by kernel_rfl)) rfl ?_
    exact ⟨er_, hb2_ HB.out GE495.out GE496.out⟩
   ·replace c9 := Bool.eq_false_iff.mpr c9
    subst c9
    have H1 : (some (0, 0, false)) = some (r1, r2, r3) := by rw [if_neg (show ¬ (false = true) by decide)] at H; exact H
    clear H
    have H := H1
    clear H1
    simp only [Option.some.injEq, Prod.mk.injEq] at H
    obtain ⟨rfl, rfl, rfl⟩ := H
    go_enter Try.func76, Try.ntmps76
    go_wp2_with (first | ((with_reducible refine gate_dst (N := 3) rfl ?_); refine be_ (N := 3) (cs := #[.int .i64 a0_0, .int .i64 a0_1]) (t := 25) ?_; intro gb495 hg w19 hbox hb; have BK495 := am_ (hbox); have GW495 := am_ (hy_ hg (hb_ HB.out) : w.heap.size ≤ gb495); have GE495 := GW495; replace HB := am_ (below_step (hb_ HB.out) hb); clear hb hbox hg) | ((with_reducible refine gate_dst (N := 6) rfl ?_); refine be_ (N := 6) (cs := #[.int .i64 0, .int .i64 0]) (t := 25) ?_; intro gb496 hg w20 hbox hb; have BK496 := am_ (hbox); have GW496 := am_ (hy_ hg (hb1_ HB.out GE495.out) : w.heap.size ≤ gb496); have GE496 := GW496; have NB495_496 := am_ (bl_ hg BK495.out : gb495 ≠ gb496); have NB496_495 := nb_ NB495_496; replace BK495 := am_ (bb_ BK495.out hb); replace HB := am_ (below_step (hb1_ HB.out GE495.out) hb); clear hb hbox hg; have hnb21 := NB495_496.out; have hnc21 := NB496_495.out; obtain ⟨hcz22_0, hcz22_1, hfz22_0, hfz22_1⟩ := bc2_ BK495.out) | ((with_reducible refine gate_callee (f := 52) rfl ?_); refine gl_ Try.func52 #[.agg #[.int .i64 a0_0, .int .i64 a0_1]] ?_; (with_reducible refine (spec_IvalOk.calls a0_0 a0_1 true _ A4.out).mono ?_); rintro e w23 ⟨rfl, hb⟩; refine ⟨_, rfl, ?_⟩; replace BK495 := am_ (bb_ BK495.out hb); replace BK496 := am_ (bb_ BK496.out hb); replace HB := am_ (below_step (hb2_ HB.out GE495.out GE496.out) hb); (try clear hb); (try clear hb2); (try clear hk); (try clear hi)) | (go_at_call 54; (with_reducible refine (spec_l1In.calls a1 0 2000000000000 true _ A6.out).mono ?_); rintro e w' ⟨rfl, ⟨nd, rfl⟩⟩; (try (rw [drewN_self w23]; generalize hq_ : World.drewN w23 _ = w23; have n0_ : Aside0 (w23.heap[gb495]? = some (.cells #[.int .i64 a0_0, .int .i64 a0_1] 25 (0, 0))) := ⟨by rw [← hq_]; exact (bk_ BK495.out)⟩; have n1_ : Aside0 (w23.heap[gb496]? = some (.cells #[.int .i64 0, .int .i64 0] 25 (0, 0))) := ⟨by rw [← hq_]; exact (bk_ BK496.out)⟩; have n2_ : Aside0 (Below w.heap.size w w23) := ⟨by rw [← hq_]; exact (hb2_ HB.out GE495.out GE496.out)⟩; clear BK495 BK496 HB hq_; have BK495 := n0_; have BK496 := n1_; have HB := n2_; clear n0_ n1_ n2_))) | (go_at_call 54; (with_reducible refine (spec_l1In.calls a2 0 2000000000000 false _ A8.out).mono ?_); rintro e w' ⟨rfl, ⟨nd, rfl⟩⟩; (try (rw [drewN_self w23]; generalize hq_ : World.drewN w23 _ = w23; have n0_ : Aside0 (w23.heap[gb495]? = some (.cells #[.int .i64 a0_0, .int .i64 a0_1] 25 (0, 0))) := ⟨by rw [← hq_]; exact (bk_ BK495.out)⟩; have n1_ : Aside0 (w23.heap[gb496]? = some (.cells #[.int .i64 0, .int .i64 0] 25 (0, 0))) := ⟨by rw [← hq_]; exact (bk_ BK496.out)⟩; have n2_ : Aside0 (Below w.heap.size w w23) := ⟨by rw [← hq_]; exact (hb2_ HB.out GE495.out GE496.out)⟩; clear BK495 BK496 HB hq_; have BK495 := n0_; have BK496 := n1_; have HB := n2_; clear n0_ n1_ n2_)); obtain ⟨hcz24_0, hcz24_1, hfz24_0, hfz24_1⟩ := bc2_ BK496.out))
    refine bodyPost_ret (results_ct rfl _ _ gb496 25 #[.int .i64 0, .int .i64 0] (0, 0) _ rfl (by (with_reducible repeat (first | refine blk_drewN ?_ _ | refine blk_drew ?_ | refine blk_alloc ?_ _)); refine blk_put (cs := #[.int .i64 0, .int .i64 0]) ?_ 1 _ rfl; (with_reducible repeat (first | refine blk_drewN ?_ _ | refine blk_drew ?_ | refine blk_alloc ?_ _)); refine blk_put (cs := #[.int .i64 0, .int .i64 0]) ?_ 0 _ rfl; (with_reducible repeat (first | refine blk_drewN ?_ _ | refine blk_drew ?_ | refine blk_alloc ?_ _)); exact BK496.out) Try.underlying25 rfl (by kernel_rfl)) rfl ?_
    exact ⟨er_, hb2_ HB.out GE495.out GE496.out⟩
  ·replace c7 := Bool.eq_false_iff.mpr c7
   subst c7
   have H1 : (some (0, 0, false)) = some (r1, r2, r3) := by rw [if_neg (show ¬ (false = true) by decide)] at H; exact H
   clear H
   have H := H1
   clear H1
   simp only [Option.some.injEq, Prod.mk.injEq] at H
   obtain ⟨rfl, rfl, rfl⟩ := H
   go_enter Try.func76, Try.ntmps76
   go_wp2_with (first | ((with_reducible refine gate_dst (N := 3) rfl ?_); refine be_ (N := 3) (cs := #[.int .i64 a0_0, .int .i64 a0_1]) (t := 25) ?_; intro gb495 hg w25 hbox hb; have BK495 := am_ (hbox); have GW495 := am_ (hy_ hg (hb_ HB.out) : w.heap.size ≤ gb495); have GE495 := GW495; replace HB := am_ (below_step (hb_ HB.out) hb); clear hb hbox hg) | ((with_reducible refine gate_dst (N := 6) rfl ?_); refine be_ (N := 6) (cs := #[.int .i64 0, .int .i64 0]) (t := 25) ?_; intro gb496 hg w26 hbox hb; have BK496 := am_ (hbox); have GW496 := am_ (hy_ hg (hb1_ HB.out GE495.out) : w.heap.size ≤ gb496); have GE496 := GW496; have NB495_496 := am_ (bl_ hg BK495.out : gb495 ≠ gb496); have NB496_495 := nb_ NB495_496; replace BK495 := am_ (bb_ BK495.out hb); replace HB := am_ (below_step (hb1_ HB.out GE495.out) hb); clear hb hbox hg; have hnb27 := NB495_496.out; have hnc27 := NB496_495.out; obtain ⟨hcz28_0, hcz28_1, hfz28_0, hfz28_1⟩ := bc2_ BK495.out) | ((with_reducible refine gate_callee (f := 52) rfl ?_); refine gl_ Try.func52 #[.agg #[.int .i64 a0_0, .int .i64 a0_1]] ?_; (with_reducible refine (spec_IvalOk.calls a0_0 a0_1 true _ A4.out).mono ?_); rintro e w29 ⟨rfl, hb⟩; refine ⟨_, rfl, ?_⟩; replace BK495 := am_ (bb_ BK495.out hb); replace BK496 := am_ (bb_ BK496.out hb); replace HB := am_ (below_step (hb2_ HB.out GE495.out GE496.out) hb); (try clear hb); (try clear hb2); (try clear hk); (try clear hi)) | (go_at_call 54; (with_reducible refine (spec_l1In.calls a1 0 2000000000000 false _ A6.out).mono ?_); rintro e w' ⟨rfl, ⟨nd, rfl⟩⟩; (try (rw [drewN_self w29]; generalize hq_ : World.drewN w29 _ = w29; have n0_ : Aside0 (w29.heap[gb495]? = some (.cells #[.int .i64 a0_0, .int .i64 a0_1] 25 (0, 0))) := ⟨by rw [← hq_]; exact (bk_ BK495.out)⟩; have n1_ : Aside0 (w29.heap[gb496]? = some (.cells #[.int .i64 0, .int .i64 0] 25 (0, 0))) := ⟨by rw [← hq_]; exact (bk_ BK496.out)⟩; have n2_ : Aside0 (Below w.heap.size w w29) := ⟨by rw [← hq_]; exact (hb2_ HB.out GE495.out GE496.out)⟩; clear BK495 BK496 HB hq_; have BK495 := n0_; have BK496 := n1_; have HB := n2_; clear n0_ n1_ n2_)); obtain ⟨hcz30_0, hcz30_1, hfz30_0, hfz30_1⟩ := bc2_ BK496.out))
   refine bodyPost_ret (results_ct rfl _ _ gb496 25 #[.int .i64 0, .int .i64 0] (0, 0) _ rfl (by (with_reducible repeat (first | refine blk_drewN ?_ _ | refine blk_drew ?_ | refine blk_alloc ?_ _)); refine blk_put (cs := #[.int .i64 0, .int .i64 0]) ?_ 1 _ rfl; (with_reducible repeat (first | refine blk_drewN ?_ _ | refine blk_drew ?_ | refine blk_alloc ?_ _)); refine blk_put (cs := #[.int .i64 0, .int .i64 0]) ?_ 0 _ rfl; (with_reducible repeat (first | refine blk_drewN ?_ _ | refine blk_drew ?_ | refine blk_alloc ?_ _)); exact BK496.out) Try.underlying25 rfl (by kernel_rfl)) rfl ?_
   exact ⟨er_, hb2_ HB.out GE495.out GE496.out⟩
 ·replace c5 := Bool.eq_false_iff.mpr c5
  subst c5
  have H1 : (some (0, 0, false)) = some (r1, r2, r3) := by rw [if_neg (show ¬ (false = true) by decide)] at H; exact H
  clear H
  have H := H1
  clear H1
  simp only [Option.some.injEq, Prod.mk.injEq] at H
  obtain ⟨rfl, rfl, rfl⟩ := H
  go_enter Try.func76, Try.ntmps76
  go_wp2_with (first | ((with_reducible refine gate_dst (N := 3) rfl ?_); refine be_ (N := 3) (cs := #[.int .i64 a0_0, .int .i64 a0_1]) (t := 25) ?_; intro gb495 hg w31 hbox hb; have BK495 := am_ (hbox); have GW495 := am_ (hy_ hg (hb_ HB.out) : w.heap.size ≤ gb495); have GE495 := GW495; replace HB := am_ (below_step (hb_ HB.out) hb); clear hb hbox hg) | ((with_reducible refine gate_dst (N := 6) rfl ?_); refine be_ (N := 6) (cs := #[.int .i64 0, .int .i64 0]) (t := 25) ?_; intro gb496 hg w32 hbox hb; have BK496 := am_ (hbox); have GW496 := am_ (hy_ hg (hb1_ HB.out GE495.out) : w.heap.size ≤ gb496); have GE496 := GW496; have NB495_496 := am_ (bl_ hg BK495.out : gb495 ≠ gb496); have NB496_495 := nb_ NB495_496; replace BK495 := am_ (bb_ BK495.out hb); replace HB := am_ (below_step (hb1_ HB.out GE495.out) hb); clear hb hbox hg; have hnb33 := NB495_496.out; have hnc33 := NB496_495.out; obtain ⟨hcz34_0, hcz34_1, hfz34_0, hfz34_1⟩ := bc2_ BK495.out) | ((with_reducible refine gate_callee (f := 52) rfl ?_); refine gl_ Try.func52 #[.agg #[.int .i64 a0_0, .int .i64 a0_1]] ?_; (with_reducible refine (spec_IvalOk.calls a0_0 a0_1 false _ A4.out).mono ?_); rintro e w35 ⟨rfl, hb⟩; refine ⟨_, rfl, ?_⟩; replace BK495 := am_ (bb_ BK495.out hb); replace BK496 := am_ (bb_ BK496.out hb); replace HB := am_ (below_step (hb2_ HB.out GE495.out GE496.out) hb); (try clear hb); (try clear hb2); (try clear hk); (try clear hi); obtain ⟨hcz36_0, hcz36_1, hfz36_0, hfz36_1⟩ := bc2_ BK496.out))
  refine bodyPost_ret (results_ct rfl _ _ gb496 25 #[.int .i64 0, .int .i64 0] (0, 0) _ rfl (by (with_reducible repeat (first | refine blk_drewN ?_ _ | refine blk_drew ?_ | refine blk_alloc ?_ _)); refine blk_put (cs := #[.int .i64 0, .int .i64 0]) ?_ 1 _ rfl; (with_reducible repeat (first | refine blk_drewN ?_ _ | refine blk_drew ?_ | refine blk_alloc ?_ _)); refine blk_put (cs := #[.int .i64 0, .int .i64 0]) ?_ 0 _ rfl; (with_reducible repeat (first | refine blk_drewN ?_ _ | refine blk_drew ?_ | refine blk_alloc ?_ _)); exact BK496.out) Try.underlying25 rfl (by kernel_rfl)) rfl ?_
  exact ⟨er_, hb2_ HB.out GE495.out GE496.out⟩
def spec_GateSpan.f (k : Nat) (a0_0 : Int) (a0_1 : Int) (a1_0 : Int) (a1_1 : Int) (a2 : Int) : Option (Int × Int × Bool) := (spec_MostTime.f k a1_0 a1_1 a2).bind fun bt506 => (if bt506.2 = true then (if a2 < 1 then (some (0, 0, false)) else ((spec_Spread.f a0_0 a0_1 0 bt506.1).bind fun bt508 => (some (bt508.1, bt508.2.1, bt508.2.2)))) else (some (0, 0, false)))
set_option maxHeartbeats 8000000 in
set_option maxRecDepth 100000 in
theorem spec_GateSpan.calls (k : Nat) (a0_0 : Int) (a0_1 : Int) (a1_0 : Int) (a1_1 : Int) (a2 : Int) (r1 : Int) (r2 : Int) (r3 : Bool) (w : World) (h : spec_GateSpan.f k a0_0 a0_1 a1_0 a1_1 a2 = some (r1, r2, r3)) :
  Calls Try.prog 24 #[.agg #[.int .i64 a0_0, .int .i64 a0_1], .agg #[.int .i64 a1_0, .int .i64 a1_1], .int .i64 a2] w fun e w' => e = .returned (.tuple #[.agg #[.int .i64 r1, .int .i64 r2], .bool r3]) ∧ Below w.heap.size w w' := by
 have hu25 := Try.underlying25
 have hu27 := Try.underlying27
 have HB := am_ (Below.refl w.heap.size w)
 have H : ((spec_MostTime.f k a1_0 a1_1 a2).bind fun bt506 => (if bt506.2 = true then (if a2 < 1 then (some (0, 0, false)) else ((spec_Spread.f a0_0 a0_1 0 bt506.1).bind fun bt508 => (some (bt508.1, bt508.2.1, bt508.2.2)))) else (some (0, 0, false)))) = some (r1, r2, r3) := h
 clear h
 replace H := Option.bind_eq_some_iff.mp H
 obtain ⟨⟨t506, t507⟩, A40, H⟩ := H
 replace H : (if t507 = true then (if a2 < 1 then (some (0, 0, false)) else ((spec_Spread.f a0_0 a0_1 0 t506).bind fun bt508 => (some (bt508.1, bt508.2.1, bt508.2.2)))) else (some (0, 0, false))) = some (r1, r2, r3) := H
 have A4 := Aside0.mk A40
 clear A40
 by_cases c5 : t507 = true
 ·subst c5
  have H1 : (if a2 < 1 then (some (0, 0, false)) else ((spec_Spread.f a0_0 a0_1 0 t506).bind fun bt508 => (some (bt508.1, bt508.2.1, bt508.2.2)))) = some (r1, r2, r3) := by rw [if_pos rfl] at H; exact H
  clear H
  have H := H1
  clear H1
  by_cases c6 : a2 < 1
  ·rw [if_pos c6] at H
   have c6b0 : decide (a2 < 1) = true := decide_eq_true c6
   clear c6
   simp only [Option.some.injEq, Prod.mk.injEq] at H
   obtain ⟨rfl, rfl, rfl⟩ := H
   go_enter Try.func24, Try.ntmps24
   go_wp2_with (first | ((with_reducible refine gate_dst (N := 3) rfl ?_); refine be_ (N := 3) (cs := #[.int .i64 a0_0, .int .i64 a0_1]) (t := 25) ?_; intro gb503 hg w7 hbox hb; have BK503 := am_ (hbox); have GW503 := am_ (hy_ hg (hb_ HB.out) : w.heap.size ≤ gb503); have GE503 := GW503; replace HB := am_ (below_step (hb_ HB.out) hb); clear hb hbox hg) | ((with_reducible refine gate_dst (N := 4) rfl ?_); refine be_ (N := 4) (cs := #[.int .i64 a1_0, .int .i64 a1_1]) (t := 27) ?_; intro gb504 hg w8 hbox hb; have BK504 := am_ (hbox); have GW504 := am_ (hy_ hg (hb1_ HB.out GE503.out) : w.heap.size ≤ gb504); have GE504 := GW504; have NB503_504 := am_ (bl_ hg BK503.out : gb503 ≠ gb504); have NB504_503 := nb_ NB503_504; replace BK503 := am_ (bb_ BK503.out hb); replace HB := am_ (below_step (hb1_ HB.out GE503.out) hb); clear hb hbox hg) | ((with_reducible refine gate_dst (N := 6) rfl ?_); refine be_ (N := 6) (cs := #[.int .i64 0, .int .i64 0]) (t := 25) ?_; intro gb505 hg w9 hbox hb; have BK505 := am_ (hbox); have GW505 := am_ (hy_ hg (hb2_ HB.out GE503.out GE504.out) : w.heap.size ≤ gb505); have GE505 := GW505; have NB503_505 := am_ (bl_ hg BK503.out : gb503 ≠ gb505); have NB505_503 := nb_ NB503_505; have NB504_505 := am_ (bl_ hg BK504.out : gb504 ≠ gb505); have NB505_504 := nb_ NB504_505; replace BK503 := am_ (bb_ BK503.out hb); replace BK504 := am_ (bb_ BK504.out hb); replace HB := am_ (below_step (hb2_ HB.out GE503.out GE504.out) hb); clear hb hbox hg; have hnb10 := NB504_503.out; have hnc10 := NB503_504.out; have hnb11 := NB504_505.out; have hnc11 := NB505_504.out; obtain ⟨hcz12_0, hcz12_1, hfz12_0, hfz12_1⟩ := bc2_ BK504.out) | ((with_reducible refine gate_callee (f := 13) rfl ?_); refine gl_ Try.func13 #[.agg #[.int .i64 a1_0, .int .i64 a1_1], .int .i64 a2] ?_; (with_reducible refine (spec_MostTime.calls k a1_0 a1_1 a2 t506 true _ A4.out).mono ?_); rintro e w13 ⟨rfl, hb⟩; refine ⟨_, rfl, ?_⟩; replace BK503 := am_ (bb_ BK503.out hb); replace BK504 := am_ (bb_ BK504.out hb); replace BK505 := am_ (bb_ BK505.out hb); replace HB := am_ (below_step (hb3_ HB.out GE503.out GE504.out GE505.out) hb); (try clear hb); (try clear hb2); (try clear hk); (try clear hi); have hnb14 := NB505_503.out; have hnc14 := NB503_505.out; obtain ⟨hcz15_0, hcz15_1, hfz15_0, hfz15_1⟩ := bc2_ BK505.out))
   refine bodyPost_ret (results_ct rfl _ _ gb505 25 #[.int .i64 0, .int .i64 0] (0, 0) _ rfl (by (with_reducible repeat (first | refine blk_drewN ?_ _ | refine blk_drew ?_ | refine blk_alloc ?_ _)); refine blk_put (cs := #[.int .i64 0, .int .i64 0]) ?_ 1 _ rfl; (with_reducible repeat (first | refine blk_drewN ?_ _ | refine blk_drew ?_ | refine blk_alloc ?_ _)); refine blk_put (cs := #[.int .i64 0, .int .i64 0]) ?_ 0 _ rfl; (with_reducible repeat (first | refine blk_drewN ?_ _ | refine blk_drew ?_ | refine blk_alloc ?_ _)); exact BK505.out) Try.underlying25 rfl (by kernel_rfl)) rfl ?_
   exact ⟨er_, hb3_ HB.out GE503.out GE504.out GE505.out⟩
  ·rw [if_neg c6] at H
   have c6b0 : decide (a2 < 1) = false := decide_eq_false c6
   clear c6
   replace H := Option.bind_eq_some_iff.mp H
   obtain ⟨⟨t508, t509, t510⟩, A160, H⟩ := H
   replace H : (some (t508, t509, t510)) = some (r1, r2, r3) := H
   have A16 := Aside0.mk A160
   clear A160
   simp only [Option.some.injEq, Prod.mk.injEq] at H
   obtain ⟨rfl, rfl, rfl⟩ := H
   go_enter Try.func24, Try.ntmps24
   go_wp2_with (first | ((with_reducible refine gate_dst (N := 3) rfl ?_); refine be_ (N := 3) (cs := #[.int .i64 a0_0, .int .i64 a0_1]) (t := 25) ?_; intro gb503 hg w17 hbox hb; have BK503 := am_ (hbox); have GW503 := am_ (hy_ hg (hb_ HB.out) : w.heap.size ≤ gb503); have GE503 := GW503; replace HB := am_ (below_step (hb_ HB.out) hb); clear hb hbox hg) | ((with_reducible refine gate_dst (N := 4) rfl ?_); refine be_ (N := 4) (cs := #[.int .i64 a1_0, .int .i64 a1_1]) (t := 27) ?_; intro gb504 hg w18 hbox hb; have BK504 := am_ (hbox); have GW504 := am_ (hy_ hg (hb1_ HB.out GE503.out) : w.heap.size ≤ gb504); have GE504 := GW504; have NB503_504 := am_ (bl_ hg BK503.out : gb503 ≠ gb504); have NB504_503 := nb_ NB503_504; replace BK503 := am_ (bb_ BK503.out hb); replace HB := am_ (below_step (hb1_ HB.out GE503.out) hb); clear hb hbox hg) | ((with_reducible refine gate_dst (N := 6) rfl ?_); refine be_ (N := 6) (cs := #[.int .i64 0, .int .i64 0]) (t := 25) ?_; intro gb505 hg w19 hbox hb; have BK505 := am_ (hbox); have GW505 := am_ (hy_ hg (hb2_ HB.out GE503.out GE504.out) : w.heap.size ≤ gb505); have GE505 := GW505; have NB503_505 := am_ (bl_ hg BK503.out : gb503 ≠ gb505); have NB505_503 := nb_ NB503_505; have NB504_505 := am_ (bl_ hg BK504.out : gb504 ≠ gb505); have NB505_504 := nb_ NB504_505; replace BK503 := am_ (bb_ BK503.out hb); replace BK504 := am_ (bb_ BK504.out hb); replace HB := am_ (below_step (hb2_ HB.out GE503.out GE504.out) hb); clear hb hbox hg; have hnb20 := NB504_503.out; have hnc20 := NB503_504.out; have hnb21 := NB504_505.out; have hnc21 := NB505_504.out; obtain ⟨hcz22_0, hcz22_1, hfz22_0, hfz22_1⟩ := bc2_ BK504.out) | ((with_reducible refine gate_callee (f := 13) rfl ?_); refine gl_ Try.func13 #[.agg #[.int .i64 a1_0, .int .i64 a1_1], .int .i64 a2] ?_; (with_reducible refine (spec_MostTime.calls k a1_0 a1_1 a2 t506 true _ A4.out).mono ?_); rintro e w23 ⟨rfl, hb⟩; refine ⟨_, rfl, ?_⟩; replace BK503 := am_ (bb_ BK503.out hb); replace BK504 := am_ (bb_ BK504.out hb); replace BK505 := am_ (bb_ BK505.out hb); replace HB := am_ (below_step (hb3_ HB.out GE503.out GE504.out GE505.out) hb); (try clear hb); (try clear hb2); (try clear hk); (try clear hi); have hnb24 := NB503_505.out; have hnc24 := NB505_503.out; obtain ⟨hcz25_0, hcz25_1, hfz25_0, hfz25_1⟩ := bc2_ BK503.out) | ((with_reducible refine gate_callee (f := 76) rfl ?_); refine gl_ Try.func76 #[.agg #[.int .i64 a0_0, .int .i64 a0_1], .int .i64 0, .int .i64 t506] ?_; (with_reducible refine (spec_Spread.calls a0_0 a0_1 0 t506 t508 t509 t510 _ A16.out).mono ?_); rintro e w26 ⟨rfl, hb⟩; refine ⟨_, rfl, ?_⟩; replace BK503 := am_ (bb_ BK503.out hb); replace BK504 := am_ (bb_ BK504.out hb); replace BK505 := am_ (bb_ BK505.out hb); replace HB := am_ (below_step (hb3_ HB.out GE503.out GE504.out GE505.out) hb); (try clear hb); (try clear hb2); (try clear hk); (try clear hi); obtain ⟨hcz27_0, hcz27_1, hfz27_0, hfz27_1⟩ := bc2_ BK505.out))
   refine bodyPost_ret (results_ct rfl _ _ gb505 25 #[.int .i64 t508, .int .i64 t509] (0, 0) _ rfl (by (with_reducible repeat (first | refine blk_drewN ?_ _ | refine blk_drew ?_ | refine blk_alloc ?_ _)); refine blk_put (cs := #[.int .i64 t508, .int .i64 0]) ?_ 1 _ rfl; (with_reducible repeat (first | refine blk_drewN ?_ _ | refine blk_drew ?_ | refine blk_alloc ?_ _)); refine blk_put (cs := #[.int .i64 0, .int .i64 0]) ?_ 0 _ rfl; (with_reducible repeat (first | refine blk_drewN ?_ _ | refine blk_drew ?_ | refine blk_alloc ?_ _)); exact BK505.out) Try.underlying25 rfl (by kernel_rfl)) rfl ?_
   exact ⟨er_, hb3_ HB.out GE503.out GE504.out GE505.out⟩
 ·replace c5 := Bool.eq_false_iff.mpr c5
  subst c5
  have H1 : (some (0, 0, false)) = some (r1, r2, r3) := by rw [if_neg (show ¬ (false = true) by decide)] at H; exact H
  clear H
  have H := H1
  clear H1
  simp only [Option.some.injEq, Prod.mk.injEq] at H
  obtain ⟨rfl, rfl, rfl⟩ := H
  go_enter Try.func24, Try.ntmps24
  go_wp2_with (first | ((with_reducible refine gate_dst (N := 3) rfl ?_); refine be_ (N := 3) (cs := #[.int .i64 a0_0, .int .i64 a0_1]) (t := 25) ?_; intro gb503 hg w28 hbox hb; have BK503 := am_ (hbox); have GW503 := am_ (hy_ hg (hb_ HB.out) : w.heap.size ≤ gb503); have GE503 := GW503; replace HB := am_ (below_step (hb_ HB.out) hb); clear hb hbox hg) | ((with_reducible refine gate_dst (N := 4) rfl ?_); refine be_ (N := 4) (cs := #[.int .i64 a1_0, .int .i64 a1_1]) (t := 27) ?_; intro gb504 hg w29 hbox hb; have BK504 := am_ (hbox); have GW504 := am_ (hy_ hg (hb1_ HB.out GE503.out) : w.heap.size ≤ gb504); have GE504 := GW504; have NB503_504 := am_ (bl_ hg BK503.out : gb503 ≠ gb504); have NB504_503 := nb_ NB503_504; replace BK503 := am_ (bb_ BK503.out hb); replace HB := am_ (below_step (hb1_ HB.out GE503.out) hb); clear hb hbox hg) | ((with_reducible refine gate_dst (N := 6) rfl ?_); refine be_ (N := 6) (cs := #[.int .i64 0, .int .i64 0]) (t := 25) ?_; intro gb505 hg w30 hbox hb; have BK505 := am_ (hbox); have GW505 := am_ (hy_ hg (hb2_ HB.out GE503.out GE504.out) : w.heap.size ≤ gb505); have GE505 := GW505; have NB503_505 := am_ (bl_ hg BK503.out : gb503 ≠ gb505); have NB505_503 := nb_ NB503_505; have NB504_505 := am_ (bl_ hg BK504.out : gb504 ≠ gb505); have NB505_504 := nb_ NB504_505; replace BK503 := am_ (bb_ BK503.out hb); replace BK504 := am_ (bb_ BK504.out hb); replace HB := am_ (below_step (hb2_ HB.out GE503.out GE504.out) hb); clear hb hbox hg; have hnb31 := NB504_503.out; have hnc31 := NB503_504.out; have hnb32 := NB504_505.out; have hnc32 := NB505_504.out; obtain ⟨hcz33_0, hcz33_1, hfz33_0, hfz33_1⟩ := bc2_ BK504.out) | ((with_reducible refine gate_callee (f := 13) rfl ?_); refine gl_ Try.func13 #[.agg #[.int .i64 a1_0, .int .i64 a1_1], .int .i64 a2] ?_; (with_reducible refine (spec_MostTime.calls k a1_0 a1_1 a2 t506 false _ A4.out).mono ?_); rintro e w34 ⟨rfl, hb⟩; refine ⟨_, rfl, ?_⟩; replace BK503 := am_ (bb_ BK503.out hb); replace BK504 := am_ (bb_ BK504.out hb); replace BK505 := am_ (bb_ BK505.out hb); replace HB := am_ (below_step (hb3_ HB.out GE503.out GE504.out GE505.out) hb); (try clear hb); (try clear hb2); (try clear hk); (try clear hi); have hnb35 := NB505_503.out; have hnc35 := NB503_505.out; obtain ⟨hcz36_0, hcz36_1, hfz36_0, hfz36_1⟩ := bc2_ BK505.out))
  refine bodyPost_ret (results_ct rfl _ _ gb505 25 #[.int .i64 0, .int .i64 0] (0, 0) _ rfl (by (with_reducible repeat (first | refine blk_drewN ?_ _ | refine blk_drew ?_ | refine blk_alloc ?_ _)); refine blk_put (cs := #[.int .i64 0, .int .i64 0]) ?_ 1 _ rfl; (with_reducible repeat (first | refine blk_drewN ?_ _ | refine blk_drew ?_ | refine blk_alloc ?_ _)); refine blk_put (cs := #[.int .i64 0, .int .i64 0]) ?_ 0 _ rfl; (with_reducible repeat (first | refine blk_drewN ?_ _ | refine blk_drew ?_ | refine blk_alloc ?_ _)); exact BK505.out) Try.underlying25 rfl (by kernel_rfl)) rfl ?_
  exact ⟨er_, hb3_ HB.out GE503.out GE504.out GE505.out⟩
def spec_InSlot.j0 : Nat → Int → Int → Int → Bool → Int → Int → List (S42) → Option (Int × Int × Bool)
 | 0, _, _, _, _, _, _, _ => none
 | k + 1, x3, x11, x12, x39, x512000, x512001, x512002 => if x39 = true then (some (0, 0, false)) else ((spec_Occurrence.f k x512000 x512001 x512002 x11 x12).bind fun bt516 => (if x3 > bt516.2.1 then (some (0, 0, false)) else (some (x11, x12, true))))
def spec_InSlot.f (k : Nat) (a0_0 : Int) (a0_1 : Int) (l0_2 : List (S42)) (a1 : Int) (a2 : Int) (a3 : Int) : Option (Int × Int × Bool) := (spec_SlotAt.f k a0_0 a0_1 l0_2 a2).bind fun bt512 => (if bt512.2.2 = true then (if 0 ≤ bt512.1 then (if bt512.1 < (l0_2.length : Int) then (if ((rd_T42 l0_2 bt512.1).f0) = a1 then (spec_InSlot.j0 k a3 bt512.1 bt512.2.1 (decide (a2 > a3)) a0_0 a0_1 l0_2) else (spec_InSlot.j0 k a3 bt512.1 bt512.2.1 true a0_0 a0_1 l0_2)) else (none)) else (none)) else (spec_InSlot.j0 k a3 bt512.1 bt512.2.1 true a0_0 a0_1 l0_2))
set_option maxHeartbeats 8000000 in
set_option maxRecDepth 100000 in
theorem spec_InSlot.calls (k : Nat) (a0_0 : Int) (a0_1 : Int) (A0_2 : Option Addr) (c0_2 : Nat) (l0_2 : List (S42)) (a1 : Int) (a2 : Int) (a3 : Int) (r1 : Int) (r2 : Int) (r3 : Bool) (w : World) (hr0_2 : Kd.C k42 w A0_2 l0_2.length l0_2) (hc0_2 : l0_2.length ≤ c0_2) (h : spec_InSlot.f k a0_0 a0_1 l0_2 a1 a2 a3 = some (r1, r2, r3)) :
  Calls Try.prog 57 #[.agg #[.int .i64 a0_0, .int .i64 a0_1, .slice A0_2 l0_2.length c0_2], .int .i64 a1, .int .i64 a2, .int .i64 a3] w fun e w' => e = .returned (.tuple #[.int .i64 r1, .int .i64 r2, .bool r3]) ∧ Below w.heap.size w w' := by
 have hu30 := Try.underlying30
 have hu25 := Try.underlying25
 have HR0_2 := Aside0.mk hr0_2
 have HC0_2 := Aside0.mk hc0_2
 clear hr0_2 hc0_2
 have HB := am_ (Below.refl w.heap.size w)
 have H : ((spec_SlotAt.f k a0_0 a0_1 l0_2 a2).bind fun bt512 => (if bt512.2.2 = true then (if 0 ≤ bt512.1 then (if bt512.1 < (l0_2.length : Int) then (if ((rd_T42 l0_2 bt512.1).f0) = a1 then (spec_InSlot.j0 k a3 bt512.1 bt512.2.1 (decide (a2 > a3)) a0_0 a0_1 l0_2) else (spec_InSlot.j0 k a3 bt512.1 bt512.2.1 true a0_0 a0_1 l0_2)) else (none)) else (none)) else (spec_InSlot.j0 k a3 bt512.1 bt512.2.1 true a0_0 a0_1 l0_2))) = some (r1, r2, r3) := h
 clear h
 replace H := Option.bind_eq_some_iff.mp H
 obtain ⟨⟨t512, t513, t514⟩, A50, H⟩ := H
 replace H : (if t514 = true then (if 0 ≤ t512 then (if t512 < (l0_2.length : Int) then (if ((rd_T42 l0_2 t512).f0) = a1 then (spec_InSlot.j0 k a3 t512 t513 (decide (a2 > a3)) a0_0 a0_1 l0_2) else (spec_InSlot.j0 k a3 t512 t513 true a0_0 a0_1 l0_2)) else (none)) else (none)) else (spec_InSlot.j0 k a3 t512 t513 true a0_0 a0_1 l0_2)) = some (r1, r2, r3) := H
 have A5 := Aside0.mk A50
 clear A50
 have HC6 := Aside0.mk H
 clear H
 go_enter Try.func57, Try.ntmps57
 go_upto_region 2 with (first | ((with_reducible refine gate_dst (N := 4) rfl ?_); refine be_ (N := 4) (cs := #[.int .i64 a0_0, .int .i64 a0_1, .slice A0_2 l0_2.length c0_2]) (t := 30) ?_; intro gb511 hg w7 hbox hb; have BK511 := am_ (hbox); have GW511 := am_ (hy_ hg (hb_ HB.out) : w.heap.size ≤ gb511); have GE511 := GW511; replace HB := am_ (below_step (hb_ HB.out) hb); clear hb hbox hg; obtain ⟨hcz8_0, hcz8_1, hcz8_2, hfz8_0, hfz8_1, hfz8_2⟩ := bc3_ BK511.out) | ((with_reducible refine gate_callee (f := 42) rfl ?_); refine gl_ Try.func42 #[.agg #[.int .i64 a0_0, .int .i64 a0_1, .slice A0_2 l0_2.length c0_2], .int .i64 a2] ?_; (with_reducible refine (spec_SlotAt.calls k a0_0 a0_1 _ _ l0_2 a2 t512 t513 t514 _ ?side1 ?side2 A5.out).mono ?_); (case side1 => exact kc_ (Kd.C_below HR0_2.out HB.out)); (case side2 => exact HC0_2.out); rintro e w9 ⟨rfl, hb⟩; refine ⟨_, rfl, ?_⟩; replace BK511 := am_ (bb_ BK511.out hb); replace HB := am_ (below_step (hb1_ HB.out GE511.out) hb); (try clear hb); (try clear hb2); (try clear hk); (try clear hi)))
 (try simp only [Act.put, List.setIfInBounds_toArray, List.set_cons_zero, List.set_cons_succ])
 go_cut [39] (fun v39 wc => ∃ (kq : Nat) (x39_5 : Bool), v39 = .bool x39_5 ∧ Aside0 (spec_InSlot.j0 kq a3 t512 t513 x39_5 a0_0 a0_1 l0_2 = some (r1, r2, r3)) ∧ Aside0 (kq ≤ k) ∧ Aside0 (wc.heap[gb511]? = some (.cells #[.int .i64 a0_0, .int .i64 a0_1, (.slice A0_2 l0_2.length c0_2)] 30 (0, 0))) ∧ Aside0 (Below w.heap.size w wc))
 case first =>
  have H := HC6.out
  clear HC6
  by_cases c10 : t514 = true
  ·subst c10
   have H1 : (if 0 ≤ t512 then (if t512 < (l0_2.length : Int) then (if ((rd_T42 l0_2 t512).f0) = a1 then (spec_InSlot.j0 k a3 t512 t513 (decide (a2 > a3)) a0_0 a0_1 l0_2) else (spec_InSlot.j0 k a3 t512 t513 true a0_0 a0_1 l0_2)) else (none)) else (none)) = some (r1, r2, r3) := by rw [if_pos rfl] at H; exact H
   clear H
   have H := H1
   clear H1
   by_cases c11 : 0 ≤ t512
   ·rw [if_pos c11] at H
    have c11b0 : decide (0 ≤ t512) = true := decide_eq_true c11
    clear c11
    (first | rw [c11b0] | (simp only [i64_w, i32_w]; rw [c11b0]) | skip)
    by_cases c12 : t512 < (l0_2.length : Int)
    ·rw [if_pos c12] at H
     have c12b0 : decide (t512 < (l0_2.length : Int)) = true := decide_eq_true c12
     clear c12
     by_cases c13 : ((rd_T42 l0_2 t512).f0) = a1
     ·rw [if_pos c13] at H
      have c13b0 : (((rd_T42 l0_2 t512).f0) == a1) = true := beq_iff_eq.mpr c13
      have c13b1 : (((rd_T42 l0_2 t512).f0) != a1) = false := bne_eq_false_iff_eq.mpr c13
      clear c13
      have H' := Aside0.mk H
      clear H
      have hcz14_0 := bc_ BK511.out 0 (.int .i64 a0_0) rfl
      have hcz14_1 := bc_ BK511.out 1 (.int .i64 a0_1) rfl
      have hcz14_2 := bc_ BK511.out 2 (.slice A0_2 l0_2.length c0_2) rfl
      have hfz14_0 := blk_frozen BK511.out 0
      have hfz14_1 := blk_frozen BK511.out 1
      have hfz14_2 := blk_frozen BK511.out 2
      have p515 : 0 ≤ (t512 : Int) := of_decide_eq_true (by first | (with_reducible assumption) | assumption)
      have q515 : t512 < (l0_2.length : Int) := of_decide_eq_true (by first | (with_reducible assumption) | assumption)
      obtain ⟨ad515, e515, hx515_0, hx515_1⟩ := at_T42 HR0_2.out t512 p515 q515
      cases e515
      replace hx515_0 := (HB.out.cell (World.block_lt_of_cell? w _ hx515_0)).trans hx515_0
      replace hx515_1 := (HB.out.cell (World.block_lt_of_cell? w _ hx515_1)).trans hx515_1
      replace p515 := eq_true p515
      replace q515 := eq_true q515
      go_wp2
      go_meet
      case rel => exact ⟨_, (decide (a2 > a3)), (by first | rfl | (simp; done) | (simp [*]; done)), H', ⟨by first | omega | exact Nat.le_refl _⟩, ⟨bk_ BK511.out⟩, ⟨hb1_ HB.out GE511.out⟩⟩
     ·rw [if_neg c13] at H
      have c13b0 : (((rd_T42 l0_2 t512).f0) == a1) = false := beq_eq_false_iff_ne.mpr c13
      have c13b1 : (((rd_T42 l0_2 t512).f0) != a1) = true := bne_iff_ne.mpr c13
      have H' := Aside0.mk H
      clear H
      have hcz15_0 := bc_ BK511.out 0 (.int .i64 a0_0) rfl
      have hcz15_1 := bc_ BK511.out 1 (.int .i64 a0_1) rfl
      have hcz15_2 := bc_ BK511.out 2 (.slice A0_2 l0_2.length c0_2) rfl
      have hfz15_0 := blk_frozen BK511.out 0
      have hfz15_1 := blk_frozen BK511.out 1
      have hfz15_2 := blk_frozen BK511.out 2
      have p515 : 0 ≤ (t512 : Int) := of_decide_eq_true (by first | (with_reducible assumption) | assumption)
      have q515 : t512 < (l0_2.length : Int) := of_decide_eq_true (by first | (with_reducible assumption) | assumption)
      obtain ⟨ad515, e515, hx515_0, hx515_1⟩ := at_T42 HR0_2.out t512 p515 q515
      cases e515
      replace hx515_0 := (HB.out.cell (World.block_lt_of_cell? w _ hx515_0)).trans hx515_0
      replace hx515_1 := (HB.out.cell (World.block_lt_of_cell? w _ hx515_1)).trans hx515_1
      replace p515 := eq_true p515
      replace q515 := eq_true q515
      go_wp2
      go_meet
      case rel => exact ⟨_, (true), (by first | rfl | (simp; done) | (simp [*]; done)), H', ⟨by first | omega | exact Nat.le_refl _⟩, ⟨bk_ BK511.out⟩, ⟨hb1_ HB.out GE511.out⟩⟩
    ·rw [if_neg c12] at H
     exact absurd H (by simp)
   ·rw [if_neg c11] at H
    exact absurd H (by simp)
  ·replace c10 := Bool.eq_false_iff.mpr c10
   subst c10
   have H1 : (spec_InSlot.j0 k a3 t512 t513 true a0_0 a0_1 l0_2) = some (r1, r2, r3) := by rw [if_neg (show ¬ (false = true) by decide)] at H; exact H
   clear H
   have H := H1
   clear H1
   have H' := Aside0.mk H
   clear H
   go_wp2
   go_meet
   case rel => exact ⟨_, (true), (by first | rfl | (simp; done) | (simp [*]; done)), H', ⟨by first | omega | exact Nat.le_refl _⟩, ⟨bk_ BK511.out⟩, ⟨hb1_ HB.out GE511.out⟩⟩
 case rest =>
  clear HC6
  try clear c1
  try clear p2
  try clear c4
  try clear c5
  try clear p5
  try clear q5
  try clear hx5
  try clear c10
  try clear c11
  try clear c11b0
  try clear c12
  try clear c12b0
  try clear c13
  try clear c13b0
  try clear c13b1
  try clear hcz14_0
  try clear hcz14_1
  try clear hcz14_2
  try clear hcz15_0
  try clear hcz15_1
  try clear hcz15_2
  try clear hcz8_0
  try clear hcz8_1
  try clear hcz8_2
  try clear hfz14_0
  try clear hfz14_1
  try clear hfz14_2
  try clear hfz15_0
  try clear hfz15_1
  try clear hfz15_2
  try clear hfz8_0
  try clear hfz8_1
  try clear hfz8_2
  try clear hx515_0
  try clear hx515_1
  try clear p515
  try clear q515
  obtain ⟨kq, x39_5, rfl, HA, HJ5, BK511, HB⟩ := hcut
  cases kq with
  | zero => exact absurd HA.out (by simp [spec_InSlot.j0])
  | succ kj5 =>
   have H := HA.out
   clear HA
   simp only [spec_InSlot.j0] at H
   by_cases c16 : x39_5 = true
   ·subst c16
    have H1 : (some (0, 0, false)) = some (r1, r2, r3) := by rw [if_pos rfl] at H; exact H
    clear H
    have H := H1
    clear H1
    simp only [Option.some.injEq, Prod.mk.injEq] at H
    obtain ⟨rfl, rfl, rfl⟩ := H
    go_wp2
    go_ret3
    exact ⟨er_, hb1_ HB.out GE511.out⟩
   ·replace c16 := Bool.eq_false_iff.mpr c16
    subst c16
    have H1 : ((spec_Occurrence.f kj5 a0_0 a0_1 l0_2 t512 t513).bind fun bt516 => (if a3 > bt516.2.1 then (some (0, 0, false)) else (some (t512, t513, true)))) = some (r1, r2, r3) := by rw [if_neg (show ¬ (false = true) by decide)] at H; exact H
    clear H
    have H := H1
    clear H1
    replace H := Option.bind_eq_some_iff.mp H
    obtain ⟨⟨t516, t517, t518⟩, A170, H⟩ := H
    replace H : (if a3 > t517 then (some (0, 0, false)) else (some (t512, t513, true))) = some (r1, r2, r3) := H
    have A17 := Aside0.mk A170
    clear A170
    by_cases c18 : a3 > t517
    ·rw [if_pos c18] at H
     have c18b0 : decide (t517 < a3) = true := decide_eq_true c18
     clear c18
     simp only [Option.some.injEq, Prod.mk.injEq] at H
     obtain ⟨rfl, rfl, rfl⟩ := H
     have hcz19_0 := bc_ BK511.out 0 (.int .i64 a0_0) rfl
     have hcz19_1 := bc_ BK511.out 1 (.int .i64 a0_1) rfl
     have hcz19_2 := bc_ BK511.out 2 (.slice A0_2 l0_2.length c0_2) rfl
     have hfz19_0 := blk_frozen BK511.out 0
     have hfz19_1 := blk_frozen BK511.out 1
     have hfz19_2 := blk_frozen BK511.out 2
     go_wp2_with (first | ((with_reducible refine gate_callee (f := 26) rfl ?_); refine gl_ Try.func26 #[.agg #[.int .i64 a0_0, .int .i64 a0_1, .slice A0_2 l0_2.length c0_2], .int .i64 t512, .int .i64 t513] ?_; (with_reducible refine (spec_Occurrence.calls kj5 a0_0 a0_1 _ _ l0_2 t512 t513 t516 t517 t518 _ ?side1 ?side2 A17.out).mono ?_); (case side1 => exact kc_ (Kd.C_below HR0_2.out HB.out)); (case side2 => exact HC0_2.out); rintro e w20 ⟨rfl, hb⟩; refine ⟨_, rfl, ?_⟩; replace BK511 := am_ (bb_ BK511.out hb); replace HB := am_ (below_step (hb1_ HB.out GE511.out) hb); (try clear hb); (try clear hb2); (try clear hk); (try clear hi)) | ((with_reducible refine gate_dst (N := 14) rfl ?_); refine be_ (N := 14) (cs := #[.int .i64 0, .int .i64 0]) (t := 25) ?_; intro gb519 hg w21 hbox hb; have BK519 := am_ (hbox); have GW519 := am_ (hy_ hg (hb1_ HB.out GE511.out) : w.heap.size ≤ gb519); have GE519 := GW519; have NB511_519 := am_ (bl_ hg BK511.out : gb511 ≠ gb519); have NB519_511 := nb_ NB511_519; replace BK511 := am_ (bb_ BK511.out hb); replace HB := am_ (below_step (hb1_ HB.out GE511.out) hb); clear hb hbox hg; have hnb22 := NB519_511.out; have hnc22 := NB511_519.out; obtain ⟨hcz23_0, hcz23_1, hfz23_0, hfz23_1⟩ := bc2_ BK519.out))
     go_ret3
     exact ⟨er_, hb2_ HB.out GE511.out GE519.out⟩
    ·rw [if_neg c18] at H
     have c18b0 : decide (t517 < a3) = false := decide_eq_false c18
     clear c18
     simp only [Option.some.injEq, Prod.mk.injEq] at H
     obtain ⟨rfl, rfl, rfl⟩ := H
     have hcz24_0 := bc_ BK511.out 0 (.int .i64 a0_0) rfl
     have hcz24_1 := bc_ BK511.out 1 (.int .i64 a0_1) rfl
     have hcz24_2 := bc_ BK511.out 2 (.slice A0_2 l0_2.length c0_2) rfl
     have hfz24_0 := blk_frozen BK511.out 0
     have hfz24_1 := blk_frozen BK511.out 1
     have hfz24_2 := blk_frozen BK511.out 2
     go_wp2_with (first | ((with_reducible refine gate_callee (f := 26) rfl ?_); refine gl_ Try.func26 #[.agg #[.int .i64 a0_0, .int .i64 a0_1, .slice A0_2 l0_2.length c0_2], .int .i64 t512, .int .i64 t513] ?_; (with_reducible refine (spec_Occurrence.calls kj5 a0_0 a0_1 _ _ l0_2 t512 t513 t516 t517 t518 _ ?side1 ?side2 A17.out).mono ?_); (case side1 => exact kc_ (Kd.C_below HR0_2.out HB.out)); (case side2 => exact HC0_2.out); rintro e w25 ⟨rfl, hb⟩; refine ⟨_, rfl, ?_⟩; replace BK511 := am_ (bb_ BK511.out hb); replace HB := am_ (below_step (hb1_ HB.out GE511.out) hb); (try clear hb); (try clear hb2); (try clear hk); (try clear hi)) | ((with_reducible refine gate_dst (N := 14) rfl ?_); refine be_ (N := 14) (cs := #[.int .i64 0, .int .i64 0]) (t := 25) ?_; intro gb519 hg w26 hbox hb; have BK519 := am_ (hbox); have GW519 := am_ (hy_ hg (hb1_ HB.out GE511.out) : w.heap.size ≤ gb519); have GE519 := GW519; have NB511_519 := am_ (bl_ hg BK511.out : gb511 ≠ gb519); have NB519_511 := nb_ NB511_519; replace BK511 := am_ (bb_ BK511.out hb); replace HB := am_ (below_step (hb1_ HB.out GE511.out) hb); clear hb hbox hg; have hnb27 := NB519_511.out; have hnc27 := NB511_519.out; obtain ⟨hcz28_0, hcz28_1, hfz28_0, hfz28_1⟩ := bc2_ BK519.out))
     go_ret3
     exact ⟨er_, hb2_ HB.out GE511.out GE519.out⟩
end Go.Proofs.Ytllpmpfchidhoaa.P
namespace Go.Proofs.Ytllpmpfchidhoaa.P
open Go.RowKit Go.Proofs.YtllpmpfchidhoaaW.PrintWords Go.Proofs.YtllpmpfchidhoaaW.PrintLast Go.Proofs.YtllpmpfchidhoaaW.PrintMore
attribute [local go_sem] max2_int min2_int max_two min_two max_three min_three max_four min_four
set_option linter.unusedVariables false
set_option linter.unusedSimpArgs false
mutual
def spec_GateAsk.j0 : Nat → Bool → Int → Int → Bool → Int → Int → Int → Int → Int → Int → List (S42) → Option (Int × Int × Int)
 | 0, _, _, _, _, _, _, _, _, _, _, _ => none
 | k + 1, x1, x3, x5, x45, x521000, x521001, x522000, x522001, x523000, x523001, x523002 => if x45 = true then (some (0, 0, 1)) else ((spec_GateSpan.f k x521000 x521001 x522000 x522001 x3).bind fun bt532 => (if x1 = true then (spec_GateAsk.j1 k x5 (!bt532.2.2) x523000 x523001 x523002 bt532.1 bt532.2.1) else (spec_GateAsk.j1 k x5 true x523000 x523001 x523002 bt532.1 bt532.2.1)))
def spec_GateAsk.j1 : Nat → Int → Bool → Int → Int → List (S42) → Int → Int → Option (Int × Int × Int)
 | 0, _, _, _, _, _, _, _ => none
 | k + 1, x5, x58, x523000, x523001, x523002, x536000, x536001 => if x58 = true then (some (0, 0, 2)) else ((spec_InSlot.f k x523000 x523001 x523002 x5 x536000 x536001).bind fun bt536 => (if bt536.2.2 = true then (some (bt536.1, bt536.2.1, 0)) else (some (0, 0, 2))))
end
def spec_GateAsk.f (k : Nat) (a0_0 : Int) (a0_1 : Int) (a1 : Bool) (a2_0 : Int) (a2_1 : Int) (a3 : Int) (a4_0 : Int) (a4_1 : Int) (l4_2 : List (S42)) (a5 : Int) : Option (Int × Int × Int) := if a1 = true then ((spec_IvalOk.f a0_0 a0_1).bind fun t523 => (if t523 = true then ((spec_DriftOk.f a2_0 a2_1).bind fun t524 => (if t524 = true then ((spec_l1In.f a3 1 1000000000000).bind fun t525 => (if t525 = true then ((spec_PlanOk.f k a4_0 a4_1 l4_2).bind fun t526 => (if t526 = true then ((spec_l4Node.f a5).bind fun t527 => (spec_GateAsk.j0 k a1 a3 a5 (!t527) a0_0 a0_1 a2_0 a2_1 a4_0 a4_1 l4_2)) else (spec_GateAsk.j0 k a1 a3 a5 true a0_0 a0_1 a2_0 a2_1 a4_0 a4_1 l4_2))) else (spec_GateAsk.j0 k a1 a3 a5 true a0_0 a0_1 a2_0 a2_1 a4_0 a4_1 l4_2))) else (spec_GateAsk.j0 k a1 a3 a5 true a0_0 a0_1 a2_0 a2_1 a4_0 a4_1 l4_2))) else (spec_GateAsk.j0 k a1 a3 a5 true a0_0 a0_1 a2_0 a2_1 a4_0 a4_1 l4_2))) else ((spec_DriftOk.f a2_0 a2_1).bind fun t528 => (if t528 = true then ((spec_l1In.f a3 1 1000000000000).bind fun t529 => (if t529 = true then ((spec_PlanOk.f k a4_0 a4_1 l4_2).bind fun t530 => (if t530 = true then ((spec_l4Node.f a5).bind fun t531 => (spec_GateAsk.j0 k a1 a3 a5 (!t531) a0_0 a0_1 a2_0 a2_1 a4_0 a4_1 l4_2)) else (spec_GateAsk.j0 k a1 a3 a5 true a0_0 a0_1 a2_0 a2_1 a4_0 a4_1 l4_2))) else (spec_GateAsk.j0 k a1 a3 a5 true a0_0 a0_1 a2_0 a2_1 a4_0 a4_1 l4_2))) else (spec_GateAsk.j0 k a1 a3 a5 true a0_0 a0_1 a2_0 a2_1 a4_0 a4_1 l4_2)))
set_option maxHeartbeats 8000000 in
set_option maxRecDepth 100000 in
theorem spec_GateAsk.calls (k : Nat) (a0_0 : Int) (a0_1 : Int) (a1 : Bool) (a2_0 : Int) (a2_1 : Int) (a3 : Int) (a4_0 : Int) (a4_1 : Int) (A4_2 : Option Addr) (c4_2 : Nat) (l4_2 : List (S42)) (a5 : Int) (r1 : Int) (r2 : Int) (r3 : Int) (w : World) (hr4_2 : Kd.C k42 w A4_2 l4_2.length l4_2) (hc4_2 : l4_2.length ≤ c4_2) (h : spec_GateAsk.f k a0_0 a0_1 a1 a2_0 a2_1 a3 a4_0 a4_1 l4_2 a5 = some (r1, r2, r3)) :
  Calls Try.prog 11 #[.agg #[.int .i64 a0_0, .int .i64 a0_1], .bool a1, .agg #[.int .i64 a2_0, .int .i64 a2_1], .int .i64 a3, .agg #[.int .i64 a4_0, .int .i64 a4_1, .slice A4_2 l4_2.length c4_2], .int .i64 a5] w fun e w' => e = .returned (.tuple #[.int .i64 r1, .int .i64 r2, .int .i64 r3]) ∧ Below w.heap.size w w' := by
 have hu25 := Try.underlying25
 have hu27 := Try.underlying27
 have hu30 := Try.underlying30
 have HR4_2 := Aside0.mk hr4_2
 have HC4_2 := Aside0.mk hc4_2
 clear hr4_2 hc4_2
 have HB := am_ (Below.refl w.heap.size w)
 have H : (if a1 = true then ((spec_IvalOk.f a0_0 a0_1).bind fun t523 => (if t523 = true then ((spec_DriftOk.f a2_0 a2_1).bind fun t524 => (if t524 = true then ((spec_l1In.f a3 1 1000000000000).bind fun t525 => (if t525 = true then ((spec_PlanOk.f k a4_0 a4_1 l4_2).bind fun t526 => (if t526 = true then ((spec_l4Node.f a5).bind fun t527 => (spec_GateAsk.j0 k a1 a3 a5 (!t527) a0_0 a0_1 a2_0 a2_1 a4_0 a4_1 l4_2)) else (spec_GateAsk.j0 k a1 a3 a5 true a0_0 a0_1 a2_0 a2_1 a4_0 a4_1 l4_2))) else (spec_GateAsk.j0 k a1 a3 a5 true a0_0 a0_1 a2_0 a2_1 a4_0 a4_1 l4_2))) else (spec_GateAsk.j0 k a1 a3 a5 true a0_0 a0_1 a2_0 a2_1 a4_0 a4_1 l4_2))) else (spec_GateAsk.j0 k a1 a3 a5 true a0_0 a0_1 a2_0 a2_1 a4_0 a4_1 l4_2))) else ((spec_DriftOk.f a2_0 a2_1).bind fun t528 => (if t528 = true then ((spec_l1In.f a3 1 1000000000000).bind fun t529 => (if t529 = true then ((spec_PlanOk.f k a4_0 a4_1 l4_2).bind fun t530 => (if t530 = true then ((spec_l4Node.f a5).bind fun t531 => (spec_GateAsk.j0 k a1 a3 a5 (!t531) a0_0 a0_1 a2_0 a2_1 a4_0 a4_1 l4_2)) else (spec_GateAsk.j0 k a1 a3 a5 true a0_0 a0_1 a2_0 a2_1 a4_0 a4_1 l4_2))) else (spec_GateAsk.j0 k a1 a3 a5 true a0_0 a0_1 a2_0 a2_1 a4_0 a4_1 l4_2))) else (spec_GateAsk.j0 k a1 a3 a5 true a0_0 a0_1 a2_0 a2_1 a4_0 a4_1 l4_2)))) = some (r1, r2, r3) := h
 clear h
 have HC7 := Aside0.mk H
 clear H
 go_enter Try.func11, Try.ntmps11
 go_upto_region 1 with (first | ((with_reducible refine gate_dst (N := 6) rfl ?_); refine be_ (N := 6) (cs := #[.int .i64 a0_0, .int .i64 a0_1]) (t := 25) ?_; intro gb520 hg w8 hbox hb; have BK520 := am_ (hbox); have GW520 := am_ (hy_ hg (hb_ HB.out) : w.heap.size ≤ gb520); have GE520 := GW520; replace HB := am_ (below_step (hb_ HB.out) hb); clear hb hbox hg) | ((with_reducible refine gate_dst (N := 8) rfl ?_); refine be_ (N := 8) (cs := #[.int .i64 a2_0, .int .i64 a2_1]) (t := 27) ?_; intro gb521 hg w9 hbox hb; have BK521 := am_ (hbox); have GW521 := am_ (hy_ hg (hb1_ HB.out GE520.out) : w.heap.size ≤ gb521); have GE521 := GW521; have NB520_521 := am_ (bl_ hg BK520.out : gb520 ≠ gb521); have NB521_520 := nb_ NB520_521; replace BK520 := am_ (bb_ BK520.out hb); replace HB := am_ (below_step (hb1_ HB.out GE520.out) hb); clear hb hbox hg) | ((with_reducible refine gate_dst (N := 10) rfl ?_); refine be_ (N := 10) (cs := #[.int .i64 a4_0, .int .i64 a4_1, .slice A4_2 l4_2.length c4_2]) (t := 30) ?_; intro gb522 hg w10 hbox hb; have BK522 := am_ (hbox); have GW522 := am_ (hy_ hg (hb2_ HB.out GE520.out GE521.out) : w.heap.size ≤ gb522); have GE522 := GW522; have NB520_522 := am_ (bl_ hg BK520.out : gb520 ≠ gb522); have NB522_520 := nb_ NB520_522; have NB521_522 := am_ (bl_ hg BK521.out : gb521 ≠ gb522); have NB522_521 := nb_ NB521_522; replace BK520 := am_ (bb_ BK520.out hb); replace BK521 := am_ (bb_ BK521.out hb); replace HB := am_ (below_step (hb2_ HB.out GE520.out GE521.out) hb); clear hb hbox hg))
 (try simp only [Act.put, List.setIfInBounds_toArray, List.set_cons_zero, List.set_cons_succ])
 go_cut [45] (fun v45 wc => ∃ (kq : Nat) (x45_6 : Bool), v45 = .bool x45_6 ∧ Aside0 (spec_GateAsk.j0 kq a1 a3 a5 x45_6 a0_0 a0_1 a2_0 a2_1 a4_0 a4_1 l4_2 = some (r1, r2, r3)) ∧ Aside0 (kq ≤ k) ∧ Aside0 (wc.heap[gb520]? = some (.cells #[.int .i64 a0_0, .int .i64 a0_1] 25 (0, 0))) ∧ Aside0 (wc.heap[gb521]? = some (.cells #[.int .i64 a2_0, .int .i64 a2_1] 27 (0, 0))) ∧ Aside0 (wc.heap[gb522]? = some (.cells #[.int .i64 a4_0, .int .i64 a4_1, (.slice A4_2 l4_2.length c4_2)] 30 (0, 0))) ∧ Aside0 (Below w.heap.size w wc))
 case first =>
  have H := HC7.out
  clear HC7
  by_cases c11 : a1 = true
  ·subst c11
   have H1 : ((spec_IvalOk.f a0_0 a0_1).bind fun t523 => (if t523 = true then ((spec_DriftOk.f a2_0 a2_1).bind fun t524 => (if t524 = true then ((spec_l1In.f a3 1 1000000000000).bind fun t525 => (if t525 = true then ((spec_PlanOk.f k a4_0 a4_1 l4_2).bind fun t526 => (if t526 = true then ((spec_l4Node.f a5).bind fun t527 => (spec_GateAsk.j0 k true a3 a5 (!t527) a0_0 a0_1 a2_0 a2_1 a4_0 a4_1 l4_2)) else (spec_GateAsk.j0 k true a3 a5 true a0_0 a0_1 a2_0 a2_1 a4_0 a4_1 l4_2))) else (spec_GateAsk.j0 k true a3 a5 true a0_0 a0_1 a2_0 a2_1 a4_0 a4_1 l4_2))) else (spec_GateAsk.j0 k true a3 a5 true a0_0 a0_1 a2_0 a2_1 a4_0 a4_1 l4_2))) else (spec_GateAsk.j0 k true a3 a5 true a0_0 a0_1 a2_0 a2_1 a4_0 a4_1 l4_2))) = some (r1, r2, r3) := by rw [if_pos rfl] at H; exact H
   clear H
   have H := H1
   clear H1
   replace H := Option.bind_eq_some_iff.mp H
   obtain ⟨t523, A120, H⟩ := H
   replace H : (if t523 = true then ((spec_DriftOk.f a2_0 a2_1).bind fun t524 => (if t524 = true then ((spec_l1In.f a3 1 1000000000000).bind fun t525 => (if t525 = true then ((spec_PlanOk.f k a4_0 a4_1 l4_2).bind fun t526 => (if t526 = true then ((spec_l4Node.f a5).bind fun t527 => (spec_GateAsk.j0 k true a3 a5 (!t527) a0_0 a0_1 a2_0 a2_1 a4_0 a4_1 l4_2)) else (spec_GateAsk.j0 k true a3 a5 true a0_0 a0_1 a2_0 a2_1 a4_0 a4_1 l4_2))) else (spec_GateAsk.j0 k true a3 a5 true a0_0 a0_1 a2_0 a2_1 a4_0 a4_1 l4_2))) else (spec_GateAsk.j0 k true a3 a5 true a0_0 a0_1 a2_0 a2_1 a4_0 a4_1 l4_2))) else (spec_GateAsk.j0 k true a3 a5 true a0_0 a0_1 a2_0 a2_1 a4_0 a4_1 l4_2)) = some (r1, r2, r3) := H
   have A12 := Aside0.mk A120
   clear A120
   by_cases c13 : t523 = true
   ·subst c13
    have H1 : ((spec_DriftOk.f a2_0 a2_1).bind fun t524 => (if t524 = true then ((spec_l1In.f a3 1 1000000000000).bind fun t525 => (if t525 = true then ((spec_PlanOk.f k a4_0 a4_1 l4_2).bind fun t526 => (if t526 = true then ((spec_l4Node.f a5).bind fun t527 => (spec_GateAsk.j0 k true a3 a5 (!t527) a0_0 a0_1 a2_0 a2_1 a4_0 a4_1 l4_2)) else (spec_GateAsk.j0 k true a3 a5 true a0_0 a0_1 a2_0 a2_1 a4_0 a4_1 l4_2))) else (spec_GateAsk.j0 k true a3 a5 true a0_0 a0_1 a2_0 a2_1 a4_0 a4_1 l4_2))) else (spec_GateAsk.j0 k true a3 a5 true a0_0 a0_1 a2_0 a2_1 a4_0 a4_1 l4_2))) = some (r1, r2, r3) := by rw [if_pos rfl] at H; exact H
    clear H
    have H := H1
    clear H1
    replace H := Option.bind_eq_some_iff.mp H
    obtain ⟨t524, A140, H⟩ := H
    replace H : (if t524 = true then ((spec_l1In.f a3 1 1000000000000).bind fun t525 => (if t525 = true then ((spec_PlanOk.f k a4_0 a4_1 l4_2).bind fun t526 => (if t526 = true then ((spec_l4Node.f a5).bind fun t527 => (spec_GateAsk.j0 k true a3 a5 (!t527) a0_0 a0_1 a2_0 a2_1 a4_0 a4_1 l4_2)) else (spec_GateAsk.j0 k true a3 a5 true a0_0 a0_1 a2_0 a2_1 a4_0 a4_1 l4_2))) else (spec_GateAsk.j0 k true a3 a5 true a0_0 a0_1 a2_0 a2_1 a4_0 a4_1 l4_2))) else (spec_GateAsk.j0 k true a3 a5 true a0_0 a0_1 a2_0 a2_1 a4_0 a4_1 l4_2)) = some (r1, r2, r3) := H
    have A14 := Aside0.mk A140
    clear A140
    by_cases c15 : t524 = true
    ·subst c15
     have H1 : ((spec_l1In.f a3 1 1000000000000).bind fun t525 => (if t525 = true then ((spec_PlanOk.f k a4_0 a4_1 l4_2).bind fun t526 => (if t526 = true then ((spec_l4Node.f a5).bind fun t527 => (spec_GateAsk.j0 k true a3 a5 (!t527) a0_0 a0_1 a2_0 a2_1 a4_0 a4_1 l4_2)) else (spec_GateAsk.j0 k true a3 a5 true a0_0 a0_1 a2_0 a2_1 a4_0 a4_1 l4_2))) else (spec_GateAsk.j0 k true a3 a5 true a0_0 a0_1 a2_0 a2_1 a4_0 a4_1 l4_2))) = some (r1, r2, r3) := by rw [if_pos rfl] at H; exact H
     clear H
     have H := H1
     clear H1
     replace H := Option.bind_eq_some_iff.mp H
     obtain ⟨t525, A160, H⟩ := H
     replace H : (if t525 = true then ((spec_PlanOk.f k a4_0 a4_1 l4_2).bind fun t526 => (if t526 = true then ((spec_l4Node.f a5).bind fun t527 => (spec_GateAsk.j0 k true a3 a5 (!t527) a0_0 a0_1 a2_0 a2_1 a4_0 a4_1 l4_2)) else (spec_GateAsk.j0 k true a3 a5 true a0_0 a0_1 a2_0 a2_1 a4_0 a4_1 l4_2))) else (spec_GateAsk.j0 k true a3 a5 true a0_0 a0_1 a2_0 a2_1 a4_0 a4_1 l4_2)) = some (r1, r2, r3) := H
     have A16 := Aside0.mk A160
     clear A160
     by_cases c17 : t525 = true
     ·subst c17
      have H1 : ((spec_PlanOk.f k a4_0 a4_1 l4_2).bind fun t526 => (if t526 = true then ((spec_l4Node.f a5).bind fun t527 => (spec_GateAsk.j0 k true a3 a5 (!t527) a0_0 a0_1 a2_0 a2_1 a4_0 a4_1 l4_2)) else (spec_GateAsk.j0 k true a3 a5 true a0_0 a0_1 a2_0 a2_1 a4_0 a4_1 l4_2))) = some (r1, r2, r3) := by rw [if_pos rfl] at H; exact H
      clear H
      have H := H1
      clear H1
      replace H := Option.bind_eq_some_iff.mp H
      obtain ⟨t526, A180, H⟩ := H
      replace H : (if t526 = true then ((spec_l4Node.f a5).bind fun t527 => (spec_GateAsk.j0 k true a3 a5 (!t527) a0_0 a0_1 a2_0 a2_1 a4_0 a4_1 l4_2)) else (spec_GateAsk.j0 k true a3 a5 true a0_0 a0_1 a2_0 a2_1 a4_0 a4_1 l4_2)) = some (r1, r2, r3) := H
      have A18 := Aside0.mk A180
      clear A180
      by_cases c19 : t526 = true
      ·subst c19
       have H1 : ((spec_l4Node.f a5).bind fun t527 => (spec_GateAsk.j0 k true a3 a5 (!t527) a0_0 a0_1 a2_0 a2_1 a4_0 a4_1 l4_2)) = some (r1, r2, r3) := by rw [if_pos rfl] at H; exact H
       clear H
       have H := H1
       clear H1
       replace H := Option.bind_eq_some_iff.mp H
       obtain ⟨t527, A200, H⟩ := H
       replace H : (spec_GateAsk.j0 k true a3 a5 (!t527) a0_0 a0_1 a2_0 a2_1 a4_0 a4_1 l4_2) = some (r1, r2, r3) := H
       have A20 := Aside0.mk A200
       clear A200
       have H' := Aside0.mk H
       clear H
       have hnb21 := NB520_521.out
       have hnc21 := NB521_520.out
       have hnb22 := NB520_522.out
       have hnc22 := NB522_520.out
       have hcz23_0 := bc_ BK520.out 0 (.int .i64 a0_0) rfl
       have hcz23_1 := bc_ BK520.out 1 (.int .i64 a0_1) rfl
       have hfz23_0 := blk_frozen BK520.out 0
       have hfz23_1 := blk_frozen BK520.out 1
       go_wp2_with (first | (go_at_call 52; (with_reducible refine (spec_IvalOk.calls a0_0 a0_1 true _ A12.out).mono ?_); rintro e w24 ⟨rfl, hb⟩; replace BK520 := am_ (bb_ BK520.out hb); replace BK521 := am_ (bb_ BK521.out hb); replace BK522 := am_ (bb_ BK522.out hb); replace HB := am_ (below_step (hb3_ HB.out GE520.out GE521.out GE522.out) hb); (try clear hb); (try clear hb2); (try clear hk); (try clear hi); have hnb25 := NB521_522.out; have hnc25 := NB522_521.out; obtain ⟨hcz26_0, hcz26_1, hfz26_0, hfz26_1⟩ := bc2_ BK521.out) | (go_at_call 53; (with_reducible refine (spec_DriftOk.calls a2_0 a2_1 true _ A14.out).mono ?_); rintro e w27 ⟨rfl, hb⟩; replace BK520 := am_ (bb_ BK520.out hb); replace BK521 := am_ (bb_ BK521.out hb); replace BK522 := am_ (bb_ BK522.out hb); replace HB := am_ (below_step (hb3_ HB.out GE520.out GE521.out GE522.out) hb); (try clear hb); (try clear hb2); (try clear hk); (try clear hi)) | (go_at_call 54; (with_reducible refine (spec_l1In.calls a3 1 1000000000000 true _ A16.out).mono ?_); rintro e w' ⟨rfl, ⟨nd, rfl⟩⟩; obtain ⟨hcz28_0, hcz28_1, hcz28_2, hfz28_0, hfz28_1, hfz28_2⟩ := bc3_ BK522.out) | (go_at_call 55; (with_reducible refine (spec_PlanOk.calls k a4_0 a4_1 _ _ l4_2 true _ ?side1 ?side2 A18.out).mono ?_); (case side1 => repeat (first | exact (Kd.C_below HR4_2.out (hb3_ HB.out GE520.out GE521.out GE522.out)) | (with_reducible refine Kd.C_alloc ?_ _) | (with_reducible refine Kd.C_drewN ?_ _) | (with_reducible refine Kd.C_drew ?_))); (case side2 => exact HC4_2.out); rintro e w29 ⟨rfl, hb⟩; replace BK520 := am_ (bb_ BK520.out hb); replace BK521 := am_ (bb_ BK521.out hb); replace BK522 := am_ (bb_ BK522.out hb); replace HB := am_ (below_step (hb3_ HB.out GE520.out GE521.out GE522.out) hb); (try clear hb); (try clear hb2); (try clear hk); (try clear hi)) | (go_at_call 56; (with_reducible refine (spec_l4Node.calls a5 t527 _ A20.out).mono ?_); rintro e w' ⟨rfl, ⟨nd, rfl⟩⟩))
       go_meet
       case rel => exact ⟨_, (!t527), (by first | rfl | (simp; done) | (simp [*]; done)), H', ⟨by first | omega | exact Nat.le_refl _⟩, ⟨bk_ BK520.out⟩, ⟨bk_ BK521.out⟩, ⟨bk_ BK522.out⟩, ⟨hb3_ HB.out GE520.out GE521.out GE522.out⟩⟩
      ·replace c19 := Bool.eq_false_iff.mpr c19
       subst c19
       have H1 : (spec_GateAsk.j0 k true a3 a5 true a0_0 a0_1 a2_0 a2_1 a4_0 a4_1 l4_2) = some (r1, r2, r3) := by rw [if_neg (show ¬ (false = true) by decide)] at H; exact H
       clear H
       have H := H1
       clear H1
       have H' := Aside0.mk H
       clear H
       have hnb30 := NB520_521.out
       have hnc30 := NB521_520.out
       have hnb31 := NB520_522.out
       have hnc31 := NB522_520.out
       have hcz32_0 := bc_ BK520.out 0 (.int .i64 a0_0) rfl
       have hcz32_1 := bc_ BK520.out 1 (.int .i64 a0_1) rfl
       have hfz32_0 := blk_frozen BK520.out 0
       have hfz32_1 := blk_frozen BK520.out 1
       go_wp2_with (first | (go_at_call 52; (with_reducible refine (spec_IvalOk.calls a0_0 a0_1 true _ A12.out).mono ?_); rintro e w33 ⟨rfl, hb⟩; replace BK520 := am_ (bb_ BK520.out hb); replace BK521 := am_ (bb_ BK521.out hb); replace BK522 := am_ (bb_ BK522.out hb); replace HB := am_ (below_step (hb3_ HB.out GE520.out GE521.out GE522.out) hb); (try clear hb); (try clear hb2); (try clear hk); (try clear hi); have hnb34 := NB521_522.out; have hnc34 := NB522_521.out; obtain ⟨hcz35_0, hcz35_1, hfz35_0, hfz35_1⟩ := bc2_ BK521.out) | (go_at_call 53; (with_reducible refine (spec_DriftOk.calls a2_0 a2_1 true _ A14.out).mono ?_); rintro e w36 ⟨rfl, hb⟩; replace BK520 := am_ (bb_ BK520.out hb); replace BK521 := am_ (bb_ BK521.out hb); replace BK522 := am_ (bb_ BK522.out hb); replace HB := am_ (below_step (hb3_ HB.out GE520.out GE521.out GE522.out) hb); (try clear hb); (try clear hb2); (try clear hk); (try clear hi)) | (go_at_call 54; (with_reducible refine (spec_l1In.calls a3 1 1000000000000 true _ A16.out).mono ?_); rintro e w' ⟨rfl, ⟨nd, rfl⟩⟩; obtain ⟨hcz37_0, hcz37_1, hcz37_2, hfz37_0, hfz37_1, hfz37_2⟩ := bc3_ BK522.out) | (go_at_call 55; (with_reducible refine (spec_PlanOk.calls k a4_0 a4_1 _ _ l4_2 false _ ?side1 ?side2 A18.out).mono ?_); (case side1 => repeat (first | exact (Kd.C_below HR4_2.out (hb3_ HB.out GE520.out GE521.out GE522.out)) | (with_reducible refine Kd.C_alloc ?_ _) | (with_reducible refine Kd.C_drewN ?_ _) | (with_reducible refine Kd.C_drew ?_))); (case side2 => exact HC4_2.out); rintro e w38 ⟨rfl, hb⟩; replace BK520 := am_ (bb_ BK520.out hb); replace BK521 := am_ (bb_ BK521.out hb); replace BK522 := am_ (bb_ BK522.out hb); replace HB := am_ (below_step (hb3_ HB.out GE520.out GE521.out GE522.out) hb); (try clear hb); (try clear hb2); (try clear hk); (try clear hi)))
       go_meet
       case rel => exact ⟨_, (true), (by first | rfl | (simp; done) | (simp [*]; done)), H', ⟨by first | omega | exact Nat.le_refl _⟩, ⟨bk_ BK520.out⟩, ⟨bk_ BK521.out⟩, ⟨bk_ BK522.out⟩, ⟨hb3_ HB.out GE520.out GE521.out GE522.out⟩⟩
     ·replace c17 := Bool.eq_false_iff.mpr c17
      subst c17
      have H1 : (spec_GateAsk.j0 k true a3 a5 true a0_0 a0_1 a2_0 a2_1 a4_0 a4_1 l4_2) = some (r1, r2, r3) := by rw [if_neg (show ¬ (false = true) by decide)] at H; exact H
      clear H
      have H := H1
      clear H1
      have H' := Aside0.mk H
      clear H
      have hnb39 := NB520_521.out
      have hnc39 := NB521_520.out
      have hnb40 := NB520_522.out
      have hnc40 := NB522_520.out
      have hcz41_0 := bc_ BK520.out 0 (.int .i64 a0_0) rfl
      have hcz41_1 := bc_ BK520.out 1 (.int .i64 a0_1) rfl
      have hfz41_0 := blk_frozen BK520.out 0
      have hfz41_1 := blk_frozen BK520.out 1
      go_wp2_with (first | (go_at_call 52; (with_reducible refine (spec_IvalOk.calls a0_0 a0_1 true _ A12.out).mono ?_); rintro e w42 ⟨rfl, hb⟩; replace BK520 := am_ (bb_ BK520.out hb); replace BK521 := am_ (bb_ BK521.out hb); replace BK522 := am_ (bb_ BK522.out hb); replace HB := am_ (below_step (hb3_ HB.out GE520.out GE521.out GE522.out) hb); (try clear hb); (try clear hb2); (try clear hk); (try clear hi); have hnb43 := NB521_522.out; have hnc43 := NB522_521.out; obtain ⟨hcz44_0, hcz44_1, hfz44_0, hfz44_1⟩ := bc2_ BK521.out) | (go_at_call 53; (with_reducible refine (spec_DriftOk.calls a2_0 a2_1 true _ A14.out).mono ?_); rintro e w45 ⟨rfl, hb⟩; replace BK520 := am_ (bb_ BK520.out hb); replace BK521 := am_ (bb_ BK521.out hb); replace BK522 := am_ (bb_ BK522.out hb); replace HB := am_ (below_step (hb3_ HB.out GE520.out GE521.out GE522.out) hb); (try clear hb); (try clear hb2); (try clear hk); (try clear hi)) | (go_at_call 54; (with_reducible refine (spec_l1In.calls a3 1 1000000000000 false _ A16.out).mono ?_); rintro e w' ⟨rfl, ⟨nd, rfl⟩⟩))
      go_meet
      case rel => exact ⟨_, (true), (by first | rfl | (simp; done) | (simp [*]; done)), H', ⟨by first | omega | exact Nat.le_refl _⟩, ⟨bk_ BK520.out⟩, ⟨bk_ BK521.out⟩, ⟨bk_ BK522.out⟩, ⟨hb3_ HB.out GE520.out GE521.out GE522.out⟩⟩
    ·replace c15 := Bool.eq_false_iff.mpr c15
     subst c15
     have H1 : (spec_GateAsk.j0 k true a3 a5 true a0_0 a0_1 a2_0 a2_1 a4_0 a4_1 l4_2) = some (r1, r2, r3) := by rw [if_neg (show ¬ (false = true) by decide)] at H; exact H
     clear H
     have H := H1
     clear H1
     have H' := Aside0.mk H
     clear H
     have hnb46 := NB520_521.out
     have hnc46 := NB521_520.out
     have hnb47 := NB520_522.out
     have hnc47 := NB522_520.out
     have hcz48_0 := bc_ BK520.out 0 (.int .i64 a0_0) rfl
     have hcz48_1 := bc_ BK520.out 1 (.int .i64 a0_1) rfl
     have hfz48_0 := blk_frozen BK520.out 0
     have hfz48_1 := blk_frozen BK520.out 1
     go_wp2_with (first | (go_at_call 52; (with_reducible refine (spec_IvalOk.calls a0_0 a0_1 true _ A12.out).mono ?_); rintro e w49 ⟨rfl, hb⟩; replace BK520 := am_ (bb_ BK520.out hb); replace BK521 := am_ (bb_ BK521.out hb); replace BK522 := am_ (bb_ BK522.out hb); replace HB := am_ (below_step (hb3_ HB.out GE520.out GE521.out GE522.out) hb); (try clear hb); (try clear hb2); (try clear hk); (try clear hi); have hnb50 := NB521_522.out; have hnc50 := NB522_521.out; obtain ⟨hcz51_0, hcz51_1, hfz51_0, hfz51_1⟩ := bc2_ BK521.out) | (go_at_call 53; (with_reducible refine (spec_DriftOk.calls a2_0 a2_1 false _ A14.out).mono ?_); rintro e w52 ⟨rfl, hb⟩; replace BK520 := am_ (bb_ BK520.out hb); replace BK521 := am_ (bb_ BK521.out hb); replace BK522 := am_ (bb_ BK522.out hb); replace HB := am_ (below_step (hb3_ HB.out GE520.out GE521.out GE522.out) hb); (try clear hb); (try clear hb2); (try clear hk); (try clear hi)))
     go_meet
     case rel => exact ⟨_, (true), (by first | rfl | (simp; done) | (simp [*]; done)), H', ⟨by first | omega | exact Nat.le_refl _⟩, ⟨bk_ BK520.out⟩, ⟨bk_ BK521.out⟩, ⟨bk_ BK522.out⟩, ⟨hb3_ HB.out GE520.out GE521.out GE522.out⟩⟩
   ·replace c13 := Bool.eq_false_iff.mpr c13
    subst c13
    have H1 : (spec_GateAsk.j0 k true a3 a5 true a0_0 a0_1 a2_0 a2_1 a4_0 a4_1 l4_2) = some (r1, r2, r3) := by rw [if_neg (show ¬ (false = true) by decide)] at H; exact H
    clear H
    have H := H1
    clear H1
    have H' := Aside0.mk H
    clear H
    have hnb53 := NB520_521.out
    have hnc53 := NB521_520.out
    have hnb54 := NB520_522.out
    have hnc54 := NB522_520.out
    have hcz55_0 := bc_ BK520.out 0 (.int .i64 a0_0) rfl
    have hcz55_1 := bc_ BK520.out 1 (.int .i64 a0_1) rfl
    have hfz55_0 := blk_frozen BK520.out 0
    have hfz55_1 := blk_frozen BK520.out 1
    go_wp2_with (first | (go_at_call 52; (with_reducible refine (spec_IvalOk.calls a0_0 a0_1 false _ A12.out).mono ?_); rintro e w56 ⟨rfl, hb⟩; replace BK520 := am_ (bb_ BK520.out hb); replace BK521 := am_ (bb_ BK521.out hb); replace BK522 := am_ (bb_ BK522.out hb); replace HB := am_ (below_step (hb3_ HB.out GE520.out GE521.out GE522.out) hb); (try clear hb); (try clear hb2); (try clear hk); (try clear hi)))
    go_meet
    case rel => exact ⟨_, (true), (by first | rfl | (simp; done) | (simp [*]; done)), H', ⟨by first | omega | exact Nat.le_refl _⟩, ⟨bk_ BK520.out⟩, ⟨bk_ BK521.out⟩, ⟨bk_ BK522.out⟩, ⟨hb3_ HB.out GE520.out GE521.out GE522.out⟩⟩
  ·replace c11 := Bool.eq_false_iff.mpr c11
   subst c11
   have H1 : ((spec_DriftOk.f a2_0 a2_1).bind fun t528 => (if t528 = true then ((spec_l1In.f a3 1 1000000000000).bind fun t529 => (if t529 = true then ((spec_PlanOk.f k a4_0 a4_1 l4_2).bind fun t530 => (if t530 = true then ((spec_l4Node.f a5).bind fun t531 => (spec_GateAsk.j0 k false a3 a5 (!t531) a0_0 a0_1 a2_0 a2_1 a4_0 a4_1 l4_2)) else (spec_GateAsk.j0 k false a3 a5 true a0_0 a0_1 a2_0 a2_1 a4_0 a4_1 l4_2))) else (spec_GateAsk.j0 k false a3 a5 true a0_0 a0_1 a2_0 a2_1 a4_0 a4_1 l4_2))) else (spec_GateAsk.j0 k false a3 a5 true a0_0 a0_1 a2_0 a2_1 a4_0 a4_1 l4_2))) = some (r1, r2, r3) := by rw [if_neg (show ¬ (false = true) by decide)] at H; exact H
   clear H
   have H := H1
   clear H1
   replace H := Option.bind_eq_some_iff.mp H
   obtain ⟨t528, A570, H⟩ := H
   replace H : (if t528 = true then ((spec_l1In.f a3 1 1000000000000).bind fun t529 => (if t529 = true then ((spec_PlanOk.f k a4_0 a4_1 l4_2).bind fun t530 => (if t530 = true then ((spec_l4Node.f a5).bind fun t531 => (spec_GateAsk.j0 k false a3 a5 (!t531) a0_0 a0_1 a2_0 a2_1 a4_0 a4_1 l4_2)) else (spec_GateAsk.j0 k false a3 a5 true a0_0 a0_1 a2_0 a2_1 a4_0 a4_1 l4_2))) else (spec_GateAsk.j0 k false a3 a5 true a0_0 a0_1 a2_0 a2_1 a4_0 a4_1 l4_2))) else (spec_GateAsk.j0 k false a3 a5 true a0_0 a0_1 a2_0 a2_1 a4_0 a4_1 l4_2)) = some (r1, r2, r3) := H
   have A57 := Aside0.mk A570
   clear A570
   by_cases c58 : t528 = true
   ·subst c58
    have H1 : ((spec_l1In.f a3 1 1000000000000).bind fun t529 => (if t529 = true then ((spec_PlanOk.f k a4_0 a4_1 l4_2).bind fun t530 => (if t530 = true then ((spec_l4Node.f a5).bind fun t531 => (spec_GateAsk.j0 k false a3 a5 (!t531) a0_0 a0_1 a2_0 a2_1 a4_0 a4_1 l4_2)) else (spec_GateAsk.j0 k false a3 a5 true a0_0 a0_1 a2_0 a2_1 a4_0 a4_1 l4_2))) else (spec_GateAsk.j0 k false a3 a5 true a0_0 a0_1 a2_0 a2_1 a4_0 a4_1 l4_2))) = some (r1, r2, r3) := by rw [if_pos rfl] at H; exact H
    clear H
    have H := H1
    clear H1
    replace H := Option.bind_eq_some_iff.mp H
    obtain ⟨t529, A590, H⟩ := H
    replace H : (if t529 = true then ((spec_PlanOk.f k a4_0 a4_1 l4_2).bind fun t530 => (if t530 = true then ((spec_l4Node.f a5).bind fun t531 => (spec_GateAsk.j0 k false a3 a5 (!t531) a0_0 a0_1 a2_0 a2_1 a4_0 a4_1 l4_2)) else (spec_GateAsk.j0 k false a3 a5 true a0_0 a0_1 a2_0 a2_1 a4_0 a4_1 l4_2))) else (spec_GateAsk.j0 k false a3 a5 true a0_0 a0_1 a2_0 a2_1 a4_0 a4_1 l4_2)) = some (r1, r2, r3) := H
    have A59 := Aside0.mk A590
    clear A590
    by_cases c60 : t529 = true
    ·subst c60
     have H1 : ((spec_PlanOk.f k a4_0 a4_1 l4_2).bind fun t530 => (if t530 = true then ((spec_l4Node.f a5).bind fun t531 => (spec_GateAsk.j0 k false a3 a5 (!t531) a0_0 a0_1 a2_0 a2_1 a4_0 a4_1 l4_2)) else (spec_GateAsk.j0 k false a3 a5 true a0_0 a0_1 a2_0 a2_1 a4_0 a4_1 l4_2))) = some (r1, r2, r3) := by rw [if_pos rfl] at H; exact H
     clear H
     have H := H1
     clear H1
     replace H := Option.bind_eq_some_iff.mp H
     obtain ⟨t530, A610, H⟩ := H
     replace H : (if t530 = true then ((spec_l4Node.f a5).bind fun t531 => (spec_GateAsk.j0 k false a3 a5 (!t531) a0_0 a0_1 a2_0 a2_1 a4_0 a4_1 l4_2)) else (spec_GateAsk.j0 k false a3 a5 true a0_0 a0_1 a2_0 a2_1 a4_0 a4_1 l4_2)) = some (r1, r2, r3) := H
     have A61 := Aside0.mk A610
     clear A610
     by_cases c62 : t530 = true
     ·subst c62
      have H1 : ((spec_l4Node.f a5).bind fun t531 => (spec_GateAsk.j0 k false a3 a5 (!t531) a0_0 a0_1 a2_0 a2_1 a4_0 a4_1 l4_2)) = some (r1, r2, r3) := by rw [if_pos rfl] at H; exact H
      clear H
      have H := H1
      clear H1
      replace H := Option.bind_eq_some_iff.mp H
      obtain ⟨t531, A630, H⟩ := H
      replace H : (spec_GateAsk.j0 k false a3 a5 (!t531) a0_0 a0_1 a2_0 a2_1 a4_0 a4_1 l4_2) = some (r1, r2, r3) := H
      have A63 := Aside0.mk A630
      clear A630
      have H' := Aside0.mk H
      clear H
      have hnb64 := NB521_520.out
      have hnc64 := NB520_521.out
      have hnb65 := NB521_522.out
      have hnc65 := NB522_521.out
      have hcz66_0 := bc_ BK521.out 0 (.int .i64 a2_0) rfl
      have hcz66_1 := bc_ BK521.out 1 (.int .i64 a2_1) rfl
      have hfz66_0 := blk_frozen BK521.out 0
      have hfz66_1 := blk_frozen BK521.out 1
      go_wp2_with (first | (go_at_call 53; (with_reducible refine (spec_DriftOk.calls a2_0 a2_1 true _ A57.out).mono ?_); rintro e w67 ⟨rfl, hb⟩; replace BK520 := am_ (bb_ BK520.out hb); replace BK521 := am_ (bb_ BK521.out hb); replace BK522 := am_ (bb_ BK522.out hb); replace HB := am_ (below_step (hb3_ HB.out GE520.out GE521.out GE522.out) hb); (try clear hb); (try clear hb2); (try clear hk); (try clear hi)) | (go_at_call 54; (with_reducible refine (spec_l1In.calls a3 1 1000000000000 true _ A59.out).mono ?_); rintro e w' ⟨rfl, ⟨nd, rfl⟩⟩; have hnb68 := NB522_520.out; have hnc68 := NB520_522.out; obtain ⟨hcz69_0, hcz69_1, hcz69_2, hfz69_0, hfz69_1, hfz69_2⟩ := bc3_ BK522.out) | (go_at_call 55; (with_reducible refine (spec_PlanOk.calls k a4_0 a4_1 _ _ l4_2 true _ ?side1 ?side2 A61.out).mono ?_); (case side1 => repeat (first | exact (Kd.C_below HR4_2.out (hb3_ HB.out GE520.out GE521.out GE522.out)) | (with_reducible refine Kd.C_alloc ?_ _) | (with_reducible refine Kd.C_drewN ?_ _) | (with_reducible refine Kd.C_drew ?_))); (case side2 => exact HC4_2.out); rintro e w70 ⟨rfl, hb⟩; replace BK520 := am_ (bb_ BK520.out hb); replace BK521 := am_ (bb_ BK521.out hb); replace BK522 := am_ (bb_ BK522.out hb); replace HB := am_ (below_step (hb3_ HB.out GE520.out GE521.out GE522.out) hb); (try clear hb); (try clear hb2); (try clear hk); (try clear hi)) | (go_at_call 56; (with_reducible refine (spec_l4Node.calls a5 t531 _ A63.out).mono ?_); rintro e w' ⟨rfl, ⟨nd, rfl⟩⟩))
      go_meet
      case rel => exact ⟨_, (!t531), (by first | rfl | (simp; done) | (simp [*]; done)), H', ⟨by first | omega | exact Nat.le_refl _⟩, ⟨bk_ BK520.out⟩, ⟨bk_ BK521.out⟩, ⟨bk_ BK522.out⟩, ⟨hb3_ HB.out GE520.out GE521.out GE522.out⟩⟩
     ·replace c62 := Bool.eq_false_iff.mpr c62
      subst c62
      have H1 : (spec_GateAsk.j0 k false a3 a5 true a0_0 a0_1 a2_0 a2_1 a4_0 a4_1 l4_2) = some (r1, r2, r3) := by rw [if_neg (show ¬ (false = true) by decide)] at H; exact H
      clear H
      have H := H1
      clear H1
      have H' := Aside0.mk H
      clear H
      have hnb71 := NB521_520.out
      have hnc71 := NB520_521.out
      have hnb72 := NB521_522.out
      have hnc72 := NB522_521.out
      have hcz73_0 := bc_ BK521.out 0 (.int .i64 a2_0) rfl
      have hcz73_1 := bc_ BK521.out 1 (.int .i64 a2_1) rfl
      have hfz73_0 := blk_frozen BK521.out 0
      have hfz73_1 := blk_frozen BK521.out 1
      go_wp2_with (first | (go_at_call 53; (with_reducible refine (spec_DriftOk.calls a2_0 a2_1 true _ A57.out).mono ?_); rintro e w74 ⟨rfl, hb⟩; replace BK520 := am_ (bb_ BK520.out hb); replace BK521 := am_ (bb_ BK521.out hb); replace BK522 := am_ (bb_ BK522.out hb); replace HB := am_ (below_step (hb3_ HB.out GE520.out GE521.out GE522.out) hb); (try clear hb); (try clear hb2); (try clear hk); (try clear hi)) | (go_at_call 54; (with_reducible refine (spec_l1In.calls a3 1 1000000000000 true _ A59.out).mono ?_); rintro e w' ⟨rfl, ⟨nd, rfl⟩⟩; have hnb75 := NB522_520.out; have hnc75 := NB520_522.out; obtain ⟨hcz76_0, hcz76_1, hcz76_2, hfz76_0, hfz76_1, hfz76_2⟩ := bc3_ BK522.out) | (go_at_call 55; (with_reducible refine (spec_PlanOk.calls k a4_0 a4_1 _ _ l4_2 false _ ?side1 ?side2 A61.out).mono ?_); (case side1 => repeat (first | exact (Kd.C_below HR4_2.out (hb3_ HB.out GE520.out GE521.out GE522.out)) | (with_reducible refine Kd.C_alloc ?_ _) | (with_reducible refine Kd.C_drewN ?_ _) | (with_reducible refine Kd.C_drew ?_))); (case side2 => exact HC4_2.out); rintro e w77 ⟨rfl, hb⟩; replace BK520 := am_ (bb_ BK520.out hb); replace BK521 := am_ (bb_ BK521.out hb); replace BK522 := am_ (bb_ BK522.out hb); replace HB := am_ (below_step (hb3_ HB.out GE520.out GE521.out GE522.out) hb); (try clear hb); (try clear hb2); (try clear hk); (try clear hi)))
      go_meet
      case rel => exact ⟨_, (true), (by first | rfl | (simp; done) | (simp [*]; done)), H', ⟨by first | omega | exact Nat.le_refl _⟩, ⟨bk_ BK520.out⟩, ⟨bk_ BK521.out⟩, ⟨bk_ BK522.out⟩, ⟨hb3_ HB.out GE520.out GE521.out GE522.out⟩⟩
    ·replace c60 := Bool.eq_false_iff.mpr c60
     subst c60
     have H1 : (spec_GateAsk.j0 k false a3 a5 true a0_0 a0_1 a2_0 a2_1 a4_0 a4_1 l4_2) = some (r1, r2, r3) := by rw [if_neg (show ¬ (false = true) by decide)] at H; exact H
     clear H
     have H := H1
     clear H1
     have H' := Aside0.mk H
     clear H
     have hnb78 := NB521_520.out
     have hnc78 := NB520_521.out
     have hnb79 := NB521_522.out
     have hnc79 := NB522_521.out
     have hcz80_0 := bc_ BK521.out 0 (.int .i64 a2_0) rfl
     have hcz80_1 := bc_ BK521.out 1 (.int .i64 a2_1) rfl
     have hfz80_0 := blk_frozen BK521.out 0
     have hfz80_1 := blk_frozen BK521.out 1
     go_wp2_with (first | (go_at_call 53; (with_reducible refine (spec_DriftOk.calls a2_0 a2_1 true _ A57.out).mono ?_); rintro e w81 ⟨rfl, hb⟩; replace BK520 := am_ (bb_ BK520.out hb); replace BK521 := am_ (bb_ BK521.out hb); replace BK522 := am_ (bb_ BK522.out hb); replace HB := am_ (below_step (hb3_ HB.out GE520.out GE521.out GE522.out) hb); (try clear hb); (try clear hb2); (try clear hk); (try clear hi)) | (go_at_call 54; (with_reducible refine (spec_l1In.calls a3 1 1000000000000 false _ A59.out).mono ?_); rintro e w' ⟨rfl, ⟨nd, rfl⟩⟩))
     go_meet
     case rel => exact ⟨_, (true), (by first | rfl | (simp; done) | (simp [*]; done)), H', ⟨by first | omega | exact Nat.le_refl _⟩, ⟨bk_ BK520.out⟩, ⟨bk_ BK521.out⟩, ⟨bk_ BK522.out⟩, ⟨hb3_ HB.out GE520.out GE521.out GE522.out⟩⟩
   ·replace c58 := Bool.eq_false_iff.mpr c58
    subst c58
    have H1 : (spec_GateAsk.j0 k false a3 a5 true a0_0 a0_1 a2_0 a2_1 a4_0 a4_1 l4_2) = some (r1, r2, r3) := by rw [if_neg (show ¬ (false = true) by decide)] at H; exact H
    clear H
    have H := H1
    clear H1
    have H' := Aside0.mk H
    clear H
    have hnb82 := NB521_520.out
    have hnc82 := NB520_521.out
    have hnb83 := NB521_522.out
    have hnc83 := NB522_521.out
    have hcz84_0 := bc_ BK521.out 0 (.int .i64 a2_0) rfl
    have hcz84_1 := bc_ BK521.out 1 (.int .i64 a2_1) rfl
    have hfz84_0 := blk_frozen BK521.out 0
    have hfz84_1 := blk_frozen BK521.out 1
    go_wp2_with (first | (go_at_call 53; (with_reducible refine (spec_DriftOk.calls a2_0 a2_1 false _ A57.out).mono ?_); rintro e w85 ⟨rfl, hb⟩; replace BK520 := am_ (bb_ BK520.out hb); replace BK521 := am_ (bb_ BK521.out hb); replace BK522 := am_ (bb_ BK522.out hb); replace HB := am_ (below_step (hb3_ HB.out GE520.out GE521.out GE522.out) hb); (try clear hb); (try clear hb2); (try clear hk); (try clear hi)))
    go_meet
    case rel => exact ⟨_, (true), (by first | rfl | (simp; done) | (simp [*]; done)), H', ⟨by first | omega | exact Nat.le_refl _⟩, ⟨bk_ BK520.out⟩, ⟨bk_ BK521.out⟩, ⟨bk_ BK522.out⟩, ⟨hb3_ HB.out GE520.out GE521.out GE522.out⟩⟩
 case rest =>
  clear HC7
  try clear c1
  try clear c2
  try clear p2
  try clear c3
  try clear c4
  try clear c5
  try clear c6
  try clear c7
  try clear c8
  try clear c11
  try clear c13
  try clear c15
  try clear c17
  try clear c19
  try clear c21
  try clear c22
  try clear c25
  try clear c30
  try clear c31
  try clear c34
  try clear c39
  try clear c40
  try clear c43
  try clear c46
  try clear c47
  try clear c50
  try clear c53
  try clear c54
  try clear c58
  try clear c60
  try clear c62
  try clear c64
  try clear c65
  try clear c68
  try clear c71
  try clear c72
  try clear c75
  try clear c78
  try clear c79
  try clear c82
  try clear c83
  try clear hcz23_0
  try clear hcz23_1
  try clear hcz26_0
  try clear hcz26_1
  try clear hcz28_0
  try clear hcz28_1
  try clear hcz28_2
  try clear hcz32_0
  try clear hcz32_1
  try clear hcz35_0
  try clear hcz35_1
  try clear hcz37_0
  try clear hcz37_1
  try clear hcz37_2
  try clear hcz41_0
  try clear hcz41_1
  try clear hcz44_0
  try clear hcz44_1
  try clear hcz48_0
  try clear hcz48_1
  try clear hcz51_0
  try clear hcz51_1
  try clear hcz55_0
  try clear hcz55_1
  try clear hcz66_0
  try clear hcz66_1
  try clear hcz69_0
  try clear hcz69_1
  try clear hcz69_2
  try clear hcz73_0
  try clear hcz73_1
  try clear hcz76_0
  try clear hcz76_1
  try clear hcz76_2
  try clear hcz80_0
  try clear hcz80_1
  try clear hcz84_0
  try clear hcz84_1
  try clear hfz23_0
  try clear hfz23_1
  try clear hfz26_0
  try clear hfz26_1
  try clear hfz28_0
  try clear hfz28_1
  try clear hfz28_2
  try clear hfz32_0
  try clear hfz32_1
  try clear hfz35_0
  try clear hfz35_1
  try clear hfz37_0
  try clear hfz37_1
  try clear hfz37_2
  try clear hfz41_0
  try clear hfz41_1
  try clear hfz44_0
  try clear hfz44_1
  try clear hfz48_0
  try clear hfz48_1
  try clear hfz51_0
  try clear hfz51_1
  try clear hfz55_0
  try clear hfz55_1
  try clear hfz66_0
  try clear hfz66_1
  try clear hfz69_0
  try clear hfz69_1
  try clear hfz69_2
  try clear hfz73_0
  try clear hfz73_1
  try clear hfz76_0
  try clear hfz76_1
  try clear hfz76_2
  try clear hfz80_0
  try clear hfz80_1
  try clear hfz84_0
  try clear hfz84_1
  obtain ⟨kq, x45_6, rfl, HA, HJ6, BK520, BK521, BK522, HB⟩ := hcut
  cases kq with
  | zero => exact absurd HA.out (by simp [spec_GateAsk.j0])
  | succ kj6 =>
   have H := HA.out
   clear HA
   simp only [spec_GateAsk.j0] at H
   by_cases c86 : x45_6 = true
   ·subst c86
    have H1 : (some (0, 0, 1)) = some (r1, r2, r3) := by rw [if_pos rfl] at H; exact H
    clear H
    have H := H1
    clear H1
    simp only [Option.some.injEq, Prod.mk.injEq] at H
    obtain ⟨rfl, rfl, rfl⟩ := H
    go_wp2
    go_ret3
    exact ⟨er_, hb3_ HB.out GE520.out GE521.out GE522.out⟩
   ·replace c86 := Bool.eq_false_iff.mpr c86
    subst c86
    have H1 : ((spec_GateSpan.f kj6 a0_0 a0_1 a2_0 a2_1 a3).bind fun bt532 => (if a1 = true then (spec_GateAsk.j1 kj6 a5 (!bt532.2.2) a4_0 a4_1 l4_2 bt532.1 bt532.2.1) else (spec_GateAsk.j1 kj6 a5 true a4_0 a4_1 l4_2 bt532.1 bt532.2.1))) = some (r1, r2, r3) := by rw [if_neg (show ¬ (false = true) by decide)] at H; exact H
    clear H
    have H := H1
    clear H1
    replace H := Option.bind_eq_some_iff.mp H
    obtain ⟨⟨t532, t533, t534⟩, A870, H⟩ := H
    replace H : (if a1 = true then (spec_GateAsk.j1 kj6 a5 (!t534) a4_0 a4_1 l4_2 t532 t533) else (spec_GateAsk.j1 kj6 a5 true a4_0 a4_1 l4_2 t532 t533)) = some (r1, r2, r3) := H
    have A87 := Aside0.mk A870
    clear A870
    have HC88 := Aside0.mk H
    clear H
    have hnb89 := NB520_521.out
    have hnc89 := NB521_520.out
    have hnb90 := NB520_522.out
    have hnc90 := NB522_520.out
    have hcz91_0 := bc_ BK520.out 0 (.int .i64 a0_0) rfl
    have hcz91_1 := bc_ BK520.out 1 (.int .i64 a0_1) rfl
    have hfz91_0 := blk_frozen BK520.out 0
    have hfz91_1 := blk_frozen BK520.out 1
    have hnb92 := NB521_522.out
    have hnc92 := NB522_521.out
    have hcz93_0 := bc_ BK521.out 0 (.int .i64 a2_0) rfl
    have hcz93_1 := bc_ BK521.out 1 (.int .i64 a2_1) rfl
    have hfz93_0 := blk_frozen BK521.out 0
    have hfz93_1 := blk_frozen BK521.out 1
    go_upto_region 4 with (first | ((with_reducible refine gate_callee (f := 24) rfl ?_); refine gl_ Try.func24 #[.agg #[.int .i64 a0_0, .int .i64 a0_1], .agg #[.int .i64 a2_0, .int .i64 a2_1], .int .i64 a3] ?_; (with_reducible refine (spec_GateSpan.calls kj6 a0_0 a0_1 a2_0 a2_1 a3 t532 t533 t534 _ A87.out).mono ?_); rintro e w94 ⟨rfl, hb⟩; refine ⟨_, rfl, ?_⟩; replace BK520 := am_ (bb_ BK520.out hb); replace BK521 := am_ (bb_ BK521.out hb); replace BK522 := am_ (bb_ BK522.out hb); replace HB := am_ (below_step (hb3_ HB.out GE520.out GE521.out GE522.out) hb); (try clear hb); (try clear hb2); (try clear hk); (try clear hi)) | ((with_reducible refine gate_dst (N := 15) rfl ?_); refine be_ (N := 15) (cs := #[.int .i64 0, .int .i64 0]) (t := 25) ?_; intro gb535 hg w95 hbox hb; have BK535 := am_ (hbox); have GW535 := am_ (hy_ hg (hb3_ HB.out GE520.out GE521.out GE522.out) : w.heap.size ≤ gb535); have GE535 := GW535; have NB520_535 := am_ (bl_ hg BK520.out : gb520 ≠ gb535); have NB535_520 := nb_ NB520_535; have NB521_535 := am_ (bl_ hg BK521.out : gb521 ≠ gb535); have NB535_521 := nb_ NB521_535; have NB522_535 := am_ (bl_ hg BK522.out : gb522 ≠ gb535); have NB535_522 := nb_ NB522_535; replace BK520 := am_ (bb_ BK520.out hb); replace BK521 := am_ (bb_ BK521.out hb); replace BK522 := am_ (bb_ BK522.out hb); replace HB := am_ (below_step (hb3_ HB.out GE520.out GE521.out GE522.out) hb); clear hb hbox hg; have hnb96 := NB535_520.out; have hnc96 := NB520_535.out; have hnb97 := NB535_521.out; have hnc97 := NB521_535.out; have hnb98 := NB535_522.out; have hnc98 := NB522_535.out; obtain ⟨hcz99_0, hcz99_1, hfz99_0, hfz99_1⟩ := bc2_ BK535.out))
    (try simp only [Act.put, List.setIfInBounds_toArray, List.set_cons_zero, List.set_cons_succ])
    go_cut [58] (fun v58 wc => ∃ (kq : Nat) (x58_87 : Bool), v58 = .bool x58_87 ∧ Aside0 (spec_GateAsk.j1 kq a5 x58_87 a4_0 a4_1 l4_2 t532 t533 = some (r1, r2, r3)) ∧ Aside0 (kq ≤ kj6) ∧ Aside0 (wc.heap[gb520]? = some (.cells #[.int .i64 a0_0, .int .i64 a0_1] 25 (0, 0))) ∧ Aside0 (wc.heap[gb521]? = some (.cells #[.int .i64 a2_0, .int .i64 a2_1] 27 (0, 0))) ∧ Aside0 (wc.heap[gb522]? = some (.cells #[.int .i64 a4_0, .int .i64 a4_1, (.slice A4_2 l4_2.length c4_2)] 30 (0, 0))) ∧ Aside0 (wc.heap[gb535]? = some (.cells #[.int .i64 t532, .int .i64 t533] 25 (0, 0))) ∧ Aside0 (Below w.heap.size w wc))
    case first =>
     have H := HC88.out
     clear HC88
     by_cases c100 : a1 = true
     ·subst c100
      have H1 : (spec_GateAsk.j1 kj6 a5 (!t534) a4_0 a4_1 l4_2 t532 t533) = some (r1, r2, r3) := by rw [if_pos rfl] at H; exact H
      clear H
      have H := H1
      clear H1
      have H' := Aside0.mk H
      clear H
      go_wp2
      go_meet
      case rel => exact ⟨_, (!t534), (by first | rfl | (simp; done) | (simp [*]; done)), H', ⟨by have := HJ6.out; first | omega | exact Nat.le_refl _⟩, ⟨by (with_reducible repeat (first | refine blk_drewN ?_ _ | refine blk_drew ?_ | refine blk_alloc ?_ _)); refine blk_far ?_ NB520_535.out _; (with_reducible repeat (first | refine blk_drewN ?_ _ | refine blk_drew ?_ | refine blk_alloc ?_ _)); refine blk_far ?_ NB520_535.out _; (with_reducible repeat (first | refine blk_drewN ?_ _ | refine blk_drew ?_ | refine blk_alloc ?_ _)); exact BK520.out⟩, ⟨by (with_reducible repeat (first | refine blk_drewN ?_ _ | refine blk_drew ?_ | refine blk_alloc ?_ _)); refine blk_far ?_ NB521_535.out _; (with_reducible repeat (first | refine blk_drewN ?_ _ | refine blk_drew ?_ | refine blk_alloc ?_ _)); refine blk_far ?_ NB521_535.out _; (with_reducible repeat (first | refine blk_drewN ?_ _ | refine blk_drew ?_ | refine blk_alloc ?_ _)); exact BK521.out⟩, ⟨by (with_reducible repeat (first | refine blk_drewN ?_ _ | refine blk_drew ?_ | refine blk_alloc ?_ _)); refine blk_far ?_ NB522_535.out _; (with_reducible repeat (first | refine blk_drewN ?_ _ | refine blk_drew ?_ | refine blk_alloc ?_ _)); refine blk_far ?_ NB522_535.out _; (with_reducible repeat (first | refine blk_drewN ?_ _ | refine blk_drew ?_ | refine blk_alloc ?_ _)); exact BK522.out⟩, ⟨by (with_reducible repeat (first | refine blk_drewN ?_ _ | refine blk_drew ?_ | refine blk_alloc ?_ _)); refine blk_put (cs := #[.int .i64 t532, .int .i64 0]) ?_ 1 _ rfl; (with_reducible repeat (first | refine blk_drewN ?_ _ | refine blk_drew ?_ | refine blk_alloc ?_ _)); refine blk_put (cs := #[.int .i64 0, .int .i64 0]) ?_ 0 _ rfl; (with_reducible repeat (first | refine blk_drewN ?_ _ | refine blk_drew ?_ | refine blk_alloc ?_ _)); exact BK535.out⟩, ⟨hb4_ HB.out GE520.out GE521.out GE522.out GE535.out⟩⟩
     ·replace c100 := Bool.eq_false_iff.mpr c100
      subst c100
      have H1 : (spec_GateAsk.j1 kj6 a5 true a4_0 a4_1 l4_2 t532 t533) = some (r1, r2, r3) := by rw [if_neg (show ¬ (false = true) by decide)] at H; exact H
      clear H
      have H := H1
      clear H1
      have H' := Aside0.mk H
      clear H
      go_wp2
      go_meet
      case rel => exact ⟨_, (true), (by first | rfl | (simp; done) | (simp [*]; done)), H', ⟨by have := HJ6.out; first | omega | exact Nat.le_refl _⟩, ⟨by (with_reducible repeat (first | refine blk_drewN ?_ _ | refine blk_drew ?_ | refine blk_alloc ?_ _)); refine blk_far ?_ NB520_535.out _; (with_reducible repeat (first | refine blk_drewN ?_ _ | refine blk_drew ?_ | refine blk_alloc ?_ _)); refine blk_far ?_ NB520_535.out _; (with_reducible repeat (first | refine blk_drewN ?_ _ | refine blk_drew ?_ | refine blk_alloc ?_ _)); exact BK520.out⟩, ⟨by (with_reducible repeat (first | refine blk_drewN ?_ _ | refine blk_drew ?_ | refine blk_alloc ?_ _)); refine blk_far ?_ NB521_535.out _; (with_reducible repeat (first | refine blk_drewN ?_ _ | refine blk_drew ?_ | refine blk_alloc ?_ _)); refine blk_far ?_ NB521_535.out _; (with_reducible repeat (first | refine blk_drewN ?_ _ | refine blk_drew ?_ | refine blk_alloc ?_ _)); exact BK521.out⟩, ⟨by (with_reducible repeat (first | refine blk_drewN ?_ _ | refine blk_drew ?_ | refine blk_alloc ?_ _)); refine blk_far ?_ NB522_535.out _; (with_reducible repeat (first | refine blk_drewN ?_ _ | refine blk_drew ?_ | refine blk_alloc ?_ _)); refine blk_far ?_ NB522_535.out _; (with_reducible repeat (first | refine blk_drewN ?_ _ | refine blk_drew ?_ | refine blk_alloc ?_ _)); exact BK522.out⟩, ⟨by (with_reducible repeat (first | refine blk_drewN ?_ _ | refine blk_drew ?_ | refine blk_alloc ?_ _)); refine blk_put (cs := #[.int .i64 t532, .int .i64 0]) ?_ 1 _ rfl; (with_reducible repeat (first | refine blk_drewN ?_ _ | refine blk_drew ?_ | refine blk_alloc ?_ _)); refine blk_put (cs := #[.int .i64 0, .int .i64 0]) ?_ 0 _ rfl; (with_reducible repeat (first | refine blk_drewN ?_ _ | refine blk_drew ?_ | refine blk_alloc ?_ _)); exact BK535.out⟩, ⟨hb4_ HB.out GE520.out GE521.out GE522.out GE535.out⟩⟩
    case rest =>
     clear HC88
     try clear c1
     try clear c2
     try clear p2
     try clear c3
     try clear c4
     try clear c5
     try clear c6
     try clear c7
     try clear c8
     try clear c9
     try clear c10
     try clear c11
     try clear c13
     try clear c15
     try clear c17
     try clear c19
     try clear c21
     try clear c22
     try clear c24
     try clear c25
     try clear c30
     try clear c31
     try clear c34
     try clear c39
     try clear c40
     try clear c43
     try clear c46
     try clear c47
     try clear c50
     try clear c53
     try clear c54
     try clear c58
     try clear c60
     try clear c62
     try clear c64
     try clear c65
     try clear c68
     try clear c71
     try clear c72
     try clear c75
     try clear c78
     try clear c79
     try clear c82
     try clear c83
     try clear c86
     try clear c89
     try clear c90
     try clear c92
     try clear c96
     try clear c97
     try clear c98
     try clear c100
     try clear hcz23_0
     try clear hcz23_1
     try clear hcz26_0
     try clear hcz26_1
     try clear hcz28_0
     try clear hcz28_1
     try clear hcz28_2
     try clear hcz32_0
     try clear hcz32_1
     try clear hcz35_0
     try clear hcz35_1
     try clear hcz37_0
     try clear hcz37_1
     try clear hcz37_2
     try clear hcz41_0
     try clear hcz41_1
     try clear hcz44_0
     try clear hcz44_1
     try clear hcz48_0
     try clear hcz48_1
     try clear hcz51_0
     try clear hcz51_1
     try clear hcz55_0
     try clear hcz55_1
     try clear hcz66_0
     try clear hcz66_1
     try clear hcz69_0
     try clear hcz69_1
     try clear hcz69_2
     try clear hcz73_0
     try clear hcz73_1
     try clear hcz76_0
     try clear hcz76_1
     try clear hcz76_2
     try clear hcz80_0
     try clear hcz80_1
     try clear hcz84_0
     try clear hcz84_1
     try clear hcz91_0
     try clear hcz91_1
     try clear hcz93_0
     try clear hcz93_1
     try clear hcz99_0
     try clear hcz99_1
     try clear hfz23_0
     try clear hfz23_1
     try clear hfz26_0
     try clear hfz26_1
     try clear hfz28_0
     try clear hfz28_1
     try clear hfz28_2
     try clear hfz32_0
     try clear hfz32_1
     try clear hfz35_0
     try clear hfz35_1
     try clear hfz37_0
     try clear hfz37_1
     try clear hfz37_2
     try clear hfz41_0
     try clear hfz41_1
     try clear hfz44_0
     try clear hfz44_1
     try clear hfz48_0
     try clear hfz48_1
     try clear hfz51_0
     try clear hfz51_1
     try clear hfz55_0
     try clear hfz55_1
     try clear hfz66_0
     try clear hfz66_1
     try clear hfz69_0
     try clear hfz69_1
     try clear hfz69_2
     try clear hfz73_0
     try clear hfz73_1
     try clear hfz76_0
     try clear hfz76_1
     try clear hfz76_2
     try clear hfz80_0
     try clear hfz80_1
     try clear hfz84_0
     try clear hfz84_1
     try clear hfz91_0
     try clear hfz91_1
     try clear hfz93_0
     try clear hfz93_1
     try clear hfz99_0
     try clear hfz99_1
     try clear p2
     obtain ⟨kq, x58_87, rfl, HA, HJ87, BK520, BK521, BK522, BK535, HB⟩ := hcut
     cases kq with
     | zero => exact absurd HA.out (by simp [spec_GateAsk.j1])
     | succ kj87 =>
      have H := HA.out
      clear HA
      simp only [spec_GateAsk.j1] at H
      by_cases c101 : x58_87 = true
      ·subst c101
       have H1 : (some (0, 0, 2)) = some (r1, r2, r3) := by rw [if_pos rfl] at H; exact H
       clear H
       have H := H1
       clear H1
       simp only [Option.some.injEq, Prod.mk.injEq] at H
       obtain ⟨rfl, rfl, rfl⟩ := H
       go_wp2
       go_ret3
       exact ⟨er_, hb4_ HB.out GE520.out GE521.out GE522.out GE535.out⟩
      ·replace c101 := Bool.eq_false_iff.mpr c101
       subst c101
       have H1 : ((spec_InSlot.f kj87 a4_0 a4_1 l4_2 a5 t532 t533).bind fun bt536 => (if bt536.2.2 = true then (some (bt536.1, bt536.2.1, 0)) else (some (0, 0, 2)))) = some (r1, r2, r3) := by rw [if_neg (show ¬ (false = true) by decide)] at H; exact H
       clear H
       have H := H1
       clear H1
       replace H := Option.bind_eq_some_iff.mp H
       obtain ⟨⟨t536, t537, t538⟩, A1020, H⟩ := H
       replace H : (if t538 = true then (some (t536, t537, 0)) else (some (0, 0, 2))) = some (r1, r2, r3) := H
       have A102 := Aside0.mk A1020
       clear A1020
       by_cases c103 : t538 = true
       ·subst c103
        have H1 : (some (t536, t537, 0)) = some (r1, r2, r3) := by rw [if_pos rfl] at H; exact H
        clear H
        have H := H1
        clear H1
        simp only [Option.some.injEq, Prod.mk.injEq] at H
        obtain ⟨rfl, rfl, rfl⟩ := H
        have hnb104 := NB522_520.out
        have hnc104 := NB520_522.out
        have hnb105 := NB522_521.out
        have hnc105 := NB521_522.out
        have hnb106 := NB522_535.out
        have hnc106 := NB535_522.out
        have hcz107_0 := bc_ BK522.out 0 (.int .i64 a4_0) rfl
        have hcz107_1 := bc_ BK522.out 1 (.int .i64 a4_1) rfl
        have hcz107_2 := bc_ BK522.out 2 (.slice A4_2 l4_2.length c4_2) rfl
        have hfz107_0 := blk_frozen BK522.out 0
        have hfz107_1 := blk_frozen BK522.out 1
        have hfz107_2 := blk_frozen BK522.out 2
        have hnb108 := NB535_520.out
        have hnc108 := NB520_535.out
        have hnb109 := NB535_521.out
        have hnc109 := NB521_535.out
        have hcz110_0 := bc_ BK535.out 0 (.int .i64 t532) rfl
        have hcz110_1 := bc_ BK535.out 1 (.int .i64 t533) rfl
        have hfz110_0 := blk_frozen BK535.out 0
        have hfz110_1 := blk_frozen BK535.out 1
        go_wp2_with (first | ((with_reducible refine gate_callee (f := 57) rfl ?_); refine gl_ Try.func57 #[.agg #[.int .i64 a4_0, .int .i64 a4_1, .slice A4_2 l4_2.length c4_2], .int .i64 a5, .int .i64 t532, .int .i64 t533] ?_; (with_reducible refine (spec_InSlot.calls kj87 a4_0 a4_1 _ _ l4_2 a5 t532 t533 t536 t537 true _ ?side1 ?side2 A102.out).mono ?_); (case side1 => exact kc_ (Kd.C_below HR4_2.out HB.out)); (case side2 => exact HC4_2.out); rintro e w111 ⟨rfl, hb⟩; refine ⟨_, rfl, ?_⟩; replace BK520 := am_ (bb_ BK520.out hb); replace BK521 := am_ (bb_ BK521.out hb); replace BK522 := am_ (bb_ BK522.out hb); replace BK535 := am_ (bb_ BK535.out hb); replace HB := am_ (below_step (hb4_ HB.out GE520.out GE521.out GE522.out GE535.out) hb); (try clear hb); (try clear hb2); (try clear hk); (try clear hi)))
        go_ret3
        exact ⟨er_, hb4_ HB.out GE520.out GE521.out GE522.out GE535.out⟩
       ·replace c103 := Bool.eq_false_iff.mpr c103
        subst c103
        have H1 : (some (0, 0, 2)) = some (r1, r2, r3) := by rw [if_neg (show ¬ (false = true) by decide)] at H; exact H
        clear H
        have H := H1
        clear H1
        simp only [Option.some.injEq, Prod.mk.injEq] at H
        obtain ⟨rfl, rfl, rfl⟩ := H
        have hnb112 := NB522_520.out
        have hnc112 := NB520_522.out
        have hnb113 := NB522_521.out
        have hnc113 := NB521_522.out
        have hnb114 := NB522_535.out
        have hnc114 := NB535_522.out
        have hcz115_0 := bc_ BK522.out 0 (.int .i64 a4_0) rfl
        have hcz115_1 := bc_ BK522.out 1 (.int .i64 a4_1) rfl
        have hcz115_2 := bc_ BK522.out 2 (.slice A4_2 l4_2.length c4_2) rfl
        have hfz115_0 := blk_frozen BK522.out 0
        have hfz115_1 := blk_frozen BK522.out 1
        have hfz115_2 := blk_frozen BK522.out 2
        have hnb116 := NB535_520.out
        have hnc116 := NB520_535.out
        have hnb117 := NB535_521.out
        have hnc117 := NB521_535.out
        have hcz118_0 := bc_ BK535.out 0 (.int .i64 t532) rfl
        have hcz118_1 := bc_ BK535.out 1 (.int .i64 t533) rfl
        have hfz118_0 := blk_frozen BK535.out 0
        have hfz118_1 := blk_frozen BK535.out 1
        go_wp2_with (first | ((with_reducible refine gate_callee (f := 57) rfl ?_); refine gl_ Try.func57 #[.agg #[.int .i64 a4_0, .int .i64 a4_1, .slice A4_2 l4_2.length c4_2], .int .i64 a5, .int .i64 t532, .int .i64 t533] ?_; (with_reducible refine (spec_InSlot.calls kj87 a4_0 a4_1 _ _ l4_2 a5 t532 t533 t536 t537 false _ ?side1 ?side2 A102.out).mono ?_); (case side1 => exact kc_ (Kd.C_below HR4_2.out HB.out)); (case side2 => exact HC4_2.out); rintro e w119 ⟨rfl, hb⟩; refine ⟨_, rfl, ?_⟩; replace BK520 := am_ (bb_ BK520.out hb); replace BK521 := am_ (bb_ BK521.out hb); replace BK522 := am_ (bb_ BK522.out hb); replace BK535 := am_ (bb_ BK535.out hb); replace HB := am_ (below_step (hb4_ HB.out GE520.out GE521.out GE522.out GE535.out) hb); (try clear hb); (try clear hb2); (try clear hk); (try clear hi)))
        go_ret3
        exact ⟨er_, hb4_ HB.out GE520.out GE521.out GE522.out GE535.out⟩
end Go.Proofs.Ytllpmpfchidhoaa.P

namespace Go.Proofs.Ytllpmpfchidhoaa.P
open Go.RowKit Go.Proofs.YtllpmpfchidhoaaW.PrintWords Go.Proofs.YtllpmpfchidhoaaW.PrintLast Go.Proofs.YtllpmpfchidhoaaW.PrintMore
attribute [local go_sem] max2_int min2_int max_two min_two max_three min_three max_four min_four
set_option linter.unusedVariables false
set_option linter.unusedSimpArgs false
def spec_l1Up.f (a0 : Int) (a1 : Int) : Option (Int) := (spec_l1Down.f (wrap64 (-a0)) a1).bind fun t539 => (some (wrap64 (-t539)))
set_option maxHeartbeats 8000000 in
set_option maxRecDepth 100000 in
theorem spec_l1Up.calls (a0 : Int) (a1 : Int) (r : Int) (w : World) (h : spec_l1Up.f a0 a1 = some r) :
  Calls Try.prog 65 #[.int .i64 a0, .int .i64 a1] w fun e w' => e = .returned (.int .i64 r) ∧ Drawn0 w w' := by
 have H : ((spec_l1Down.f (wrap64 (-a0)) a1).bind fun t539 => (some (wrap64 (-t539)))) = some r := h
 clear h
 replace H := Option.bind_eq_some_iff.mp H
 obtain ⟨t539, A30, H⟩ := H
 replace H : (some (wrap64 (-t539))) = some r := H
 have A3 := Aside0.mk A30
 clear A30
 obtain rfl := Option.some.inj H
 go_enter Try.func65, Try.ntmps65
 go_wp2_with (first | ((with_reducible refine gate_callee (f := 64) rfl ?_); refine gl_ Try.func64 #[.int .i64 (wrap64 (-a0)), .int .i64 a1] ?_; (with_reducible refine (spec_l1Down.calls (wrap64 (-a0)) a1 t539 _ A3.out).mono ?_); rintro e w' ⟨rfl, ⟨nd, rfl⟩⟩; refine ⟨_, rfl, ?_⟩))
 go_ret
 exact ⟨by first | rfl | (simp; done) | (simp [*]; done), by repeat (first | exact Drawn0.refl _ | apply Drawn0.step)⟩
def spec_LeastTime.j0 : Nat → Int → Bool → Int → Int → Option (Int × Bool)
 | 0, _, _, _, _ => none
 | k + 1, x1, x13, x541000, x541001 => if x13 = true then (some (0, false)) else ((spec_l1Up.f (wrap64 (x1 * x541001)) (wrap64 (x541001 + x541000))).bind fun t543 => ((spec_l2Told.f t543).bind fun bt544 => (some (bt544.1, bt544.2))))
def spec_LeastTime.f (k : Nat) (a0_0 : Int) (a0_1 : Int) (a1 : Int) : Option (Int × Bool) := (spec_DriftOk.f a0_0 a0_1).bind fun t541 => (if t541 = true then ((spec_l2Time.f a1).bind fun t542 => (spec_LeastTime.j0 k a1 (!t542) a0_0 a0_1)) else (spec_LeastTime.j0 k a1 true a0_0 a0_1))
set_option maxHeartbeats 8000000 in
set_option maxRecDepth 100000 in
theorem spec_LeastTime.calls (k : Nat) (a0_0 : Int) (a0_1 : Int) (a1 : Int) (r1 : Int) (r2 : Bool) (w : World) (h : spec_LeastTime.f k a0_0 a0_1 a1 = some (r1, r2)) :
  Calls Try.prog 14 #[.agg #[.int .i64 a0_0, .int .i64 a0_1], .int .i64 a1] w fun e w' => e = .returned (.tuple #[.int .i64 r1, .bool r2]) ∧ Below w.heap.size w w' := by
 have hu27 := Try.underlying27
 have HB := am_ (Below.refl w.heap.size w)
 have H : ((spec_DriftOk.f a0_0 a0_1).bind fun t541 => (if t541 = true then ((spec_l2Time.f a1).bind fun t542 => (spec_LeastTime.j0 k a1 (!t542) a0_0 a0_1)) else (spec_LeastTime.j0 k a1 true a0_0 a0_1))) = some (r1, r2) := h
 clear h
 have HC3 := Aside0.mk H
 clear H
 go_enter Try.func14, Try.ntmps14
 go_upto_region 1 with (first | ((with_reducible refine gate_dst (N := 2) rfl ?_); refine be_ (N := 2) (cs := #[.int .i64 a0_0, .int .i64 a0_1]) (t := 27) ?_; intro gb540 hg w4 hbox hb; have BK540 := am_ (hbox); have GW540 := am_ (hy_ hg (hb_ HB.out) : w.heap.size ≤ gb540); have GE540 := GW540; replace HB := am_ (below_step (hb_ HB.out) hb); clear hb hbox hg))
 (try simp only [Act.put, List.setIfInBounds_toArray, List.set_cons_zero, List.set_cons_succ])
 go_cut [13] (fun v13 wc => ∃ (kq : Nat) (x13_2 : Bool), v13 = .bool x13_2 ∧ Aside0 (spec_LeastTime.j0 kq a1 x13_2 a0_0 a0_1 = some (r1, r2)) ∧ Aside0 (kq ≤ k) ∧ Aside0 (wc.heap[gb540]? = some (.cells #[.int .i64 a0_0, .int .i64 a0_1] 27 (0, 0))) ∧ Aside0 (Below w.heap.size w wc))
 case first =>
  have H := HC3.out
  clear HC3
  replace H := Option.bind_eq_some_iff.mp H
  obtain ⟨t541, A50, H⟩ := H
  replace H : (if t541 = true then ((spec_l2Time.f a1).bind fun t542 => (spec_LeastTime.j0 k a1 (!t542) a0_0 a0_1)) else (spec_LeastTime.j0 k a1 true a0_0 a0_1)) = some (r1, r2) := H
  have A5 := Aside0.mk A50
  clear A50
  by_cases c6 : t541 = true
  ·subst c6
   have H1 : ((spec_l2Time.f a1).bind fun t542 => (spec_LeastTime.j0 k a1 (!t542) a0_0 a0_1)) = some (r1, r2) := by rw [if_pos rfl] at H; exact H
   clear H
   have H := H1
   clear H1
   replace H := Option.bind_eq_some_iff.mp H
   obtain ⟨t542, A70, H⟩ := H
   replace H : (spec_LeastTime.j0 k a1 (!t542) a0_0 a0_1) = some (r1, r2) := H
   have A7 := Aside0.mk A70
   clear A70
   have H' := Aside0.mk H
   clear H
   have hcz8_0 := bc_ BK540.out 0 (.int .i64 a0_0) rfl
   have hcz8_1 := bc_ BK540.out 1 (.int .i64 a0_1) rfl
   have hfz8_0 := blk_frozen BK540.out 0
   have hfz8_1 := blk_frozen BK540.out 1
   go_wp2_with (first | ((with_reducible refine gate_callee (f := 53) rfl ?_); refine gl_ Try.func53 #[.agg #[.int .i64 a0_0, .int .i64 a0_1]] ?_; (with_reducible refine (spec_DriftOk.calls a0_0 a0_1 true _ A5.out).mono ?_); rintro e w9 ⟨rfl, hb⟩; refine ⟨_, rfl, ?_⟩; replace BK540 := am_ (bb_ BK540.out hb); replace HB := am_ (below_step (hb1_ HB.out GE540.out) hb); (try clear hb); (try clear hb2); (try clear hk); (try clear hi)) | (go_at_call 62; (with_reducible refine (spec_l2Time.calls a1 t542 _ A7.out).mono ?_); rintro e w' ⟨rfl, ⟨nd, rfl⟩⟩))
   go_meet
   case rel => exact ⟨_, (!t542), (by first | rfl | (simp; done) | (simp [*]; done)), H', ⟨by first | omega | exact Nat.le_refl _⟩, ⟨bk_ BK540.out⟩, ⟨hb1_ HB.out GE540.out⟩⟩
  ·replace c6 := Bool.eq_false_iff.mpr c6
   subst c6
   have H1 : (spec_LeastTime.j0 k a1 true a0_0 a0_1) = some (r1, r2) := by rw [if_neg (show ¬ (false = true) by decide)] at H; exact H
   clear H
   have H := H1
   clear H1
   have H' := Aside0.mk H
   clear H
   have hcz10_0 := bc_ BK540.out 0 (.int .i64 a0_0) rfl
   have hcz10_1 := bc_ BK540.out 1 (.int .i64 a0_1) rfl
   have hfz10_0 := blk_frozen BK540.out 0
   have hfz10_1 := blk_frozen BK540.out 1
   go_wp2_with (first | ((with_reducible refine gate_callee (f := 53) rfl ?_); refine gl_ Try.func53 #[.agg #[.int .i64 a0_0, .int .i64 a0_1]] ?_; (with_reducible refine (spec_DriftOk.calls a0_0 a0_1 false _ A5.out).mono ?_); rintro e w11 ⟨rfl, hb⟩; refine ⟨_, rfl, ?_⟩; replace BK540 := am_ (bb_ BK540.out hb); replace HB := am_ (below_step (hb1_ HB.out GE540.out) hb); (try clear hb); (try clear hb2); (try clear hk); (try clear hi)))
   go_meet
   case rel => exact ⟨_, (true), (by first | rfl | (simp; done) | (simp [*]; done)), H', ⟨by first | omega | exact Nat.le_refl _⟩, ⟨bk_ BK540.out⟩, ⟨hb1_ HB.out GE540.out⟩⟩
 case rest =>
  clear HC3
  try clear c1
  try clear p2
  try clear c5
  try clear c6
  try clear hcz10_0
  try clear hcz10_1
  try clear hcz8_0
  try clear hcz8_1
  try clear hfz10_0
  try clear hfz10_1
  try clear hfz8_0
  try clear hfz8_1
  obtain ⟨kq, x13_2, rfl, HA, HJ2, BK540, HB⟩ := hcut
  cases kq with
  | zero => exact absurd HA.out (by simp [spec_LeastTime.j0])
  | succ kj2 =>
   have H := HA.out
   clear HA
   simp only [spec_LeastTime.j0] at H
   by_cases c12 : x13_2 = true
   ·subst c12
    have H1 : (some (0, false)) = some (r1, r2) := by rw [if_pos rfl] at H; exact H
    clear H
    have H := H1
    clear H1
    simp only [Option.some.injEq, Prod.mk.injEq] at H
    obtain ⟨rfl, rfl⟩ := H
    go_wp2
    go_ret2
    exact ⟨er_, hb1_ HB.out GE540.out⟩
   ·replace c12 := Bool.eq_false_iff.mpr c12
    subst c12
    have H1 : ((spec_l1Up.f (wrap64 (a1 * a0_1)) (wrap64 (a0_1 + a0_0))).bind fun t543 => ((spec_l2Told.f t543).bind fun bt544 => (some (bt544.1, bt544.2)))) = some (r1, r2) := by rw [if_neg (show ¬ (false = true) by decide)] at H; exact H
    clear H
    have H := H1
    clear H1
    replace H := Option.bind_eq_some_iff.mp H
    obtain ⟨t543, A130, H⟩ := H
    replace H : ((spec_l2Told.f t543).bind fun bt544 => (some (bt544.1, bt544.2))) = some (r1, r2) := H
    have A13 := Aside0.mk A130
    clear A130
    replace H := Option.bind_eq_some_iff.mp H
    obtain ⟨⟨t544, t545⟩, A140, H⟩ := H
    replace H : (some (t544, t545)) = some (r1, r2) := H
    have A14 := Aside0.mk A140
    clear A140
    simp only [Option.some.injEq, Prod.mk.injEq] at H
    obtain ⟨rfl, rfl⟩ := H
    have hcz15_0 := bc_ BK540.out 0 (.int .i64 a0_0) rfl
    have hcz15_1 := bc_ BK540.out 1 (.int .i64 a0_1) rfl
    have hfz15_0 := blk_frozen BK540.out 0
    have hfz15_1 := blk_frozen BK540.out 1
    go_wp2_with (first | ((with_reducible refine gate_callee (f := 65) rfl ?_); refine gl_ Try.func65 #[.int .i64 (wrap64 (a1 * a0_1)), .int .i64 (wrap64 (a0_1 + a0_0))] ?_; (with_reducible refine (spec_l1Up.calls (wrap64 (a1 * a0_1)) (wrap64 (a0_1 + a0_0)) t543 _ A13.out).mono ?_); rintro e w' ⟨rfl, ⟨nd, rfl⟩⟩; refine ⟨_, rfl, ?_⟩) | ((with_reducible refine gate_callee (f := 63) rfl ?_); refine gl_ Try.func63 #[.int .i64 t543] ?_; (with_reducible refine (spec_l2Told.calls t543 t544 t545 _ A14.out).mono ?_); rintro e w' ⟨rfl, ⟨nd, rfl⟩⟩; refine ⟨_, rfl, ?_⟩))
    go_ret2
    exact ⟨er_, hb1_ HB.out GE540.out⟩
def laws_at.f (l0 : List Int) (a1 : Int) : Option (Int) := if a1 < (l0.length : Int) then (if 0 ≤ a1 then (some (wrap64 (rd l0 a1))) else (none)) else (some (Int.tmod (wrap64 ((wrap64 (a1 * 7)) + (l0.length : Int))) 256))
set_option maxHeartbeats 8000000 in
set_option maxRecDepth 100000 in
theorem laws_at.calls (A0 : Option Addr) (c0 : Nat) (l0 : List Int) (a1 : Int) (r : Int) (w : World) (hr0 : Kd.C (Kd.int .u8) w A0 l0.length l0) (hc0 : l0.length ≤ c0) (h : laws_at.f l0 a1 = some r) :
  Calls Try.prog 15 #[.slice A0 l0.length c0, .int .i64 a1] w fun e w' => e = .returned (.int .i64 r) ∧ Drawn0 w w' := by
 have HR0 := Aside0.mk hr0
 have HC0 := Aside0.mk hc0
 clear hr0 hc0
 have H : (if a1 < (l0.length : Int) then (if 0 ≤ a1 then (some (wrap64 (rd l0 a1))) else (none)) else (some (Int.tmod (wrap64 ((wrap64 (a1 * 7)) + (l0.length : Int))) 256))) = some r := h
 clear h
 by_cases c3 : a1 < (l0.length : Int)
 ·rw [if_pos c3] at H
  have c3b0 : decide (a1 < (l0.length : Int)) = true := decide_eq_true c3
  clear c3
  by_cases c4 : 0 ≤ a1
  ·rw [if_pos c4] at H
   have c4b0 : decide (0 ≤ a1) = true := decide_eq_true c4
   clear c4
   obtain rfl := Option.some.inj H
   have p546 : 0 ≤ (a1 : Int) := of_decide_eq_true (by first | (with_reducible assumption) | assumption)
   have q546 : a1 < (l0.length : Int) := of_decide_eq_true (by first | (with_reducible assumption) | assumption)
   obtain ⟨ad546, e546, hx546_0⟩ := Kd.at_int HR0.out a1 p546 q546
   cases e546
   replace p546 := eq_true p546
   replace q546 := eq_true q546
   go_enter Try.func15, Try.ntmps15
   go_wp2
   go_ret
   exact ⟨by first | rfl | (simp; done) | (simp [*]; done), by repeat (first | exact Drawn0.refl _ | apply Drawn0.step)⟩
  ·rw [if_neg c4] at H
   exact absurd H (by simp)
 ·rw [if_neg c3] at H
  have c3b0 : decide (a1 < (l0.length : Int)) = false := decide_eq_false c3
  clear c3
  obtain rfl := Option.some.inj H
  go_enter Try.func15, Try.ntmps15
  go_wp2
  go_ret
  exact ⟨by first | rfl | (simp; done) | (simp [*]; done), by repeat (first | exact Drawn0.refl _ | apply Drawn0.step)⟩
def spec_Wide.f (a0_0 : Int) (a0_1 : Int) : Option (Int) := (spec_IvalOk.f a0_0 a0_1).bind fun t548 => (if t548 = true then (some (wrap64 (a0_1 - a0_0))) else (some (-1)))
set_option maxHeartbeats 8000000 in
set_option maxRecDepth 100000 in
theorem spec_Wide.calls (a0_0 : Int) (a0_1 : Int) (r : Int) (w : World) (h : spec_Wide.f a0_0 a0_1 = some r) :
  Calls Try.prog 16 #[.agg #[.int .i64 a0_0, .int .i64 a0_1]] w fun e w' => e = .returned (.int .i64 r) ∧ Below w.heap.size w w' := by
 have hu25 := Try.underlying25
 have HB := am_ (Below.refl w.heap.size w)
 have H : ((spec_IvalOk.f a0_0 a0_1).bind fun t548 => (if t548 = true then (some (wrap64 (a0_1 - a0_0))) else (some (-1)))) = some r := h
 clear h
 replace H := Option.bind_eq_some_iff.mp H
 obtain ⟨t548, A20, H⟩ := H
 replace H : (if t548 = true then (some (wrap64 (a0_1 - a0_0))) else (some (-1))) = some r := H
 have A2 := Aside0.mk A20
 clear A20
 by_cases c3 : t548 = true
 ·subst c3
  have H1 : (some (wrap64 (a0_1 - a0_0))) = some r := by rw [if_pos rfl] at H; exact H
  clear H
  have H := H1
  clear H1
  obtain rfl := Option.some.inj H
  go_enter Try.func16, Try.ntmps16
  go_wp2_with (first | ((with_reducible refine gate_dst (N := 1) rfl ?_); refine be_ (N := 1) (cs := #[.int .i64 a0_0, .int .i64 a0_1]) (t := 25) ?_; intro gb547 hg w4 hbox hb; have BK547 := am_ (hbox); have GW547 := am_ (hy_ hg (hb_ HB.out) : w.heap.size ≤ gb547); have GE547 := GW547; replace HB := am_ (below_step (hb_ HB.out) hb); clear hb hbox hg; obtain ⟨hcz5_0, hcz5_1, hfz5_0, hfz5_1⟩ := bc2_ BK547.out) | ((with_reducible refine gate_callee (f := 52) rfl ?_); refine gl_ Try.func52 #[.agg #[.int .i64 a0_0, .int .i64 a0_1]] ?_; (with_reducible refine (spec_IvalOk.calls a0_0 a0_1 true _ A2.out).mono ?_); rintro e w6 ⟨rfl, hb⟩; refine ⟨_, rfl, ?_⟩; replace BK547 := am_ (bb_ BK547.out hb); replace HB := am_ (below_step (hb1_ HB.out GE547.out) hb); (try clear hb); (try clear hb2); (try clear hk); (try clear hi); obtain ⟨hcz7_0, hcz7_1, hfz7_0, hfz7_1⟩ := bc2_ BK547.out))
  go_ret
  exact ⟨er_, hb1_ HB.out GE547.out⟩
 ·replace c3 := Bool.eq_false_iff.mpr c3
  subst c3
  have H1 : (some (-1)) = some r := by rw [if_neg (show ¬ (false = true) by decide)] at H; exact H
  clear H
  have H := H1
  clear H1
  obtain rfl := Option.some.inj H
  go_enter Try.func16, Try.ntmps16
  go_wp2_with (first | ((with_reducible refine gate_dst (N := 1) rfl ?_); refine be_ (N := 1) (cs := #[.int .i64 a0_0, .int .i64 a0_1]) (t := 25) ?_; intro gb547 hg w8 hbox hb; have BK547 := am_ (hbox); have GW547 := am_ (hy_ hg (hb_ HB.out) : w.heap.size ≤ gb547); have GE547 := GW547; replace HB := am_ (below_step (hb_ HB.out) hb); clear hb hbox hg; obtain ⟨hcz9_0, hcz9_1, hfz9_0, hfz9_1⟩ := bc2_ BK547.out) | ((with_reducible refine gate_callee (f := 52) rfl ?_); refine gl_ Try.func52 #[.agg #[.int .i64 a0_0, .int .i64 a0_1]] ?_; (with_reducible refine (spec_IvalOk.calls a0_0 a0_1 false _ A2.out).mono ?_); rintro e w10 ⟨rfl, hb⟩; refine ⟨_, rfl, ?_⟩; replace BK547 := am_ (bb_ BK547.out hb); replace HB := am_ (below_step (hb1_ HB.out GE547.out) hb); (try clear hb); (try clear hb2); (try clear hk); (try clear hi)))
  go_ret
  exact ⟨er_, hb1_ HB.out GE547.out⟩
end Go.Proofs.Ytllpmpfchidhoaa.P
