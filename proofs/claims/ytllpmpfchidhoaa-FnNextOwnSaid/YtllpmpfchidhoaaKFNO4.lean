/- Texts of the seat's proofs, part 4: functions of the program told as plain functions, with their contracts, and what is shown of them. No condition. -/
import Derived.Test.YtllpmpfchidhoaaUKFNO
import Derived.Test.YtllpmpfchidhoaaKFNO1
import Derived.Test.YtllpmpfchidhoaaKFNO3
import Derived.Test.YtllpmpfchidhoaaKFNO2
set_option linter.unusedVariables false
set_option linter.unusedSimpArgs false
namespace Go.Proofs.Ytllpmpfchidhoaa.P
open Go.RowKit Go.Proofs.YtllpmpfchidhoaaW.PrintWords Go.Proofs.YtllpmpfchidhoaaW.PrintLast Go.Proofs.YtllpmpfchidhoaaW.PrintMore
attribute [local go_sem] max2_int min2_int max_two min_two max_three min_three max_four min_four
set_option linter.unusedVariables false
set_option linter.unusedSimpArgs false
def spec_RoundOf.f (k : Nat) (a0_0 : Int) (a0_1 : Int) (l0_2 : List (S42)) : Option (Int) := (spec_PlanOk.f k a0_0 a0_1 l0_2).bind fun t267 => (if t267 = true then ((spec_l13Upto.f k a0_0 a0_1 l0_2 (l0_2.length : Int)).bind fun t268 => (some t268)) else (some 0))
set_option maxHeartbeats 8000000 in
set_option maxRecDepth 100000 in
theorem spec_RoundOf.calls (k : Nat) (a0_0 : Int) (a0_1 : Int) (A0_2 : Option Addr) (c0_2 : Nat) (l0_2 : List (S42)) (r : Int) (w : World) (hr0_2 : Kd.C k42 w A0_2 l0_2.length l0_2) (hc0_2 : l0_2.length ≤ c0_2) (h : spec_RoundOf.f k a0_0 a0_1 l0_2 = some r) :
  Calls Try.prog 25 #[.agg #[.int .i64 a0_0, .int .i64 a0_1, .slice A0_2 l0_2.length c0_2]] w fun e w' => e = .returned (.int .i64 r) ∧ Below w.heap.size w w' := by
 have hu30 := Try.underlying30; have HR0_2 := Aside0.mk hr0_2; have HC0_2 := Aside0.mk hc0_2; clear hr0_2 hc0_2; have HB := am_ (Below.refl w.heap.size w); have H : ((spec_PlanOk.f k a0_0 a0_1 l0_2).bind fun t267 => (if t267 = true then ((spec_l13Upto.f k a0_0 a0_1 l0_2 (l0_2.length : Int)).bind fun t268 => (some t268)) else (some 0))) = some r := h; clear h; obtain ⟨t267, A2, H⟩ := ab_ H; by_cases c3 : t267 = true
 ·subst c3; replace H := i1_ H; obtain ⟨t268, A4, H⟩ := ab_ H; obtain rfl := Option.some.inj H; go_enter Try.func25, Try.ntmps25
  go_wp2_with (first | ((with_reducible refine gate_dst (N := 1) rfl ?_); refine be_ (N := 1) (cs := #[.int .i64 a0_0, .int .i64 a0_1, .slice A0_2 l0_2.length c0_2]) (t := 30) ?_; intro gb266 hg w5 hbox hb; have BK266 := am_ (hbox); have GW266 := am_ (hy_ hg (hb_ HB.out) : w.heap.size ≤ gb266); have GE266 := GW266; replace HB := am_ (below_step (hb_ HB.out) hb); clear hb hbox hg; obtain ⟨hcz6_0, hcz6_1, hcz6_2, hfz6_0, hfz6_1, hfz6_2⟩ := bc3_ BK266.out) | ((with_reducible refine gate_callee (f := 55) rfl ?_); refine gl_ Try.func55 #[.agg #[.int .i64 a0_0, .int .i64 a0_1, .slice A0_2 l0_2.length c0_2]] ?_; (with_reducible refine (spec_PlanOk.calls k a0_0 a0_1 _ _ l0_2 true _ ?side1 ?side2 A2.out).mono ?_); (case side1 => exact kc_ (Kd.C_below HR0_2.out HB.out)); (case side2 => exact HC0_2.out); rintro e w7 ⟨rfl, hb⟩; refine ⟨_, rfl, ?_⟩; replace BK266 := am_ (bb_ BK266.out hb); replace HB := am_ (below_step (hb1_ HB.out GE266.out) hb); (try clear hb); (try clear hb2); (try clear hk); (try clear hi); obtain ⟨hcz8_0, hcz8_1, hcz8_2, hfz8_0, hfz8_1, hfz8_2⟩ := bc3_ BK266.out) | ((with_reducible refine gate_callee (f := 77) rfl ?_); refine gl_ Try.func77 #[.agg #[.int .i64 a0_0, .int .i64 a0_1, .slice A0_2 l0_2.length c0_2], .int .i64 (l0_2.length : Int)] ?_; (with_reducible refine (spec_l13Upto.calls k a0_0 a0_1 _ _ l0_2 (l0_2.length : Int) t268 _ ?side1 ?side2 A4.out).mono ?_); (case side1 => exact kc_ (Kd.C_below HR0_2.out HB.out)); (case side2 => exact HC0_2.out); rintro e w9 ⟨rfl, hb⟩; refine ⟨_, rfl, ?_⟩; replace BK266 := am_ (bb_ BK266.out hb); replace HB := am_ (below_step (hb1_ HB.out GE266.out) hb); (try clear hb); (try clear hb2); (try clear hk); (try clear hi)))
  go_ret
  exact ⟨er_, hb1_ HB.out GE266.out⟩
 ·replace c3 := Bool.eq_false_iff.mpr c3; subst c3; replace H := i0_ H; obtain rfl := Option.some.inj H; go_enter Try.func25, Try.ntmps25
  go_wp2_with (first | ((with_reducible refine gate_dst (N := 1) rfl ?_); refine be_ (N := 1) (cs := #[.int .i64 a0_0, .int .i64 a0_1, .slice A0_2 l0_2.length c0_2]) (t := 30) ?_; intro gb266 hg w10 hbox hb; have BK266 := am_ (hbox); have GW266 := am_ (hy_ hg (hb_ HB.out) : w.heap.size ≤ gb266); have GE266 := GW266; replace HB := am_ (below_step (hb_ HB.out) hb); clear hb hbox hg; obtain ⟨hcz11_0, hcz11_1, hcz11_2, hfz11_0, hfz11_1, hfz11_2⟩ := bc3_ BK266.out) | ((with_reducible refine gate_callee (f := 55) rfl ?_); refine gl_ Try.func55 #[.agg #[.int .i64 a0_0, .int .i64 a0_1, .slice A0_2 l0_2.length c0_2]] ?_; (with_reducible refine (spec_PlanOk.calls k a0_0 a0_1 _ _ l0_2 false _ ?side1 ?side2 A2.out).mono ?_); (case side1 => exact kc_ (Kd.C_below HR0_2.out HB.out)); (case side2 => exact HC0_2.out); rintro e w12 ⟨rfl, hb⟩; refine ⟨_, rfl, ?_⟩; replace BK266 := am_ (bb_ BK266.out hb); replace HB := am_ (below_step (hb1_ HB.out GE266.out) hb); (try clear hb); (try clear hb2); (try clear hk); (try clear hi)))
  go_ret
  exact ⟨er_, hb1_ HB.out GE266.out⟩
def spec_l13Slot.f (k : Nat) (a0_0 : Int) (a0_1 : Int) (l0_2 : List (S42)) (a1 : Int) : Option (Bool) := (spec_PlanOk.f k a0_0 a0_1 l0_2).bind fun t270 => (if t270 = true then ((spec_l1In.f a1 0 (wrap64 ((l0_2.length : Int) - 1))).bind fun t271 => (some t271)) else (some false))
set_option maxHeartbeats 8000000 in
set_option maxRecDepth 100000 in
theorem spec_l13Slot.calls (k : Nat) (a0_0 : Int) (a0_1 : Int) (A0_2 : Option Addr) (c0_2 : Nat) (l0_2 : List (S42)) (a1 : Int) (r : Bool) (w : World) (hr0_2 : Kd.C k42 w A0_2 l0_2.length l0_2) (hc0_2 : l0_2.length ≤ c0_2) (h : spec_l13Slot.f k a0_0 a0_1 l0_2 a1 = some r) :
  Calls Try.prog 78 #[.agg #[.int .i64 a0_0, .int .i64 a0_1, .slice A0_2 l0_2.length c0_2], .int .i64 a1] w fun e w' => e = .returned (.bool r) ∧ Below w.heap.size w w' := by
 have hu30 := Try.underlying30; have HR0_2 := Aside0.mk hr0_2; have HC0_2 := Aside0.mk hc0_2; clear hr0_2 hc0_2; have HB := am_ (Below.refl w.heap.size w); have H : ((spec_PlanOk.f k a0_0 a0_1 l0_2).bind fun t270 => (if t270 = true then ((spec_l1In.f a1 0 (wrap64 ((l0_2.length : Int) - 1))).bind fun t271 => (some t271)) else (some false))) = some r := h; clear h; obtain ⟨t270, A3, H⟩ := ab_ H; by_cases c4 : t270 = true
 ·subst c4; replace H := i1_ H; obtain ⟨t271, A5, H⟩ := ab_ H; obtain rfl := Option.some.inj H; go_enter Try.func78, Try.ntmps78
  go_wp2_with (first | ((with_reducible refine gate_dst (N := 2) rfl ?_); (try (refine gate_guard (by rfl) ?_; dsimp only)); refine be_ (N := 2) (cs := #[.int .i64 a0_0, .int .i64 a0_1, .slice A0_2 l0_2.length c0_2]) (t := 30) ?_; intro gb269 hg w6 hbox hb; have BK269 := am_ (hbox); have GW269 := am_ (hy_ hg (hb_ HB.out) : w.heap.size ≤ gb269); have GE269 := GW269; replace HB := am_ (below_step (hb_ HB.out) hb); clear hb hbox hg; obtain ⟨hcz7_0, hcz7_1, hcz7_2, hfz7_0, hfz7_1, hfz7_2⟩ := bc3_ BK269.out) | ((with_reducible refine gate_callee (f := 55) rfl ?_); refine gl_ Try.func55 #[.agg #[.int .i64 a0_0, .int .i64 a0_1, .slice A0_2 l0_2.length c0_2]] ?_; (with_reducible refine (spec_PlanOk.calls k a0_0 a0_1 _ _ l0_2 true _ ?side1 ?side2 A3.out).mono ?_); (case side1 => exact kc_ (Kd.C_below HR0_2.out HB.out)); (case side2 => exact HC0_2.out); rintro e w8 ⟨rfl, hb⟩; refine ⟨_, rfl, ?_⟩; replace BK269 := am_ (bb_ BK269.out hb); replace HB := am_ (below_step (hb1_ HB.out GE269.out) hb); (try clear hb); (try clear hb2); (try clear hk); (try clear hi); obtain ⟨hcz9_0, hcz9_1, hcz9_2, hfz9_0, hfz9_1, hfz9_2⟩ := bc3_ BK269.out) | (go_at_call 54; (with_reducible refine (spec_l1In.calls a1 0 (wrap64 ((l0_2.length : Int) - 1)) t271 _ A5.out).mono ?_); rintro e w' ⟨rfl, ⟨nd, rfl⟩⟩))
  go_ret
  exact ⟨er_, hb1_ HB.out GE269.out⟩
 ·replace c4 := Bool.eq_false_iff.mpr c4; subst c4; replace H := i0_ H; obtain rfl := Option.some.inj H; go_enter Try.func78, Try.ntmps78
  go_wp2_with (first | ((with_reducible refine gate_dst (N := 2) rfl ?_); (try (refine gate_guard (by rfl) ?_; dsimp only)); refine be_ (N := 2) (cs := #[.int .i64 a0_0, .int .i64 a0_1, .slice A0_2 l0_2.length c0_2]) (t := 30) ?_; intro gb269 hg w10 hbox hb; have BK269 := am_ (hbox); have GW269 := am_ (hy_ hg (hb_ HB.out) : w.heap.size ≤ gb269); have GE269 := GW269; replace HB := am_ (below_step (hb_ HB.out) hb); clear hb hbox hg; obtain ⟨hcz11_0, hcz11_1, hcz11_2, hfz11_0, hfz11_1, hfz11_2⟩ := bc3_ BK269.out) | ((with_reducible refine gate_callee (f := 55) rfl ?_); refine gl_ Try.func55 #[.agg #[.int .i64 a0_0, .int .i64 a0_1, .slice A0_2 l0_2.length c0_2]] ?_; (with_reducible refine (spec_PlanOk.calls k a0_0 a0_1 _ _ l0_2 false _ ?side1 ?side2 A3.out).mono ?_); (case side1 => exact kc_ (Kd.C_below HR0_2.out HB.out)); (case side2 => exact HC0_2.out); rintro e w12 ⟨rfl, hb⟩; refine ⟨_, rfl, ?_⟩; replace BK269 := am_ (bb_ BK269.out hb); replace HB := am_ (below_step (hb1_ HB.out GE269.out) hb); (try clear hb); (try clear hb2); (try clear hk); (try clear hi)))
  go_ret
  exact ⟨er_, hb1_ HB.out GE269.out⟩
def spec_IvalOk.f (a0_0 : Int) (a0_1 : Int) : Option (Bool) := if a0_0 ≤ a0_1 then ((spec_l1In.f a0_0 (-1000000000000) 1000000000000).bind fun t273 => (if t273 = true then ((spec_l1In.f a0_1 (-1000000000000) 1000000000000).bind fun t274 => (some t274)) else (some false))) else (some false)
set_option maxHeartbeats 8000000 in
set_option maxRecDepth 100000 in
theorem spec_IvalOk.calls (a0_0 : Int) (a0_1 : Int) (r : Bool) (w : World) (h : spec_IvalOk.f a0_0 a0_1 = some r) :
  Calls Try.prog 52 #[.agg #[.int .i64 a0_0, .int .i64 a0_1]] w fun e w' => e = .returned (.bool r) ∧ Below w.heap.size w w' := by
 have hu25 := Try.underlying25; have HB := am_ (Below.refl w.heap.size w); have H : (if a0_0 ≤ a0_1 then ((spec_l1In.f a0_0 (-1000000000000) 1000000000000).bind fun t273 => (if t273 = true then ((spec_l1In.f a0_1 (-1000000000000) 1000000000000).bind fun t274 => (some t274)) else (some false))) else (some false)) = some r := h; clear h; by_cases c2 : a0_0 ≤ a0_1
 ·rw [if_pos c2] at H; have c2b0 : decide (a0_0 ≤ a0_1) = true := decide_eq_true c2; clear c2; obtain ⟨t273, A3, H⟩ := ab_ H; by_cases c4 : t273 = true
  ·subst c4; replace H := i1_ H; obtain ⟨t274, A5, H⟩ := ab_ H; obtain rfl := Option.some.inj H; go_enter Try.func52, Try.ntmps52
   go_wp2_with (first | ((with_reducible refine gate_dst (N := 1) rfl ?_); refine be_ (N := 1) (cs := #[.int .i64 a0_0, .int .i64 a0_1]) (t := 25) ?_; intro gb272 hg w6 hbox hb; have BK272 := am_ (hbox); have GW272 := am_ (hy_ hg (hb_ HB.out) : w.heap.size ≤ gb272); have GE272 := GW272; replace HB := am_ (below_step (hb_ HB.out) hb); clear hb hbox hg; obtain ⟨hcz7_0, hcz7_1, hfz7_0, hfz7_1⟩ := bc2_ BK272.out) | (go_at_call 54; (with_reducible refine (spec_l1In.calls a0_0 (-1000000000000) 1000000000000 true _ A3.out).mono ?_); rintro e w' ⟨rfl, ⟨nd, rfl⟩⟩) | (go_at_call 54; (with_reducible refine (spec_l1In.calls a0_1 (-1000000000000) 1000000000000 t274 _ A5.out).mono ?_); rintro e w' ⟨rfl, ⟨nd, rfl⟩⟩))
   go_ret
   exact ⟨er_, hb1_ HB.out GE272.out⟩
  ·replace c4 := Bool.eq_false_iff.mpr c4; subst c4; replace H := i0_ H; obtain rfl := Option.some.inj H; go_enter Try.func52, Try.ntmps52
   go_wp2_with (first | ((with_reducible refine gate_dst (N := 1) rfl ?_); refine be_ (N := 1) (cs := #[.int .i64 a0_0, .int .i64 a0_1]) (t := 25) ?_; intro gb272 hg w8 hbox hb; have BK272 := am_ (hbox); have GW272 := am_ (hy_ hg (hb_ HB.out) : w.heap.size ≤ gb272); have GE272 := GW272; replace HB := am_ (below_step (hb_ HB.out) hb); clear hb hbox hg; obtain ⟨hcz9_0, hcz9_1, hfz9_0, hfz9_1⟩ := bc2_ BK272.out) | (go_at_call 54; (with_reducible refine (spec_l1In.calls a0_0 (-1000000000000) 1000000000000 false _ A3.out).mono ?_); rintro e w' ⟨rfl, ⟨nd, rfl⟩⟩))
   go_ret
   exact ⟨er_, hb1_ HB.out GE272.out⟩
 ·rw [if_neg c2] at H; have c2b0 : decide (a0_0 ≤ a0_1) = false := decide_eq_false c2; clear c2; obtain rfl := Option.some.inj H; go_enter Try.func52, Try.ntmps52
  go_wp2_with (first | ((with_reducible refine gate_dst (N := 1) rfl ?_); refine be_ (N := 1) (cs := #[.int .i64 a0_0, .int .i64 a0_1]) (t := 25) ?_; intro gb272 hg w10 hbox hb; have BK272 := am_ (hbox); have GW272 := am_ (hy_ hg (hb_ HB.out) : w.heap.size ≤ gb272); have GE272 := GW272; replace HB := am_ (below_step (hb_ HB.out) hb); clear hb hbox hg; obtain ⟨hcz11_0, hcz11_1, hfz11_0, hfz11_1⟩ := bc2_ BK272.out))
  go_ret
  exact ⟨er_, hb1_ HB.out GE272.out⟩
def spec_l1Told.f (a0 : Int) (a1 : Int) : Option (Int × Int × Bool) := (spec_IvalOk.f a0 a1).bind fun t277 => (if t277 = true then (some (a0, a1, true)) else (some (0, 0, false)))
set_option maxHeartbeats 8000000 in
set_option maxRecDepth 100000 in
theorem spec_l1Told.calls (a0 : Int) (a1 : Int) (r1 : Int) (r2 : Int) (r3 : Bool) (w : World) (h : spec_l1Told.f a0 a1 = some (r1, r2, r3)) :
  Calls Try.prog 79 #[.int .i64 a0, .int .i64 a1] w fun e w' => e = .returned (.tuple #[.agg #[.int .i64 r1, .int .i64 r2], .bool r3]) ∧ Below w.heap.size w w' := by
 have hu25 := Try.underlying25; have HB := am_ (Below.refl w.heap.size w); have H : ((spec_IvalOk.f a0 a1).bind fun t277 => (if t277 = true then (some (a0, a1, true)) else (some (0, 0, false)))) = some (r1, r2, r3) := h; clear h; obtain ⟨t277, A3, H⟩ := ab_ H; by_cases c4 : t277 = true
 ·subst c4; replace H := i1_ H; simp only [Option.some.injEq, Prod.mk.injEq] at H
  obtain ⟨rfl, rfl, rfl⟩ := H; go_enter Try.func79, Try.ntmps79
  go_wp2_with (first | ((with_reducible refine gate_dst (N := 4) rfl ?_); refine be_ (N := 4) (cs := #[.int .i64 0, .int .i64 0]) (t := 25) ?_; intro gb275 hg w5 hbox hb; have BK275 := am_ (hbox); have GW275 := am_ (hy_ hg (hb_ HB.out) : w.heap.size ≤ gb275); have GE275 := GW275; replace HB := am_ (below_step (hb_ HB.out) hb); clear hb hbox hg) | ((with_reducible refine gate_dst (N := 6) rfl ?_); refine be_ (N := 6) (cs := #[.int .i64 0, .int .i64 0]) (t := 25) ?_; intro gb276 hg w6 hbox hb; have BK276 := am_ (hbox); have GW276 := am_ (hy_ hg (hb1_ HB.out GE275.out) : w.heap.size ≤ gb276); have GE276 := GW276; have NB275_276 := am_ (bl_ hg BK275.out : gb275 ≠ gb276); have NB276_275 := nb_ NB275_276; replace BK275 := am_ (bb_ BK275.out hb); replace HB := am_ (below_step (hb1_ HB.out GE275.out) hb); clear hb hbox hg; have hnb7 := NB276_275.out; have hnc7 := NB275_276.out; obtain ⟨hcz8_0, hcz8_1, hfz8_0, hfz8_1⟩ := bc2_ BK276.out) | ((with_reducible refine gate_callee (f := 52) rfl ?_); refine gl_ Try.func52 #[.agg #[.int .i64 a0, .int .i64 a1]] ?_; (with_reducible refine (spec_IvalOk.calls a0 a1 true _ A3.out).mono ?_); rintro e w9 ⟨rfl, hb⟩; refine ⟨_, rfl, ?_⟩; replace BK275 := am_ (blk_below (g := gb275) (o := .cells #[.int .i64 0, .int .i64 0] 25 (0, 0)) (by (with_reducible repeat (first | refine blk_drewN ?_ _ | refine blk_drew ?_ | refine blk_alloc ?_ _)); refine blk_far ?_ NB275_276.out _; (with_reducible repeat (first | refine blk_drewN ?_ _ | refine blk_drew ?_ | refine blk_alloc ?_ _)); refine blk_far ?_ NB275_276.out _; (with_reducible repeat (first | refine blk_drewN ?_ _ | refine blk_drew ?_ | refine blk_alloc ?_ _)); exact BK275.out) hb); replace BK276 := am_ (blk_below (g := gb276) (o := .cells #[.int .i64 a0, .int .i64 a1] 25 (0, 0)) (by (with_reducible repeat (first | refine blk_drewN ?_ _ | refine blk_drew ?_ | refine blk_alloc ?_ _)); refine blk_put (cs := #[.int .i64 a0, .int .i64 0]) ?_ 1 _ rfl; (with_reducible repeat (first | refine blk_drewN ?_ _ | refine blk_drew ?_ | refine blk_alloc ?_ _)); refine blk_put (cs := #[.int .i64 0, .int .i64 0]) ?_ 0 _ rfl; (with_reducible repeat (first | refine blk_drewN ?_ _ | refine blk_drew ?_ | refine blk_alloc ?_ _)); exact BK276.out) hb); replace HB := am_ (below_step (hb2_ HB.out GE275.out GE276.out) hb); (try clear hb); (try clear hb2); (try clear hk); (try clear hi); obtain ⟨hcz10_0, hcz10_1, hfz10_0, hfz10_1⟩ := bc2_ BK276.out; obtain ⟨hcz11_0, hcz11_1, hfz11_0, hfz11_1⟩ := bc2_ BK275.out))
  refine bodyPost_ret (results_ct rfl _ _ gb275 25 #[.int .i64 a0, .int .i64 a1] (0, 0) _ rfl (by (with_reducible repeat (first | refine blk_drewN ?_ _ | refine blk_drew ?_ | refine blk_alloc ?_ _)); refine blk_put (cs := #[.int .i64 a0, .int .i64 0]) ?_ 1 _ rfl; (with_reducible repeat (first | refine blk_drewN ?_ _ | refine blk_drew ?_ | refine blk_alloc ?_ _)); refine blk_put (cs := #[.int .i64 0, .int .i64 0]) ?_ 0 _ rfl; (with_reducible repeat (first | refine blk_drewN ?_ _ | refine blk_drew ?_ | refine blk_alloc ?_ _)); exact BK275.out) Try.underlying25 rfl (by kernel_rfl)) rfl ?_
  exact ⟨er_, hb2_ HB.out GE275.out GE276.out⟩
 ·replace c4 := Bool.eq_false_iff.mpr c4; subst c4; replace H := i0_ H; simp only [Option.some.injEq, Prod.mk.injEq] at H
  obtain ⟨rfl, rfl, rfl⟩ := H; go_enter Try.func79, Try.ntmps79
  go_wp2_with (first | ((with_reducible refine gate_dst (N := 4) rfl ?_); refine be_ (N := 4) (cs := #[.int .i64 0, .int .i64 0]) (t := 25) ?_; intro gb275 hg w12 hbox hb; have BK275 := am_ (hbox); have GW275 := am_ (hy_ hg (hb_ HB.out) : w.heap.size ≤ gb275); have GE275 := GW275; replace HB := am_ (below_step (hb_ HB.out) hb); clear hb hbox hg) | ((with_reducible refine gate_dst (N := 6) rfl ?_); refine be_ (N := 6) (cs := #[.int .i64 0, .int .i64 0]) (t := 25) ?_; intro gb276 hg w13 hbox hb; have BK276 := am_ (hbox); have GW276 := am_ (hy_ hg (hb1_ HB.out GE275.out) : w.heap.size ≤ gb276); have GE276 := GW276; have NB275_276 := am_ (bl_ hg BK275.out : gb275 ≠ gb276); have NB276_275 := nb_ NB275_276; replace BK275 := am_ (bb_ BK275.out hb); replace HB := am_ (below_step (hb1_ HB.out GE275.out) hb); clear hb hbox hg; have hnb14 := NB276_275.out; have hnc14 := NB275_276.out; obtain ⟨hcz15_0, hcz15_1, hfz15_0, hfz15_1⟩ := bc2_ BK276.out) | ((with_reducible refine gate_callee (f := 52) rfl ?_); refine gl_ Try.func52 #[.agg #[.int .i64 a0, .int .i64 a1]] ?_; (with_reducible refine (spec_IvalOk.calls a0 a1 false _ A3.out).mono ?_); rintro e w16 ⟨rfl, hb⟩; refine ⟨_, rfl, ?_⟩; replace BK275 := am_ (blk_below (g := gb275) (o := .cells #[.int .i64 0, .int .i64 0] 25 (0, 0)) (by (with_reducible repeat (first | refine blk_drewN ?_ _ | refine blk_drew ?_ | refine blk_alloc ?_ _)); refine blk_far ?_ NB275_276.out _; (with_reducible repeat (first | refine blk_drewN ?_ _ | refine blk_drew ?_ | refine blk_alloc ?_ _)); refine blk_far ?_ NB275_276.out _; (with_reducible repeat (first | refine blk_drewN ?_ _ | refine blk_drew ?_ | refine blk_alloc ?_ _)); exact BK275.out) hb); replace BK276 := am_ (blk_below (g := gb276) (o := .cells #[.int .i64 a0, .int .i64 a1] 25 (0, 0)) (by (with_reducible repeat (first | refine blk_drewN ?_ _ | refine blk_drew ?_ | refine blk_alloc ?_ _)); refine blk_put (cs := #[.int .i64 a0, .int .i64 0]) ?_ 1 _ rfl; (with_reducible repeat (first | refine blk_drewN ?_ _ | refine blk_drew ?_ | refine blk_alloc ?_ _)); refine blk_put (cs := #[.int .i64 0, .int .i64 0]) ?_ 0 _ rfl; (with_reducible repeat (first | refine blk_drewN ?_ _ | refine blk_drew ?_ | refine blk_alloc ?_ _)); exact BK276.out) hb); replace HB := am_ (below_step (hb2_ HB.out GE275.out GE276.out) hb); (try clear hb); (try clear hb2); (try clear hk); (try clear hi); obtain ⟨hcz17_0, hcz17_1, hfz17_0, hfz17_1⟩ := bc2_ BK275.out))
  refine bodyPost_ret (results_ct rfl _ _ gb275 25 #[.int .i64 0, .int .i64 0] (0, 0) _ rfl (by (with_reducible repeat (first | refine blk_drewN ?_ _ | refine blk_drew ?_ | refine blk_alloc ?_ _)); refine blk_put (cs := #[.int .i64 0, .int .i64 0]) ?_ 1 _ rfl; (with_reducible repeat (first | refine blk_drewN ?_ _ | refine blk_drew ?_ | refine blk_alloc ?_ _)); refine blk_put (cs := #[.int .i64 0, .int .i64 0]) ?_ 0 _ rfl; (with_reducible repeat (first | refine blk_drewN ?_ _ | refine blk_drew ?_ | refine blk_alloc ?_ _)); exact BK275.out) Try.underlying25 rfl (by kernel_rfl)) rfl ?_
  exact ⟨er_, hb2_ HB.out GE275.out GE276.out⟩
def spec_Occurrence.j0 : Nat → Int → Int → Bool → Int → Int → List (S42) → Option (Int × Int × Bool)
 | 0, _, _, _, _, _, _ => none
 | k + 1, x1, x2, x24, x279000, x279001, x279002 => if x24 = true then (some (0, 0, false)) else ((spec_RoundOf.f k x279000 x279001 x279002).bind fun t283 => ((spec_l13Upto.f k x279000 x279001 x279002 x1).bind fun t284 => (if 0 ≤ x1 then (if x1 < (x279002.length : Int) then ((spec_l1Told.f (wrap64 ((wrap64 (x279000 + (wrap64 (x2 * t283)))) + t284)) (wrap64 ((wrap64 ((wrap64 (x279000 + (wrap64 (x2 * t283)))) + t284)) + ((rd_T42 x279002 x1).f1)))).bind fun bt286 => (some (bt286.1, bt286.2.1, bt286.2.2))) else (none)) else (none))))
def spec_Occurrence.f (k : Nat) (a0_0 : Int) (a0_1 : Int) (l0_2 : List (S42)) (a1 : Int) (a2 : Int) : Option (Int × Int × Bool) := (spec_l13Slot.f k a0_0 a0_1 l0_2 a1).bind fun t280 => (if t280 = true then ((spec_l1In.f a2 0 1000000000000).bind fun t281 => (if t281 = true then ((spec_RoundOf.f k a0_0 a0_1 l0_2).bind fun t282 => (if t282 = 0 then (none) else (spec_Occurrence.j0 k a1 a2 (decide (a2 > (wrap64 (Int.tdiv (1000000000000 : Int) t282)))) a0_0 a0_1 l0_2))) else (spec_Occurrence.j0 k a1 a2 true a0_0 a0_1 l0_2))) else (spec_Occurrence.j0 k a1 a2 true a0_0 a0_1 l0_2))
def spec_Occurrence.T3 : Bool × List (List Nat × List Nat) := (true, [([], []), ([0], [0]), ([], []), ([], []), ([3], [3]), ([2, 4], [2, 4]), ([1, 5], [1, 5]), ([], []), ([], []), ([7, 8, 4], [7, 8]), ([6, 9], [6, 9]), ([10, 9, 0, 1, 2, 3, 4, 5, 6, 7, 8, 9, 10], [10])])
def spec_Occurrence.B3 : List Nat := [0, 1, 0, 0, 8, 28, 63, 0, 0, 408, 1023, 2047]
theorem spec_Occurrence.tab3 : rtab .any (opsOf Try.f26 3) = spec_Occurrence.T3 := by kernel_rfl
theorem spec_Occurrence.bits3 : waitsOk spec_Occurrence.T3.2 spec_Occurrence.B3 = true := by kernel_rfl
set_option maxHeartbeats 8000000 in
set_option maxRecDepth 100000 in
theorem spec_Occurrence.calls (k : Nat) (a0_0 : Int) (a0_1 : Int) (A0_2 : Option Addr) (c0_2 : Nat) (l0_2 : List (S42)) (a1 : Int) (a2 : Int) (r1 : Int) (r2 : Int) (r3 : Bool) (w : World) (hr0_2 : Kd.C k42 w A0_2 l0_2.length l0_2) (hc0_2 : l0_2.length ≤ c0_2) (h : spec_Occurrence.f k a0_0 a0_1 l0_2 a1 a2 = some (r1, r2, r3)) :
  Calls Try.prog 26 #[.agg #[.int .i64 a0_0, .int .i64 a0_1, .slice A0_2 l0_2.length c0_2], .int .i64 a1, .int .i64 a2] w fun e w' => e = .returned (.tuple #[.agg #[.int .i64 r1, .int .i64 r2], .bool r3]) ∧ Below w.heap.size w w' := by
 have hu30 := Try.underlying30; have hu25 := Try.underlying25; have HR0_2 := Aside0.mk hr0_2; have HC0_2 := Aside0.mk hc0_2; clear hr0_2 hc0_2; have HB := am_ (Below.refl w.heap.size w); have H : ((spec_l13Slot.f k a0_0 a0_1 l0_2 a1).bind fun t280 => (if t280 = true then ((spec_l1In.f a2 0 1000000000000).bind fun t281 => (if t281 = true then ((spec_RoundOf.f k a0_0 a0_1 l0_2).bind fun t282 => (if t282 = 0 then (none) else (spec_Occurrence.j0 k a1 a2 (decide (a2 > (wrap64 (Int.tdiv (1000000000000 : Int) t282)))) a0_0 a0_1 l0_2))) else (spec_Occurrence.j0 k a1 a2 true a0_0 a0_1 l0_2))) else (spec_Occurrence.j0 k a1 a2 true a0_0 a0_1 l0_2))) = some (r1, r2, r3) := h; clear h; have HC4 := Aside0.mk H; clear H; go_enter Try.func26, Try.ntmps26
 go_upto_region 1 with (first | ((with_reducible refine gate_dst (N := 3) rfl ?_); refine be_ (N := 3) (cs := #[.int .i64 a0_0, .int .i64 a0_1, .slice A0_2 l0_2.length c0_2]) (t := 30) ?_; intro gb278 hg w5 hbox hb; have BK278 := am_ (hbox); have GW278 := am_ (hy_ hg (hb_ HB.out) : w.heap.size ≤ gb278); have GE278 := GW278; replace HB := am_ (below_step (hb_ HB.out) hb); clear hb hbox hg) | ((with_reducible refine gate_dst (N := 6) rfl ?_); refine be_ (N := 6) (cs := #[.int .i64 0, .int .i64 0]) (t := 25) ?_; intro gb279 hg w6 hbox hb; have BK279 := am_ (hbox); have GW279 := am_ (hy_ hg (hb1_ HB.out GE278.out) : w.heap.size ≤ gb279); have GE279 := GW279; have NB278_279 := am_ (bl_ hg BK278.out : gb278 ≠ gb279); have NB279_278 := nb_ NB278_279; replace BK278 := am_ (bb_ BK278.out hb); replace HB := am_ (below_step (hb1_ HB.out GE278.out) hb); clear hb hbox hg))
 (try simp only [Act.put, List.setIfInBounds_toArray, List.set_cons_zero, List.set_cons_succ]); go_cut [24] (fun v24 wc => ∃ (kq : Nat) (x24_3 : Bool), v24 = .bool x24_3 ∧ Aside0 (spec_Occurrence.j0 kq a1 a2 x24_3 a0_0 a0_1 l0_2 = some (r1, r2, r3)) ∧ Aside0 (kq ≤ k) ∧ Aside0 (wc.heap[gb278]? = some (.cells #[.int .i64 a0_0, .int .i64 a0_1, (.slice A0_2 l0_2.length c0_2)] 30 (0, 0))) ∧ Aside0 (wc.heap[gb279]? = some (.cells #[.int .i64 0, .int .i64 0] 25 (0, 0))) ∧ Aside0 (Below w.heap.size w wc))
 case first =>
  have H := HC4.out; clear HC4; obtain ⟨t280, A7, H⟩ := ab_ H; by_cases c8 : t280 = true
  ·subst c8; replace H := i1_ H; obtain ⟨t281, A9, H⟩ := ab_ H; by_cases c10 : t281 = true
   ·subst c10; replace H := i1_ H; obtain ⟨t282, A11, H⟩ := ab_ H; by_cases c12 : t282 = 0
    ·rw [if_pos c12] at H; exact absurd H (by simp)
    ·rw [if_neg c12] at H; have c12b0 : (t282 == 0) = false := beq_eq_false_iff_ne.mpr c12; have c12b1 : (t282 != 0) = true := bne_iff_ne.mpr c12; (first | rw [c12b0] | (simp only [i64_w, i32_w]; rw [c12b0]) | skip)
     have H' := Aside0.mk H; clear H; have hnb13 := NB278_279.out; have hnc13 := NB279_278.out; have hcz14_0 := bc_ BK278.out 0 (.int .i64 a0_0) rfl; have hcz14_1 := bc_ BK278.out 1 (.int .i64 a0_1) rfl; have hcz14_2 := bc_ BK278.out 2 (.slice A0_2 l0_2.length c0_2) rfl; have hfz14_0 := blk_frozen BK278.out 0; have hfz14_1 := blk_frozen BK278.out 1; have hfz14_2 := blk_frozen BK278.out 2
     go_wp2_with (first | ((with_reducible refine gate_callee (f := 78) rfl ?_); refine gl_ Try.func78 #[.agg #[.int .i64 a0_0, .int .i64 a0_1, .slice A0_2 l0_2.length c0_2], .int .i64 a1] ?_; (with_reducible refine (spec_l13Slot.calls k a0_0 a0_1 _ _ l0_2 a1 true _ ?side1 ?side2 A7.out).mono ?_); (case side1 => exact kc_ (Kd.C_below HR0_2.out HB.out)); (case side2 => exact HC0_2.out); rintro e w15 ⟨rfl, hb⟩; refine ⟨_, rfl, ?_⟩; replace BK278 := am_ (bb_ BK278.out hb); replace BK279 := am_ (bb_ BK279.out hb); replace HB := am_ (below_step (hb2_ HB.out GE278.out GE279.out) hb); (try clear hb); (try clear hb2); (try clear hk); (try clear hi)) | (go_at_call 54; (with_reducible refine (spec_l1In.calls a2 0 1000000000000 true _ A9.out).mono ?_); rintro e w' ⟨rfl, ⟨nd, rfl⟩⟩; obtain ⟨hcz16_0, hcz16_1, hcz16_2, hfz16_0, hfz16_1, hfz16_2⟩ := bc3_ BK278.out) | (go_at_call 25; (with_reducible refine (spec_RoundOf.calls k a0_0 a0_1 _ _ l0_2 t282 _ ?side1 ?side2 A11.out).mono ?_); (case side1 => repeat (first | exact (Kd.C_below HR0_2.out (hb2_ HB.out GE278.out GE279.out)) | (with_reducible refine Kd.C_alloc ?_ _) | (with_reducible refine Kd.C_drewN ?_ _) | (with_reducible refine Kd.C_drew ?_))); (case side2 => exact HC0_2.out); rintro e w17 ⟨rfl, hb⟩; replace BK278 := am_ (bb_ BK278.out hb); replace BK279 := am_ (bb_ BK279.out hb); replace HB := am_ (below_step (hb2_ HB.out GE278.out GE279.out) hb); (try clear hb); (try clear hb2); (try clear hk); (try clear hi)))
     go_meet
     case rel => exact ⟨_, (decide (a2 > (wrap64 (Int.tdiv (1000000000000 : Int) t282)))), (by first | rfl | (simp; done) | (simp [*]; done)), H', ⟨by first | omega | exact Nat.le_refl _⟩, ⟨bk_ BK278.out⟩, ⟨bk_ BK279.out⟩, ⟨hb2_ HB.out GE278.out GE279.out⟩⟩
   ·replace c10 := Bool.eq_false_iff.mpr c10; subst c10; replace H := i0_ H; have H' := Aside0.mk H; clear H; have hnb18 := NB278_279.out; have hnc18 := NB279_278.out; have hcz19_0 := bc_ BK278.out 0 (.int .i64 a0_0) rfl; have hcz19_1 := bc_ BK278.out 1 (.int .i64 a0_1) rfl; have hcz19_2 := bc_ BK278.out 2 (.slice A0_2 l0_2.length c0_2) rfl; have hfz19_0 := blk_frozen BK278.out 0; have hfz19_1 := blk_frozen BK278.out 1; have hfz19_2 := blk_frozen BK278.out 2; go_wp2_with (first | ((with_reducible refine gate_callee (f := 78) rfl ?_); refine gl_ Try.func78 #[.agg #[.int .i64 a0_0, .int .i64 a0_1, .slice A0_2 l0_2.length c0_2], .int .i64 a1] ?_; (with_reducible refine (spec_l13Slot.calls k a0_0 a0_1 _ _ l0_2 a1 true _ ?side1 ?side2 A7.out).mono ?_); (case side1 => exact kc_ (Kd.C_below HR0_2.out HB.out)); (case side2 => exact HC0_2.out); rintro e w20 ⟨rfl, hb⟩; refine ⟨_, rfl, ?_⟩; replace BK278 := am_ (bb_ BK278.out hb); replace BK279 := am_ (bb_ BK279.out hb); replace HB := am_ (below_step (hb2_ HB.out GE278.out GE279.out) hb); (try clear hb); (try clear hb2); (try clear hk); (try clear hi)) | (go_at_call 54; (with_reducible refine (spec_l1In.calls a2 0 1000000000000 false _ A9.out).mono ?_); rintro e w' ⟨rfl, ⟨nd, rfl⟩⟩))
    go_meet
    case rel => exact ⟨_, (true), (by first | rfl | (simp; done) | (simp [*]; done)), H', ⟨by first | omega | exact Nat.le_refl _⟩, ⟨bk_ BK278.out⟩, ⟨bk_ BK279.out⟩, ⟨hb2_ HB.out GE278.out GE279.out⟩⟩
  ·replace c8 := Bool.eq_false_iff.mpr c8; subst c8; replace H := i0_ H; have H' := Aside0.mk H; clear H; have hnb21 := NB278_279.out; have hnc21 := NB279_278.out; have hcz22_0 := bc_ BK278.out 0 (.int .i64 a0_0) rfl; have hcz22_1 := bc_ BK278.out 1 (.int .i64 a0_1) rfl; have hcz22_2 := bc_ BK278.out 2 (.slice A0_2 l0_2.length c0_2) rfl; have hfz22_0 := blk_frozen BK278.out 0; have hfz22_1 := blk_frozen BK278.out 1; have hfz22_2 := blk_frozen BK278.out 2; go_wp2_with (first | ((with_reducible refine gate_callee (f := 78) rfl ?_); refine gl_ Try.func78 #[.agg #[.int .i64 a0_0, .int .i64 a0_1, .slice A0_2 l0_2.length c0_2], .int .i64 a1] ?_; (with_reducible refine (spec_l13Slot.calls k a0_0 a0_1 _ _ l0_2 a1 false _ ?side1 ?side2 A7.out).mono ?_); (case side1 => exact kc_ (Kd.C_below HR0_2.out HB.out)); (case side2 => exact HC0_2.out); rintro e w23 ⟨rfl, hb⟩; refine ⟨_, rfl, ?_⟩; replace BK278 := am_ (bb_ BK278.out hb); replace BK279 := am_ (bb_ BK279.out hb); replace HB := am_ (below_step (hb2_ HB.out GE278.out GE279.out) hb); (try clear hb); (try clear hb2); (try clear hk); (try clear hi)))
   go_meet
   case rel => exact ⟨_, (true), (by first | rfl | (simp; done) | (simp [*]; done)), H', ⟨by first | omega | exact Nat.le_refl _⟩, ⟨bk_ BK278.out⟩, ⟨bk_ BK279.out⟩, ⟨hb2_ HB.out GE278.out GE279.out⟩⟩
 case rest =>
  clear HC4; (try clear c8); (try clear c10); (try clear c12); (try clear c12b0); (try clear c12b1); (try clear hcz14_0); (try clear hcz14_1); (try clear hcz14_2); (try clear hcz16_0); (try clear hcz16_1); (try clear hcz16_2); (try clear hcz19_0); (try clear hcz19_1); (try clear hcz19_2); (try clear hcz22_0); (try clear hcz22_1); (try clear hcz22_2); (try clear hfz14_0); (try clear hfz14_1); (try clear hfz14_2); (try clear hfz16_0); (try clear hfz16_1); (try clear hfz16_2); (try clear hfz19_0); (try clear hfz19_1); (try clear hfz19_2); (try clear hfz22_0); (try clear hfz22_1); (try clear hfz22_2); obtain ⟨kq, x24_3, rfl, HA, HJ3, BK278, BK279, HB⟩ := hcut
  cases kq with
  | zero => exact absurd HA.out (by simp [spec_Occurrence.j0])
  | succ kj3 =>
   have H := HA.out; clear HA; simp only [spec_Occurrence.j0] at H
   by_cases c24 : x24_3 = true
   ·subst c24; replace H := i1_ H; simp only [Option.some.injEq, Prod.mk.injEq] at H
    obtain ⟨rfl, rfl, rfl⟩ := H; have hnb25 := NB279_278.out; have hnc25 := NB278_279.out; have hcz26_0 := bc_ BK279.out 0 (.int .i64 0) rfl; have hcz26_1 := bc_ BK279.out 1 (.int .i64 0) rfl; have hfz26_0 := blk_frozen BK279.out 0; have hfz26_1 := blk_frozen BK279.out 1; go_wp2
    refine bodyPost_ret (results_ct rfl _ _ gb279 25 #[.int .i64 0, .int .i64 0] (0, 0) _ rfl (by (with_reducible repeat (first | refine blk_drewN ?_ _ | refine blk_drew ?_ | refine blk_alloc ?_ _)); refine blk_put (cs := #[.int .i64 0, .int .i64 0]) ?_ 1 _ rfl; (with_reducible repeat (first | refine blk_drewN ?_ _ | refine blk_drew ?_ | refine blk_alloc ?_ _)); refine blk_put (cs := #[.int .i64 0, .int .i64 0]) ?_ 0 _ rfl; (with_reducible repeat (first | refine blk_drewN ?_ _ | refine blk_drew ?_ | refine blk_alloc ?_ _)); exact BK279.out) Try.underlying25 rfl (by kernel_rfl)) rfl ?_
    exact ⟨er_, hb2_ HB.out GE278.out GE279.out⟩
   ·replace c24 := Bool.eq_false_iff.mpr c24; subst c24; replace H := i0_ H; obtain ⟨t283, A27, H⟩ := ab_ H; obtain ⟨t284, A28, H⟩ := ab_ H; by_cases c29 : 0 ≤ a1
    ·rw [if_pos c29] at H; have c29b0 : decide (0 ≤ a1) = true := decide_eq_true c29; clear c29; by_cases c30 : a1 < (l0_2.length : Int)
     ·rw [if_pos c30] at H; have c30b0 : decide (a1 < (l0_2.length : Int)) = true := decide_eq_true c30; clear c30; obtain ⟨⟨t286, t287, t288⟩, A31, H⟩ := ab_ H; (try dsimp only at H); simp only [Option.some.injEq, Prod.mk.injEq] at H
      obtain ⟨rfl, rfl, rfl⟩ := H; try go_wp2
      have n0_ := am_ (blk_drew BK278.out); have n1_ := am_ (blk_drew BK279.out); have n2_ := am_ (below_drew1 HB.out); clear BK278; clear BK279; clear HB; have BK278 := n0_; have BK279 := n1_; have HB := n2_; clear n0_ n1_ n2_; refine start_ (n := 12) (S := fun w' => w'.cell? ⟨gb278, 0, none⟩ = some (.int .i64 a0_0) ∧ w'.cell? ⟨gb278, 1, none⟩ = some (.int .i64 a0_1) ∧ w'.cell? ⟨gb278, 2, none⟩ = some (.slice A0_2 l0_2.length c0_2)) (ds := []) #[false, false, false, false, false, false, false, false, false, false, false, false] (by kernel_rfl) rfl rfl ⟨(blk_cell BK278.out 0).trans rfl, (blk_cell BK278.out 1).trans rfl, (blk_cell BK278.out 2).trans rfl⟩ (fun hHeld => ?_); refine with_tabW spec_Occurrence.tab3 spec_Occurrence.bits3 (fun HT_ HW_ => ?_)
      generalize wc.drew = w32 at BK278 BK279 HB hHeld ⊢
      refine pure_ (i := 0) (N := some 26) (v := ?_) (a' := ?_) #[true, false, false, false, false, false, false, false, false, false, false, false] rfl rfl (any_of HT_.out (by kernel_rfl)) (fun _ _ _ h => h) (Or.inl ⟨by rfl, ?_⟩) ?_ ?_
      rotate_left
      ·intro w'; go_simp
       with_reducible rfl
      rotate_left
      ·simp only [Act.put, List.setIfInBounds_toArray, List.set_cons_zero, List.set_cons_succ, i64_w, i32_w]
       rfl
      refine pure_ (i := 2) (N := some 28) (v := ?_) (a' := ?_) #[true, false, true, false, false, false, false, false, false, false, false, false] rfl rfl (any_of HT_.out (by kernel_rfl)) (fun _ _ _ h => h) (Or.inl ⟨by rfl, ?_⟩) ?_ ?_
      rotate_left
      ·intro w'; go_simp
       with_reducible rfl
      rotate_left
      ·simp only [Act.put, List.setIfInBounds_toArray, List.set_cons_zero, List.set_cons_succ, i64_w, i32_w]
       rfl
      refine pure_ (i := 8) (N := some 34) (v := ?_) (a' := ?_) #[true, false, true, false, false, false, false, false, true, false, false, false] rfl rfl (any_of HT_.out (by kernel_rfl)) (fun _ _ _ h => h) (Or.inl ⟨by rfl, ?_⟩) ?_ ?_
      rotate_left
      ·intro w'; go_simp
       with_reducible rfl
      rotate_left
      ·simp only [Act.put, List.setIfInBounds_toArray, List.set_cons_zero, List.set_cons_succ, i64_w, i32_w]
       rfl
      refine take_ (i := 1) (N := some 27) (v := ?_) (a' := ?_) #[true, true, true, false, false, false, false, false, true, false, false, false] rfl rfl (take_ofW HT_.out HW_.out (by kernel_rfl)) (fun _ _ _ h => h) (Or.inl ⟨by rfl, ?_⟩) hHeld ?_ ?_
      rotate_left
      ·rintro w' ⟨s0, s1, s2⟩; go_simp
       with_reducible rfl
      rotate_left
      ·simp only [Act.put, List.setIfInBounds_toArray, List.set_cons_zero, List.set_cons_succ, i64_w, i32_w]
       rfl
      refine take_ (i := 3) (N := some 29) (v := ?_) (a' := ?_) #[true, true, true, true, false, false, false, false, true, false, false, false] rfl rfl (take_ofW HT_.out HW_.out (by kernel_rfl)) (fun _ _ _ h => h) (Or.inl ⟨by rfl, ?_⟩) hHeld ?_ ?_
      rotate_left
      ·rintro w' ⟨s0, s1, s2⟩; go_simp
       with_reducible rfl
      rotate_left
      ·simp only [Act.put, List.setIfInBounds_toArray, List.set_cons_zero, List.set_cons_succ, i64_w, i32_w]
       rfl
      refine take_ (i := 7) (N := some 33) (v := ?_) (a' := ?_) #[true, true, true, true, false, false, false, true, true, false, false, false] rfl rfl (take_ofW HT_.out HW_.out (by kernel_rfl)) (fun _ _ _ h => h) (Or.inl ⟨by rfl, ?_⟩) hHeld ?_ ?_
      rotate_left
      ·rintro w' ⟨s0, s1, s2⟩; go_simp
       with_reducible rfl
      rotate_left
      ·simp only [Act.put, List.setIfInBounds_toArray, List.set_cons_zero, List.set_cons_succ, i64_w, i32_w]
       rfl
      refine one_ (i := 4) (N := some 30) #[true, true, true, true, true, false, false, true, true, false, false, false] rfl rfl (one_of HT_.out (by kernel_rfl)) (by decide) (fun K hK => ?_)
      refine goes_ Try.func25 (by kernel_rfl) rfl #[.agg #[.int .i64 a0_0, .int .i64 a0_1, .slice A0_2 l0_2.length c0_2]] (by rfl) rfl rfl arr_ ?_
      with_reducible refine (spec_RoundOf.calls kj3 a0_0 a0_1 _ _ l0_2 t283 _ ?side1 ?side2 A27.out).mono ?_
      (case side1 => exact kc_ (Kd.C_below HR0_2.out HB.out))
      (case side2 => exact HC0_2.out)
      rintro e w33 ⟨rfl, hb⟩; refine ⟨_, rfl, ?_⟩
      have n0_ := am_ (bb_ BK278.out hb); have n1_ := am_ (bb_ BK279.out hb); have n2_ := am_ (below_step (hb2_ HB.out GE278.out GE279.out) hb); clear BK278; clear BK279; clear HB; have BK278 := n0_; have BK279 := n1_; have HB := n2_; clear n0_ n1_ n2_; (try clear hb); (try clear hb2); (try clear hk); (try clear hi); refine hK.out _ _ ⟨(blk_cell BK278.out 0).trans rfl, (blk_cell BK278.out 1).trans rfl, (blk_cell BK278.out 2).trans rfl⟩ (fun hHeld => ?_)
      clear hK K; refine norm_ (a' := ?_) ?_ ?_
      rotate_left
      ·show Act.put _ (some 30) _ = _
       simp only [Act.put, List.setIfInBounds_toArray, List.set_cons_zero, List.set_cons_succ, i64_w, i32_w]
       rfl
      refine pure_ (i := 5) (N := some 31) (v := ?_) (a' := ?_) #[true, true, true, true, true, true, false, true, true, false, false, false] rfl rfl (any_of HT_.out (by kernel_rfl)) (fun _ _ _ h => h) (Or.inl ⟨by rfl, ?_⟩) ?_ ?_
      rotate_left
      ·intro w'; go_simp
       with_reducible rfl
      rotate_left
      ·simp only [Act.put, List.setIfInBounds_toArray, List.set_cons_zero, List.set_cons_succ, i64_w, i32_w]
       rfl
      refine pure_ (i := 6) (N := some 32) (v := ?_) (a' := ?_) #[true, true, true, true, true, true, true, true, true, false, false, false] rfl rfl (any_of HT_.out (by kernel_rfl)) (fun _ _ _ h => h) (Or.inl ⟨by rfl, ?_⟩) ?_ ?_
      rotate_left
      ·intro w'; go_simp
       with_reducible rfl
      rotate_left
      ·simp only [Act.put, List.setIfInBounds_toArray, List.set_cons_zero, List.set_cons_succ, i64_w, i32_w]
       rfl
      refine one_ (i := 9) (N := some 35) #[true, true, true, true, true, true, true, true, true, true, false, false] rfl rfl (one_of HT_.out (by kernel_rfl)) (by decide) (fun K hK => ?_)
      refine goes_ Try.func77 (by kernel_rfl) rfl #[.agg #[.int .i64 a0_0, .int .i64 a0_1, .slice A0_2 l0_2.length c0_2], .int .i64 a1] (by rfl) rfl rfl arr_ ?_
      with_reducible refine (spec_l13Upto.calls kj3 a0_0 a0_1 _ _ l0_2 a1 t284 _ ?side1 ?side2 A28.out).mono ?_
      (case side1 => exact kc_ (Kd.C_below HR0_2.out HB.out))
      (case side2 => exact HC0_2.out)
      rintro e w34 ⟨rfl, hb⟩; refine ⟨_, rfl, ?_⟩
      have n0_ := am_ (bb_ BK278.out hb); have n1_ := am_ (bb_ BK279.out hb); have n2_ := am_ (below_step (hb2_ HB.out GE278.out GE279.out) hb); clear BK278; clear BK279; clear HB; have BK278 := n0_; have BK279 := n1_; have HB := n2_; clear n0_ n1_ n2_; (try clear hb); (try clear hb2); (try clear hk); (try clear hi); refine hK.out _ _ ⟨(blk_cell BK278.out 0).trans rfl, (blk_cell BK278.out 1).trans rfl, (blk_cell BK278.out 2).trans rfl⟩ (fun hHeld => ?_)
      clear hK K; refine norm_ (a' := ?_) ?_ ?_
      rotate_left
      ·show Act.put _ (some 35) _ = _
       simp only [Act.put, List.setIfInBounds_toArray, List.set_cons_zero, List.set_cons_succ, i64_w, i32_w]
       rfl
      refine pure_ (i := 10) (N := some 36) (v := ?_) (a' := ?_) #[true, true, true, true, true, true, true, true, true, true, true, false] rfl rfl (any_of HT_.out (by kernel_rfl)) (fun _ _ _ h => h) (Or.inl ⟨by rfl, ?_⟩) ?_ ?_
      rotate_left
      ·intro w'; go_simp
       with_reducible rfl
      rotate_left
      ·simp only [Act.put, List.setIfInBounds_toArray, List.set_cons_zero, List.set_cons_succ, i64_w, i32_w]
       rfl
      refine pure_ (i := 11) (N := some 8) (v := ?_) (a' := ?_) #[true, true, true, true, true, true, true, true, true, true, true, true] rfl rfl (any_of HT_.out (by kernel_rfl)) (fun _ _ _ h => h) (Or.inl ⟨by rfl, ?_⟩) ?_ ?_
      rotate_left
      ·intro w'; go_simp
       with_reducible rfl
      rotate_left
      ·simp only [Act.put, List.setIfInBounds_toArray, List.set_cons_zero, List.set_cons_succ, i64_w, i32_w]
       rfl
      refine done_ (done_of HT_.out (by kernel_rfl)) ?_
      have hnb35 := NB278_279.out; have hnc35 := NB279_278.out; have hcz36_0 := bc_ BK278.out 0 (.int .i64 a0_0) rfl; have hcz36_1 := bc_ BK278.out 1 (.int .i64 a0_1) rfl; have hcz36_2 := bc_ BK278.out 2 (.slice A0_2 l0_2.length c0_2) rfl; have hfz36_0 := blk_frozen BK278.out 0; have hfz36_1 := blk_frozen BK278.out 1; have hfz36_2 := blk_frozen BK278.out 2; have p285 : 0 ≤ (a1 : Int) := of_decide_eq_true (by first | (with_reducible assumption) | assumption); have q285 : a1 < (l0_2.length : Int) := of_decide_eq_true (by first | (with_reducible assumption) | assumption); obtain ⟨ad285, e285, hx285_0, hx285_1⟩ := at_T42 HR0_2.out a1 p285 q285
      cases e285
      replace hx285_0 := (HB.out.cell (World.block_lt_of_cell? w _ hx285_0)).trans hx285_0; replace hx285_1 := (HB.out.cell (World.block_lt_of_cell? w _ hx285_1)).trans hx285_1; replace p285 := eq_true p285; replace q285 := eq_true q285; try go_wp2_with (first | ((with_reducible refine gate_callee (f := 79) rfl ?_); refine gl_ Try.func79 #[.int .i64 (wrap64 ((wrap64 (a0_0 + (wrap64 (a2 * t283)))) + t284)), .int .i64 (wrap64 ((wrap64 ((wrap64 (a0_0 + (wrap64 (a2 * t283)))) + t284)) + ((rd_T42 l0_2 a1).f1)))] ?_; (with_reducible refine (spec_l1Told.calls (wrap64 ((wrap64 (a0_0 + (wrap64 (a2 * t283)))) + t284)) (wrap64 ((wrap64 ((wrap64 (a0_0 + (wrap64 (a2 * t283)))) + t284)) + ((rd_T42 l0_2 a1).f1))) t286 t287 t288 _ A31.out).mono ?_); rintro e w37 ⟨rfl, hb⟩; refine ⟨_, rfl, ?_⟩; replace BK278 := am_ (bb_ BK278.out hb); replace BK279 := am_ (bb_ BK279.out hb); replace HB := am_ (below_step (hb2_ HB.out GE278.out GE279.out) hb); (try clear hb); (try clear hb2); (try clear hk); (try clear hi); obtain ⟨hcz38_0, hcz38_1, hfz38_0, hfz38_1⟩ := bc2_ BK279.out))
      refine bodyPost_ret (results_ct rfl _ _ gb279 25 #[.int .i64 t286, .int .i64 t287] (0, 0) _ rfl (by (with_reducible repeat (first | refine blk_drewN ?_ _ | refine blk_drew ?_ | refine blk_alloc ?_ _)); refine blk_put (cs := #[.int .i64 t286, .int .i64 0]) ?_ 1 _ rfl; (with_reducible repeat (first | refine blk_drewN ?_ _ | refine blk_drew ?_ | refine blk_alloc ?_ _)); refine blk_put (cs := #[.int .i64 0, .int .i64 0]) ?_ 0 _ rfl; (with_reducible repeat (first | refine blk_drewN ?_ _ | refine blk_drew ?_ | refine blk_alloc ?_ _)); exact BK279.out) Try.underlying25 rfl (by kernel_rfl)) rfl ?_
      exact ⟨er_, hb2_ HB.out GE278.out GE279.out⟩
     ·rw [if_neg c30] at H; exact absurd H (by simp)
    ·rw [if_neg c29] at H; exact absurd H (by simp)
def spec_l13DrawTime.j0 : Nat → Bool → List Int → Int → Int → Int → Int → Option (Int × Int × Int)
 | 0, _, _, _, _, _, _ => none
 | k + 1, x24, x1000, x1001, x1002, x300000, x300001 => if x24 = true then ((spec_l2DrawCount.f x1000 x1001 x1002).bind fun bt303 => (some (bt303.1, bt303.2.1, bt303.2.2))) else ((spec_l1PickInt.f x1000 x1001 x1002 (([x300000, x300001, wrap64 (x300000 - 1), wrap64 (x300001 - 1), wrap64 (Int.tdiv (wrap64 (x300000 + x300001)) 2)] : List Int))).bind fun bt309 => (some (bt309.1, bt309.2.1, bt309.2.2)))
def spec_l13DrawTime.f (k : Nat) (s0_0 : List Int) (s0_1 : Int) (s0_2 : Int) (a1_0 : Int) (a1_1 : Int) (l1_2 : List (S42)) : Option (Int × Int × Int) := (spec_l1Below.f s0_0 s0_1 s0_2 (l1_2.length : Int)).bind fun bt290 => ((spec_l1Below.f s0_0 bt290.2.1 bt290.2.2 5).bind fun bt293 => ((spec_Occurrence.f k a1_0 a1_1 l1_2 bt290.1 bt293.1).bind fun bt296 => (if bt296.2.2 = true then ((spec_l1Once.f s0_0 bt293.2.1 bt293.2.2 6).bind fun bt300 => (spec_l13DrawTime.j0 k bt300.1 s0_0 bt300.2.1 bt300.2.2 bt296.1 bt296.2.1)) else (spec_l13DrawTime.j0 k true s0_0 bt293.2.1 bt293.2.2 bt296.1 bt296.2.1))))
def spec_l13DrawTime.T1 : Bool × List (List Nat × List Nat) := (true, [([], []), ([], []), ([], []), ([2], [2]), ([3], [3]), ([1, 4], [1, 4]), ([], []), ([6, 5], [6]), ([0, 5, 7, 7], [0, 5, 7]), ([8], [8]), ([9], [9]), ([9], [9]), ([], []), ([12, 10, 8, 0, 1, 2, 3, 4, 5, 6, 7, 8, 9, 10, 12], [10, 12]), ([11, 13, 0, 1, 2, 3, 4, 5, 6, 7, 8, 9, 10, 11, 12, 13], [11])])
def spec_l13DrawTime.B1 : List Nat := [0, 0, 0, 4, 12, 30, 0, 126, 255, 511, 1023, 1023, 0, 6143, 16383]
theorem spec_l13DrawTime.tab1 : rtab .any (opsOf Try.f39 1) = spec_l13DrawTime.T1 := by kernel_rfl
theorem spec_l13DrawTime.bits1 : waitsOk spec_l13DrawTime.T1.2 spec_l13DrawTime.B1 = true := by kernel_rfl
set_option maxHeartbeats 8000000 in
set_option maxRecDepth 100000 in
theorem spec_l13DrawTime.calls (k : Nat) (g : Nat) (s0_0 : List Int) (s0_1 : Int) (s0_2 : Int) (a1_0 : Int) (a1_1 : Int) (A1_2 : Option Addr) (c1_2 : Nat) (l1_2 : List (S42)) (r1 : Int) (r2 : Int) (r3 : Int) (w0 w : World) (hI : IsS94 w0 w g s0_0 s0_1 s0_2) (hB : Below w0.heap.size w0 w) (hr1_2 : ∀ W_, KeepBut w W_ g none → Kd.C k42 W_ A1_2 l1_2.length l1_2) (hc1_2 : l1_2.length ≤ c1_2) (h : spec_l13DrawTime.f k s0_0 s0_1 s0_2 a1_0 a1_1 l1_2 = some (r1, r2, r3)) :
  Calls Try.prog 39 #[.pointer (some ⟨g, 0, none⟩), .agg #[.int .i64 a1_0, .int .i64 a1_1, .slice A1_2 l1_2.length c1_2]] w fun e w' => e = .returned (.int .i64 r1) ∧ IsS94 w0 w' g s0_0 r2 r3 ∧ Below w0.heap.size w0 w' ∧ KeepBut w w' g none := by
 have hu30 := Try.underlying30; have hu25 := Try.underlying25; have HR1_2 := Aside0.mk hr1_2; have HC1_2 := Aside0.mk hc1_2; clear hr1_2 hc1_2; have HI0 := Aside0.mk hI; have HK := am_ (KeepBut.refl w g none); have HL := Aside0.mk hB.size; clear hI; have HW0 := Aside0.mk hB.size; have HB := Aside0.mk hB; clear hB; have H : ((spec_l1Below.f s0_0 s0_1 s0_2 (l1_2.length : Int)).bind fun bt290 => ((spec_l1Below.f s0_0 bt290.2.1 bt290.2.2 5).bind fun bt293 => ((spec_Occurrence.f k a1_0 a1_1 l1_2 bt290.1 bt293.1).bind fun bt296 => (if bt296.2.2 = true then ((spec_l1Once.f s0_0 bt293.2.1 bt293.2.2 6).bind fun bt300 => (spec_l13DrawTime.j0 k bt300.1 s0_0 bt300.2.1 bt300.2.2 bt296.1 bt296.2.1)) else (spec_l13DrawTime.j0 k true s0_0 bt293.2.1 bt293.2.2 bt296.1 bt296.2.1))))) = some (r1, r2, r3) := h; clear h; obtain ⟨⟨t290, t291, t292⟩, A3, H⟩ := ab_ H; (try dsimp only at H); obtain ⟨⟨t293, t294, t295⟩, A4, H⟩ := ab_ H; (try dsimp only at H); obtain ⟨⟨t296, t297, t298⟩, A5, H⟩ := ab_ H; (try dsimp only at H); have HC6 := Aside0.mk H; clear H; go_enter Try.func39, Try.ntmps39
 try go_wp2_with (first | ((with_reducible refine gate_dst (N := 3) rfl ?_); refine be_ (N := 3) (cs := #[.int .i64 a1_0, .int .i64 a1_1, .slice A1_2 l1_2.length c1_2]) (t := 30) ?_; intro gb289 hg w7 hbox hb; have n0_ := am_ (IsS94.below (by repeat (first | (with_reducible first | exact HI0.out | apply IsS94.alloc | apply IsS94.drewN | apply IsS94.drew | apply IsS94.set_1 | apply IsS94.set_2) | exact HI0.out)) hb); have n1_ := am_ (KeepBut.trans (hk_ HK.out) (KeepBut.of_below hb g none) (.inl rfl)); have n2_ := am_ (below_step (hb1_ HB.out (IsS94.ge HI0.out)) hb); have n3_ := am_ (hbox); have n4_ := am_ ((by rw [hg]; exact (keep_size (w := w) (g := g) (row := none) (hk_ HK.out)) : w.heap.size ≤ gb289)); have n5_ := am_ ((Nat.le_trans HW0.out (by rw [hg]; exact (keep_size (w := w) (g := g) (row := none) (hk_ HK.out)) : w.heap.size ≤ gb289) : w0.heap.size ≤ gb289)); have n6_ := am_ ((by rw [hg]; exact Nat.ne_of_lt (IsS94.lt (show IsS94 w0 _ g s0_0 s0_1 s0_2 from by repeat (first | (with_reducible first | exact HI0.out | apply IsS94.alloc | apply IsS94.drewN | apply IsS94.drew | apply IsS94.set_1 | apply IsS94.set_2) | exact HI0.out))) : g ≠ gb289)); have n7_ := am_ ((by rw [hg]; exact Nat.ne_of_gt (IsS94.lt (show IsS94 w0 _ g s0_0 s0_1 s0_2 from by repeat (first | (with_reducible first | exact HI0.out | apply IsS94.alloc | apply IsS94.drewN | apply IsS94.drew | apply IsS94.set_1 | apply IsS94.set_2) | exact HI0.out))) : gb289 ≠ g)); clear HI0; clear HK; clear HB; have HI0 := n0_; have HK := n1_; have HB := n2_; have BK289 := n3_; have GW289 := n4_; have GE289 := n5_; have NB0_289 := n6_; have NB289_0 := n7_; clear n0_ n1_ n2_ n3_ n4_ n5_ n6_ n7_; clear hb hbox hg))
 have n0_ := am_ (blk_drew BK289.out); have n1_ := am_ (IsS94.drew HI0.out); have n2_ := am_ (keep_drew HK.out); have n3_ := am_ (below_drew1 HB.out); clear BK289; clear HI0; clear HK; clear HB; have BK289 := n0_; have HI0 := n1_; have HK := n2_; have HB := n3_; clear n0_ n1_ n2_ n3_; refine start_ (n := 15) (S := fun w' => w'.cell? ⟨gb289, 0, none⟩ = some (.int .i64 a1_0) ∧ w'.cell? ⟨gb289, 1, none⟩ = some (.int .i64 a1_1) ∧ w'.cell? ⟨gb289, 2, none⟩ = some (.slice A1_2 l1_2.length c1_2)) (ds := []) #[false, false, false, false, false, false, false, false, false, false, false, false, false, false, false] (by kernel_rfl) rfl rfl ⟨(blk_cell BK289.out 0).trans rfl, (blk_cell BK289.out 1).trans rfl, (blk_cell BK289.out 2).trans rfl⟩ (fun hHeld => ?_); refine with_tabW spec_l13DrawTime.tab1 spec_l13DrawTime.bits1 (fun HT_ HW_ => ?_)
 generalize w7.drew = w8 at BK289 HI0 HK HB hHeld ⊢
 refine pure_ (i := 1) (N := some 9) (v := ?_) (a' := ?_) #[false, true, false, false, false, false, false, false, false, false, false, false, false, false, false] rfl rfl (any_of HT_.out (by kernel_rfl)) (fun _ _ _ h => h) (Or.inl ⟨by rfl, ?_⟩) ?_ ?_
 rotate_left
 ·intro w'; go_simp
  with_reducible rfl
 rotate_left
 ·simp only [Act.put, List.setIfInBounds_toArray, List.set_cons_zero, List.set_cons_succ, i64_w, i32_w]
  rfl
 refine pure_ (i := 2) (N := some 10) (v := ?_) (a' := ?_) #[false, true, true, false, false, false, false, false, false, false, false, false, false, false, false] rfl rfl (any_of HT_.out (by kernel_rfl)) (fun _ _ _ h => h) (Or.inl ⟨by rfl, ?_⟩) ?_ ?_
 rotate_left
 ·intro w'; go_simp
  with_reducible rfl
 rotate_left
 ·simp only [Act.put, List.setIfInBounds_toArray, List.set_cons_zero, List.set_cons_succ, i64_w, i32_w]
  rfl
 refine pure_ (i := 6) (N := some 14) (v := ?_) (a' := ?_) #[false, true, true, false, false, false, true, false, false, false, false, false, false, false, false] rfl rfl (any_of HT_.out (by kernel_rfl)) (fun _ _ _ h => h) (Or.inl ⟨by rfl, ?_⟩) ?_ ?_
 rotate_left
 ·intro w'; go_simp
  with_reducible rfl
 rotate_left
 ·simp only [Act.put, List.setIfInBounds_toArray, List.set_cons_zero, List.set_cons_succ, i64_w, i32_w]
  rfl
 refine take_ (i := 0) (N := some 8) (v := ?_) (a' := ?_) #[true, true, true, false, false, false, true, false, false, false, false, false, false, false, false] rfl rfl (take_ofW HT_.out HW_.out (by kernel_rfl)) (fun _ _ _ h => h) (Or.inl ⟨by rfl, ?_⟩) hHeld ?_ ?_
 rotate_left
 ·rintro w' ⟨s0, s1, s2⟩; go_simp
  with_reducible rfl
 rotate_left
 ·simp only [Act.put, List.setIfInBounds_toArray, List.set_cons_zero, List.set_cons_succ, i64_w, i32_w]
  rfl
 refine take_ (i := 3) (N := some 11) (v := ?_) (a' := ?_) #[true, true, true, true, false, false, true, false, false, false, false, false, false, false, false] rfl rfl (take_ofW HT_.out HW_.out (by kernel_rfl)) (fun _ _ _ h => h) (Or.inl ⟨by rfl, ?_⟩) hHeld ?_ ?_
 rotate_left
 ·rintro w' ⟨s0, s1, s2⟩; go_simp
  with_reducible rfl
 rotate_left
 ·simp only [Act.put, List.setIfInBounds_toArray, List.set_cons_zero, List.set_cons_succ, i64_w, i32_w]
  rfl
 refine pure_ (i := 4) (N := some 12) (v := ?_) (a' := ?_) #[true, true, true, true, true, false, true, false, false, false, false, false, false, false, false] rfl rfl (any_of HT_.out (by kernel_rfl)) (fun _ _ _ h => h) (Or.inl ⟨by rfl, ?_⟩) ?_ ?_
 rotate_left
 ·intro w'; go_simp
  with_reducible rfl
 rotate_left
 ·simp only [Act.put, List.setIfInBounds_toArray, List.set_cons_zero, List.set_cons_succ, i64_w, i32_w]
  rfl
 refine join_ (σ := Nat) 2 #[true, true, true, true, true, true, true, true, true, true, true, true, true, false, false] (fun s_ => [(13, .int .i64 t290), (15, .int .i64 t293), (16, .tuple #[.agg #[.int .i64 t296, .int .i64 t297], .bool t298]), (5, .pointer (some ⟨s_, 0, none⟩)), (7, .tuple #[.agg #[.int .i64 t296, .int .i64 t297], .bool t298]), (17, .agg #[.int .i64 t296, .int .i64 t297]), (18, .bool t298)]) (fun s_ w' => (w'.cell? ⟨gb289, 0, none⟩ = some (.int .i64 a1_0) ∧ w'.cell? ⟨gb289, 1, none⟩ = some (.int .i64 a1_1) ∧ w'.cell? ⟨gb289, 2, none⟩ = some (.slice A1_2 l1_2.length c1_2)) ∧ (w'.heap[gb289]? = some (.cells #[.int .i64 a1_0, .int .i64 a1_1, .slice A1_2 l1_2.length c1_2] 30 (0, 0))) ∧ (w'.heap[s_]? = some (.cells #[.int .i64 0, .int .i64 0] 25 (0, 0))) ∧ (w.heap.size ≤ s_) ∧ (w0.heap.size ≤ s_) ∧ (g ≠ s_) ∧ (s_ ≠ g) ∧ (gb289 ≠ s_) ∧ (s_ ≠ gb289) ∧ (IsS94 w0 w' g s0_0 t294 t295) ∧ (KeepBut w w' g none) ∧ (Below w0.heap.size w0 w')) ?_ ?_
 rotate_left
 ·intro hCont; refine two_ (i := 5) (j := 12) (Ni := some 13) (Nj := some 5) #[true, true, true, true, true, true, true, false, false, false, false, false, false, false, false] #[true, true, true, true, true, false, true, false, false, false, false, false, true, false, false] rfl rfl rfl rfl (two_of HT_.out (by kernel_rfl)) (by decide) (by decide) (fun K hK => ?_) (fun K hK => ?_)
  ·skip
   refine goes_ Try.func41 (by kernel_rfl) rfl #[.pointer (some ⟨g, 0, none⟩), .int .i64 (l1_2.length : Int)] (by rfl) rfl rfl arr_ ?_
   with_reducible refine (spec_l1Below.calls g s0_0 s0_1 s0_2 (l1_2.length : Int) t290 t291 t292 w0 _ ?side1 ?side2 A3.out).mono ?_
   (case side1 => repeat (first | (with_reducible first | exact HI0.out | apply IsS94.alloc | apply IsS94.drewN | apply IsS94.drew | apply IsS94.set_1 | apply IsS94.set_2 | refine IsS94.far ?_ NB0_289.out _) | exact HI0.out))
   (case side2 => exact hb2_ HB.out (IsS94.ge HI0.out) GE289.out)
   rintro e w9 ⟨rfl, hi, hb, hk⟩; refine ⟨_, rfl, ?_⟩
   have n0_ := am_ (KeepBut.blk hk (g' := gb289) (o := .cells #[.int .i64 a1_0, .int .i64 a1_1, .slice A1_2 l1_2.length c1_2] 30 (0, 0)) (bk_ BK289.out) NB289_0.out (by simp)); have n1_ := am_ (KeepBut.trans (hk1_ HK.out GW289.out) hk (.inl rfl)); have n2_ := am_ (hb); have n3_ := am_ (hi); clear BK289; clear HK; clear HB; clear HI0; have BK289 := n0_; have HK := n1_; have HB := n2_; have HI0 := n3_; clear n0_ n1_ n2_ n3_; (try clear hb); (try clear hb2); (try clear hk); (try clear hi); refine hK.out _ _ ⟨(blk_cell BK289.out 0).trans rfl, (blk_cell BK289.out 1).trans rfl, (blk_cell BK289.out 2).trans rfl⟩ (fun hHeld => ?_)
   clear hK K; refine norm_ (a' := ?_) ?_ ?_
   rotate_left
   ·show Act.put _ (some 13) _ = _
    simp only [Act.put, List.setIfInBounds_toArray, List.set_cons_zero, List.set_cons_succ, i64_w, i32_w]
    rfl
   refine two_ (i := 7) (j := 12) (Ni := some 15) (Nj := some 5) #[true, true, true, true, true, true, true, true, false, false, false, false, false, false, false] #[true, true, true, true, true, true, true, false, false, false, false, false, true, false, false] rfl rfl rfl rfl (two_of HT_.out (by kernel_rfl)) (by decide) (by decide) (fun K hK => ?_) (fun K hK => ?_)
   ·skip
    refine goes_ Try.func41 (by kernel_rfl) rfl #[.pointer (some ⟨g, 0, none⟩), .int .i64 5] (by rfl) rfl rfl arr_ ?_
    with_reducible refine (spec_l1Below.calls g s0_0 t291 t292 5 t293 t294 t295 w0 _ ?side1 ?side2 A4.out).mono ?_
    (case side1 => repeat (first | (with_reducible first | exact HI0.out | apply IsS94.alloc | apply IsS94.drewN | apply IsS94.drew | apply IsS94.set_1 | apply IsS94.set_2 | refine IsS94.far ?_ NB0_289.out _) | exact HI0.out))
    (case side2 => exact hb2_ HB.out (IsS94.ge HI0.out) GE289.out)
    rintro e w10 ⟨rfl, hi, hb, hk⟩; refine ⟨_, rfl, ?_⟩
    have n0_ := am_ (KeepBut.blk hk (g' := gb289) (o := .cells #[.int .i64 a1_0, .int .i64 a1_1, .slice A1_2 l1_2.length c1_2] 30 (0, 0)) (bk_ BK289.out) NB289_0.out (by simp)); have n1_ := am_ (KeepBut.trans (hk1_ HK.out GW289.out) hk (.inl rfl)); have n2_ := am_ (hb); have n3_ := am_ (hi); clear BK289; clear HK; clear HB; clear HI0; have BK289 := n0_; have HK := n1_; have HB := n2_; have HI0 := n3_; clear n0_ n1_ n2_ n3_; (try clear hb); (try clear hb2); (try clear hk); (try clear hi); refine hK.out _ _ ⟨(blk_cell BK289.out 0).trans rfl, (blk_cell BK289.out 1).trans rfl, (blk_cell BK289.out 2).trans rfl⟩ (fun hHeld => ?_)
    clear hK K; refine norm_ (a' := ?_) ?_ ?_
    rotate_left
    ·show Act.put _ (some 15) _ = _
     simp only [Act.put, List.setIfInBounds_toArray, List.set_cons_zero, List.set_cons_succ, i64_w, i32_w]
     rfl
    refine two_ (i := 8) (j := 12) (Ni := some 16) (Nj := some 5) #[true, true, true, true, true, true, true, true, true, false, false, false, false, false, false] #[true, true, true, true, true, true, true, true, false, false, false, false, true, false, false] rfl rfl rfl rfl (two_of HT_.out (by kernel_rfl)) (by decide) (by decide) (fun K hK => ?_) (fun K hK => ?_)
    ·skip
     refine goes_ Try.func26 (by kernel_rfl) rfl #[.agg #[.int .i64 a1_0, .int .i64 a1_1, .slice A1_2 l1_2.length c1_2], .int .i64 t290, .int .i64 t293] (by rfl) rfl rfl arr_ ?_
     with_reducible refine (spec_Occurrence.calls k a1_0 a1_1 _ _ l1_2 t290 t293 t296 t297 t298 _ ?side1 ?side2 A5.out).mono ?_
     (case side1 => exact Kd.C_foot_now HR1_2.out (hk1_ HK.out GW289.out))
     (case side2 => exact HC1_2.out)
     rintro e w11 ⟨rfl, hb⟩; refine ⟨_, rfl, ?_⟩
     have n0_ := am_ (IsS94.below (by repeat (first | (with_reducible first | exact HI0.out | apply IsS94.alloc | apply IsS94.drewN | apply IsS94.drew | apply IsS94.set_1 | apply IsS94.set_2 | refine IsS94.far ?_ NB0_289.out _) | exact HI0.out)) hb); have n1_ := am_ (bb_ BK289.out hb); have n2_ := am_ (KeepBut.trans (hk1_ HK.out GW289.out) (KeepBut.of_below hb g none) (.inl rfl)); have n3_ := am_ (below_step (hb2_ HB.out (IsS94.ge HI0.out) GE289.out) hb); clear HI0; clear BK289; clear HK; clear HB; have HI0 := n0_; have BK289 := n1_; have HK := n2_; have HB := n3_; clear n0_ n1_ n2_ n3_; (try clear hb); (try clear hb2); (try clear hk); (try clear hi); refine hK.out _ _ ⟨(blk_cell BK289.out 0).trans rfl, (blk_cell BK289.out 1).trans rfl, (blk_cell BK289.out 2).trans rfl⟩ (fun hHeld => ?_)
     clear hK K; refine norm_ (a' := ?_) ?_ ?_
     rotate_left
     ·show Act.put _ (some 16) _ = _
      simp only [Act.put, List.setIfInBounds_toArray, List.set_cons_zero, List.set_cons_succ, i64_w, i32_w]
      rfl
     refine pure_ (i := 9) (N := some 7) (v := ?_) (a' := ?_) #[true, true, true, true, true, true, true, true, true, true, false, false, false, false, false] rfl rfl (any_of HT_.out (by kernel_rfl)) (fun _ _ _ h => h) (Or.inl ⟨by rfl, ?_⟩) ?_ ?_
     rotate_left
     ·intro w'; go_simp
      with_reducible rfl
     rotate_left
     ·simp only [Act.put, List.setIfInBounds_toArray, List.set_cons_zero, List.set_cons_succ, i64_w, i32_w]
      rfl
     refine pure_ (i := 10) (N := some 17) (v := ?_) (a' := ?_) #[true, true, true, true, true, true, true, true, true, true, true, false, false, false, false] rfl rfl (any_of HT_.out (by kernel_rfl)) (fun _ _ _ h => h) (Or.inl ⟨by rfl, ?_⟩) ?_ ?_
     rotate_left
     ·intro w'; go_simp
      with_reducible rfl
     rotate_left
     ·simp only [Act.put, List.setIfInBounds_toArray, List.set_cons_zero, List.set_cons_succ, i64_w, i32_w]
      rfl
     refine pure_ (i := 11) (N := some 18) (v := ?_) (a' := ?_) #[true, true, true, true, true, true, true, true, true, true, true, true, false, false, false] rfl rfl (any_of HT_.out (by kernel_rfl)) (fun _ _ _ h => h) (Or.inl ⟨by rfl, ?_⟩) ?_ ?_
     rotate_left
     ·intro w'; go_simp
      with_reducible rfl
     rotate_left
     ·simp only [Act.put, List.setIfInBounds_toArray, List.set_cons_zero, List.set_cons_succ, i64_w, i32_w]
      rfl
     refine one_ (i := 12) (N := some 5) #[true, true, true, true, true, true, true, true, true, true, true, true, true, false, false] rfl rfl (one_of HT_.out (by kernel_rfl)) (by decide) (fun K hK => ?_)
     refine box_step ?hg (N := 5) ?hd (cs := #[.int .i64 0, .int .i64 0]) (t := 25) ?hr ?_; (case hd => rfl); (case hg => rfl); (case hr => first|(go_simp;done)|(go_simp;rfl))
     intro gb299 hg w12 hbox hb; have n0_ := am_ (IsS94.below (by repeat (first | (with_reducible first | exact HI0.out | apply IsS94.alloc | apply IsS94.drewN | apply IsS94.drew | apply IsS94.set_1 | apply IsS94.set_2 | refine IsS94.far ?_ NB0_289.out _) | exact HI0.out)) hb); have n1_ := am_ (bb_ BK289.out hb); have n2_ := am_ (KeepBut.trans (hk1_ HK.out GW289.out) (KeepBut.of_below hb g none) (.inl rfl)); have n3_ := am_ (below_step (hb2_ HB.out (IsS94.ge HI0.out) GE289.out) hb); have n4_ := am_ (hbox); have n5_ := am_ ((by rw [hg]; exact (keep_size (w := w) (g := g) (row := none) (hk1_ HK.out GW289.out)) : w.heap.size ≤ gb299)); have n6_ := am_ ((Nat.le_trans HW0.out (by rw [hg]; exact (keep_size (w := w) (g := g) (row := none) (hk1_ HK.out GW289.out)) : w.heap.size ≤ gb299) : w0.heap.size ≤ gb299)); have n7_ := am_ ((bl_ hg BK289.out : gb289 ≠ gb299)); have n8_ := am_ ((bg_ hg BK289.out : gb299 ≠ gb289)); have n9_ := am_ ((by rw [hg]; exact Nat.ne_of_lt (IsS94.lt (show IsS94 w0 _ g s0_0 t294 t295 from by repeat (first | (with_reducible first | exact HI0.out | apply IsS94.alloc | apply IsS94.drewN | apply IsS94.drew | apply IsS94.set_1 | apply IsS94.set_2 | refine IsS94.far ?_ NB0_289.out _) | exact HI0.out))) : g ≠ gb299))
     have n10_ := am_ ((by rw [hg]; exact Nat.ne_of_gt (IsS94.lt (show IsS94 w0 _ g s0_0 t294 t295 from by repeat (first | (with_reducible first | exact HI0.out | apply IsS94.alloc | apply IsS94.drewN | apply IsS94.drew | apply IsS94.set_1 | apply IsS94.set_2 | refine IsS94.far ?_ NB0_289.out _) | exact HI0.out))) : gb299 ≠ g)); clear HI0; clear BK289; clear HK; clear HB; have HI0 := n0_; have BK289 := n1_; have HK := n2_; have HB := n3_; have BK299 := n4_; have GW299 := n5_; have GE299 := n6_; have NB289_299 := n7_; have NB299_289 := n8_; have NB0_299 := n9_; have NB299_0 := n10_; clear n0_ n1_ n2_ n3_ n4_ n5_ n6_ n7_ n8_ n9_ n10_; clear hb hbox hg; refine hK.out _ _ ⟨(blk_cell BK289.out 0).trans rfl, (blk_cell BK289.out 1).trans rfl, (blk_cell BK289.out 2).trans rfl⟩ (fun hHeld => ?_)
     clear hK K; refine norm_ (a' := ?_) ?_ ?_
     rotate_left
     ·show Act.put _ (some 5) _ = _
      simp only [Act.put, List.setIfInBounds_toArray, List.set_cons_zero, List.set_cons_succ, i64_w, i32_w]
      rfl
     exact norm_ (by simp only [putAll, Act.put, List.setIfInBounds_toArray, List.set_cons_zero, List.set_cons_succ]) (hCont (gb299) _ ⟨hHeld, (bk_ BK289.out), (bk_ BK299.out), GW299.out, GE299.out, NB0_299.out, NB299_0.out, NB289_299.out, NB299_289.out, (by repeat (first | (with_reducible first | exact HI0.out | apply IsS94.alloc | apply IsS94.drewN | apply IsS94.drew | apply IsS94.set_1 | apply IsS94.set_2 | refine IsS94.far ?_ NB0_289.out _ | refine IsS94.far ?_ NB0_299.out _) | exact HI0.out)), (hk2_ HK.out GW289.out GW299.out), (hb3_ HB.out (IsS94.ge HI0.out) GE289.out GE299.out)⟩)
    ·skip
     refine box_step ?hg (N := 5) ?hd (cs := #[.int .i64 0, .int .i64 0]) (t := 25) ?hr ?_; (case hd => rfl); (case hg => rfl); (case hr => first|(go_simp;done)|(go_simp;rfl))
     intro gb299 hg w11 hbox hb; have n0_ := am_ (IsS94.below (by repeat (first | (with_reducible first | exact HI0.out | apply IsS94.alloc | apply IsS94.drewN | apply IsS94.drew | apply IsS94.set_1 | apply IsS94.set_2 | refine IsS94.far ?_ NB0_289.out _) | exact HI0.out)) hb); have n1_ := am_ (bb_ BK289.out hb); have n2_ := am_ (KeepBut.trans (hk1_ HK.out GW289.out) (KeepBut.of_below hb g none) (.inl rfl)); have n3_ := am_ (below_step (hb2_ HB.out (IsS94.ge HI0.out) GE289.out) hb); have n4_ := am_ (hbox); have n5_ := am_ ((by rw [hg]; exact (keep_size (w := w) (g := g) (row := none) (hk1_ HK.out GW289.out)) : w.heap.size ≤ gb299)); have n6_ := am_ ((Nat.le_trans HW0.out (by rw [hg]; exact (keep_size (w := w) (g := g) (row := none) (hk1_ HK.out GW289.out)) : w.heap.size ≤ gb299) : w0.heap.size ≤ gb299)); have n7_ := am_ ((bl_ hg BK289.out : gb289 ≠ gb299)); have n8_ := am_ ((bg_ hg BK289.out : gb299 ≠ gb289)); have n9_ := am_ ((by rw [hg]; exact Nat.ne_of_lt (IsS94.lt (show IsS94 w0 _ g s0_0 t294 t295 from by repeat (first | (with_reducible first | exact HI0.out | apply IsS94.alloc | apply IsS94.drewN | apply IsS94.drew | apply IsS94.set_1 | apply IsS94.set_2 | refine IsS94.far ?_ NB0_289.out _) | exact HI0.out))) : g ≠ gb299))
     have n10_ := am_ ((by rw [hg]; exact Nat.ne_of_gt (IsS94.lt (show IsS94 w0 _ g s0_0 t294 t295 from by repeat (first | (with_reducible first | exact HI0.out | apply IsS94.alloc | apply IsS94.drewN | apply IsS94.drew | apply IsS94.set_1 | apply IsS94.set_2 | refine IsS94.far ?_ NB0_289.out _) | exact HI0.out))) : gb299 ≠ g)); clear HI0; clear BK289; clear HK; clear HB; have HI0 := n0_; have BK289 := n1_; have HK := n2_; have HB := n3_; have BK299 := n4_; have GW299 := n5_; have GE299 := n6_; have NB289_299 := n7_; have NB299_289 := n8_; have NB0_299 := n9_; have NB299_0 := n10_; clear n0_ n1_ n2_ n3_ n4_ n5_ n6_ n7_ n8_ n9_ n10_; clear hb hbox hg; refine hK.out _ _ ⟨(blk_cell BK289.out 0).trans rfl, (blk_cell BK289.out 1).trans rfl, (blk_cell BK289.out 2).trans rfl⟩ (fun hHeld => ?_)
     clear hK K; refine norm_ (a' := ?_) ?_ ?_
     rotate_left
     ·show Act.put _ (some 5) _ = _
      simp only [Act.put, List.setIfInBounds_toArray, List.set_cons_zero, List.set_cons_succ, i64_w, i32_w]
      rfl
     refine one_ (i := 8) (N := some 16) #[true, true, true, true, true, true, true, true, true, false, false, false, true, false, false] rfl rfl (one_of HT_.out (by kernel_rfl)) (by decide) (fun K hK => ?_)
     refine goes_ Try.func26 (by kernel_rfl) rfl #[.agg #[.int .i64 a1_0, .int .i64 a1_1, .slice A1_2 l1_2.length c1_2], .int .i64 t290, .int .i64 t293] (by rfl) rfl rfl arr_ ?_
     with_reducible refine (spec_Occurrence.calls k a1_0 a1_1 _ _ l1_2 t290 t293 t296 t297 t298 _ ?side1 ?side2 A5.out).mono ?_
     (case side1 => exact Kd.C_foot_now HR1_2.out (hk2_ HK.out GW289.out GW299.out))
     (case side2 => exact HC1_2.out)
     rintro e w12 ⟨rfl, hb⟩; refine ⟨_, rfl, ?_⟩
     have n0_ := am_ (IsS94.below (by repeat (first | (with_reducible first | exact HI0.out | apply IsS94.alloc | apply IsS94.drewN | apply IsS94.drew | apply IsS94.set_1 | apply IsS94.set_2 | refine IsS94.far ?_ NB0_289.out _ | refine IsS94.far ?_ NB0_299.out _) | exact HI0.out)) hb); have n1_ := am_ (bb_ BK289.out hb); have n2_ := am_ (bb_ BK299.out hb); have n3_ := am_ (KeepBut.trans (hk2_ HK.out GW289.out GW299.out) (KeepBut.of_below hb g none) (.inl rfl)); have n4_ := am_ (below_step (hb3_ HB.out (IsS94.ge HI0.out) GE289.out GE299.out) hb); clear HI0; clear BK289; clear BK299; clear HK; clear HB; have HI0 := n0_; have BK289 := n1_; have BK299 := n2_; have HK := n3_; have HB := n4_; clear n0_ n1_ n2_ n3_ n4_; (try clear hb); (try clear hb2); (try clear hk); (try clear hi); refine hK.out _ _ ⟨(blk_cell BK289.out 0).trans rfl, (blk_cell BK289.out 1).trans rfl, (blk_cell BK289.out 2).trans rfl⟩ (fun hHeld => ?_)
     clear hK K; refine norm_ (a' := ?_) ?_ ?_
     rotate_left
     ·show Act.put _ (some 16) _ = _
      simp only [Act.put, List.setIfInBounds_toArray, List.set_cons_zero, List.set_cons_succ, i64_w, i32_w]
      rfl
     refine pure_ (i := 9) (N := some 7) (v := ?_) (a' := ?_) #[true, true, true, true, true, true, true, true, true, true, false, false, true, false, false] rfl rfl (any_of HT_.out (by kernel_rfl)) (fun _ _ _ h => h) (Or.inl ⟨by rfl, ?_⟩) ?_ ?_
     rotate_left
     ·intro w'; go_simp
      with_reducible rfl
     rotate_left
     ·simp only [Act.put, List.setIfInBounds_toArray, List.set_cons_zero, List.set_cons_succ, i64_w, i32_w]
      rfl
     refine pure_ (i := 10) (N := some 17) (v := ?_) (a' := ?_) #[true, true, true, true, true, true, true, true, true, true, true, false, true, false, false] rfl rfl (any_of HT_.out (by kernel_rfl)) (fun _ _ _ h => h) (Or.inl ⟨by rfl, ?_⟩) ?_ ?_
     rotate_left
     ·intro w'; go_simp
      with_reducible rfl
     rotate_left
     ·simp only [Act.put, List.setIfInBounds_toArray, List.set_cons_zero, List.set_cons_succ, i64_w, i32_w]
      rfl
     refine pure_ (i := 11) (N := some 18) (v := ?_) (a' := ?_) #[true, true, true, true, true, true, true, true, true, true, true, true, true, false, false] rfl rfl (any_of HT_.out (by kernel_rfl)) (fun _ _ _ h => h) (Or.inl ⟨by rfl, ?_⟩) ?_ ?_
     rotate_left
     ·intro w'; go_simp
      with_reducible rfl
     rotate_left
     ·simp only [Act.put, List.setIfInBounds_toArray, List.set_cons_zero, List.set_cons_succ, i64_w, i32_w]
      rfl
     exact norm_ (by simp only [putAll, Act.put, List.setIfInBounds_toArray, List.set_cons_zero, List.set_cons_succ]) (hCont (gb299) _ ⟨hHeld, (bk_ BK289.out), (bk_ BK299.out), GW299.out, GE299.out, NB0_299.out, NB299_0.out, NB289_299.out, NB299_289.out, (by repeat (first | (with_reducible first | exact HI0.out | apply IsS94.alloc | apply IsS94.drewN | apply IsS94.drew | apply IsS94.set_1 | apply IsS94.set_2 | refine IsS94.far ?_ NB0_289.out _ | refine IsS94.far ?_ NB0_299.out _) | exact HI0.out)), (hk2_ HK.out GW289.out GW299.out), (hb3_ HB.out (IsS94.ge HI0.out) GE289.out GE299.out)⟩)
   ·skip
    refine box_step ?hg (N := 5) ?hd (cs := #[.int .i64 0, .int .i64 0]) (t := 25) ?hr ?_; (case hd => rfl); (case hg => rfl); (case hr => first|(go_simp;done)|(go_simp;rfl))
    intro gb299 hg w10 hbox hb; have n0_ := am_ (IsS94.below (by repeat (first | (with_reducible first | exact HI0.out | apply IsS94.alloc | apply IsS94.drewN | apply IsS94.drew | apply IsS94.set_1 | apply IsS94.set_2 | refine IsS94.far ?_ NB0_289.out _) | exact HI0.out)) hb); have n1_ := am_ (bb_ BK289.out hb); have n2_ := am_ (KeepBut.trans (hk1_ HK.out GW289.out) (KeepBut.of_below hb g none) (.inl rfl)); have n3_ := am_ (below_step (hb2_ HB.out (IsS94.ge HI0.out) GE289.out) hb); have n4_ := am_ (hbox); have n5_ := am_ ((by rw [hg]; exact (keep_size (w := w) (g := g) (row := none) (hk1_ HK.out GW289.out)) : w.heap.size ≤ gb299)); have n6_ := am_ ((Nat.le_trans HW0.out (by rw [hg]; exact (keep_size (w := w) (g := g) (row := none) (hk1_ HK.out GW289.out)) : w.heap.size ≤ gb299) : w0.heap.size ≤ gb299)); have n7_ := am_ ((bl_ hg BK289.out : gb289 ≠ gb299)); have n8_ := am_ ((bg_ hg BK289.out : gb299 ≠ gb289)); have n9_ := am_ ((by rw [hg]; exact Nat.ne_of_lt (IsS94.lt (show IsS94 w0 _ g s0_0 t291 t292 from by repeat (first | (with_reducible first | exact HI0.out | apply IsS94.alloc | apply IsS94.drewN | apply IsS94.drew | apply IsS94.set_1 | apply IsS94.set_2 | refine IsS94.far ?_ NB0_289.out _) | exact HI0.out))) : g ≠ gb299))
    have n10_ := am_ ((by rw [hg]; exact Nat.ne_of_gt (IsS94.lt (show IsS94 w0 _ g s0_0 t291 t292 from by repeat (first | (with_reducible first | exact HI0.out | apply IsS94.alloc | apply IsS94.drewN | apply IsS94.drew | apply IsS94.set_1 | apply IsS94.set_2 | refine IsS94.far ?_ NB0_289.out _) | exact HI0.out))) : gb299 ≠ g)); clear HI0; clear BK289; clear HK; clear HB; have HI0 := n0_; have BK289 := n1_; have HK := n2_; have HB := n3_; have BK299 := n4_; have GW299 := n5_; have GE299 := n6_; have NB289_299 := n7_; have NB299_289 := n8_; have NB0_299 := n9_; have NB299_0 := n10_; clear n0_ n1_ n2_ n3_ n4_ n5_ n6_ n7_ n8_ n9_ n10_; clear hb hbox hg; refine hK.out _ _ ⟨(blk_cell BK289.out 0).trans rfl, (blk_cell BK289.out 1).trans rfl, (blk_cell BK289.out 2).trans rfl⟩ (fun hHeld => ?_)
    clear hK K; refine norm_ (a' := ?_) ?_ ?_
    rotate_left
    ·show Act.put _ (some 5) _ = _
     simp only [Act.put, List.setIfInBounds_toArray, List.set_cons_zero, List.set_cons_succ, i64_w, i32_w]
     rfl
    refine one_ (i := 7) (N := some 15) #[true, true, true, true, true, true, true, true, false, false, false, false, true, false, false] rfl rfl (one_of HT_.out (by kernel_rfl)) (by decide) (fun K hK => ?_)
    refine goes_ Try.func41 (by kernel_rfl) rfl #[.pointer (some ⟨g, 0, none⟩), .int .i64 5] (by rfl) rfl rfl arr_ ?_
    with_reducible refine (spec_l1Below.calls g s0_0 t291 t292 5 t293 t294 t295 w0 _ ?side1 ?side2 A4.out).mono ?_
    (case side1 => repeat (first | (with_reducible first | exact HI0.out | apply IsS94.alloc | apply IsS94.drewN | apply IsS94.drew | apply IsS94.set_1 | apply IsS94.set_2 | refine IsS94.far ?_ NB0_289.out _ | refine IsS94.far ?_ NB0_299.out _) | exact HI0.out))
    (case side2 => exact hb3_ HB.out (IsS94.ge HI0.out) GE289.out GE299.out)
    rintro e w11 ⟨rfl, hi, hb, hk⟩; refine ⟨_, rfl, ?_⟩
    have n0_ := am_ (KeepBut.blk hk (g' := gb289) (o := .cells #[.int .i64 a1_0, .int .i64 a1_1, .slice A1_2 l1_2.length c1_2] 30 (0, 0)) (bk_ BK289.out) NB289_0.out (by simp)); have n1_ := am_ (KeepBut.blk hk (g' := gb299) (o := .cells #[.int .i64 0, .int .i64 0] 25 (0, 0)) (bk_ BK299.out) NB299_0.out (by simp)); have n2_ := am_ (KeepBut.trans (hk2_ HK.out GW289.out GW299.out) hk (.inl rfl)); have n3_ := am_ (hb); have n4_ := am_ (hi); clear BK289; clear BK299; clear HK; clear HB; clear HI0; have BK289 := n0_; have BK299 := n1_; have HK := n2_; have HB := n3_; have HI0 := n4_; clear n0_ n1_ n2_ n3_ n4_; (try clear hb); (try clear hb2); (try clear hk); (try clear hi); refine hK.out _ _ ⟨(blk_cell BK289.out 0).trans rfl, (blk_cell BK289.out 1).trans rfl, (blk_cell BK289.out 2).trans rfl⟩ (fun hHeld => ?_)
    clear hK K; refine norm_ (a' := ?_) ?_ ?_
    rotate_left
    ·show Act.put _ (some 15) _ = _
     simp only [Act.put, List.setIfInBounds_toArray, List.set_cons_zero, List.set_cons_succ, i64_w, i32_w]
     rfl
    refine one_ (i := 8) (N := some 16) #[true, true, true, true, true, true, true, true, true, false, false, false, true, false, false] rfl rfl (one_of HT_.out (by kernel_rfl)) (by decide) (fun K hK => ?_)
    refine goes_ Try.func26 (by kernel_rfl) rfl #[.agg #[.int .i64 a1_0, .int .i64 a1_1, .slice A1_2 l1_2.length c1_2], .int .i64 t290, .int .i64 t293] (by rfl) rfl rfl arr_ ?_
    with_reducible refine (spec_Occurrence.calls k a1_0 a1_1 _ _ l1_2 t290 t293 t296 t297 t298 _ ?side1 ?side2 A5.out).mono ?_
    (case side1 => exact Kd.C_foot_now HR1_2.out (hk2_ HK.out GW289.out GW299.out))
    (case side2 => exact HC1_2.out)
    rintro e w12 ⟨rfl, hb⟩; refine ⟨_, rfl, ?_⟩
    have n0_ := am_ (IsS94.below (by repeat (first | (with_reducible first | exact HI0.out | apply IsS94.alloc | apply IsS94.drewN | apply IsS94.drew | apply IsS94.set_1 | apply IsS94.set_2 | refine IsS94.far ?_ NB0_289.out _ | refine IsS94.far ?_ NB0_299.out _) | exact HI0.out)) hb); have n1_ := am_ (bb_ BK289.out hb); have n2_ := am_ (bb_ BK299.out hb); have n3_ := am_ (KeepBut.trans (hk2_ HK.out GW289.out GW299.out) (KeepBut.of_below hb g none) (.inl rfl)); have n4_ := am_ (below_step (hb3_ HB.out (IsS94.ge HI0.out) GE289.out GE299.out) hb); clear HI0; clear BK289; clear BK299; clear HK; clear HB; have HI0 := n0_; have BK289 := n1_; have BK299 := n2_; have HK := n3_; have HB := n4_; clear n0_ n1_ n2_ n3_ n4_; (try clear hb); (try clear hb2); (try clear hk); (try clear hi); refine hK.out _ _ ⟨(blk_cell BK289.out 0).trans rfl, (blk_cell BK289.out 1).trans rfl, (blk_cell BK289.out 2).trans rfl⟩ (fun hHeld => ?_)
    clear hK K; refine norm_ (a' := ?_) ?_ ?_
    rotate_left
    ·show Act.put _ (some 16) _ = _
     simp only [Act.put, List.setIfInBounds_toArray, List.set_cons_zero, List.set_cons_succ, i64_w, i32_w]
     rfl
    refine pure_ (i := 9) (N := some 7) (v := ?_) (a' := ?_) #[true, true, true, true, true, true, true, true, true, true, false, false, true, false, false] rfl rfl (any_of HT_.out (by kernel_rfl)) (fun _ _ _ h => h) (Or.inl ⟨by rfl, ?_⟩) ?_ ?_
    rotate_left
    ·intro w'; go_simp
     with_reducible rfl
    rotate_left
    ·simp only [Act.put, List.setIfInBounds_toArray, List.set_cons_zero, List.set_cons_succ, i64_w, i32_w]
     rfl
    refine pure_ (i := 10) (N := some 17) (v := ?_) (a' := ?_) #[true, true, true, true, true, true, true, true, true, true, true, false, true, false, false] rfl rfl (any_of HT_.out (by kernel_rfl)) (fun _ _ _ h => h) (Or.inl ⟨by rfl, ?_⟩) ?_ ?_
    rotate_left
    ·intro w'; go_simp
     with_reducible rfl
    rotate_left
    ·simp only [Act.put, List.setIfInBounds_toArray, List.set_cons_zero, List.set_cons_succ, i64_w, i32_w]
     rfl
    refine pure_ (i := 11) (N := some 18) (v := ?_) (a' := ?_) #[true, true, true, true, true, true, true, true, true, true, true, true, true, false, false] rfl rfl (any_of HT_.out (by kernel_rfl)) (fun _ _ _ h => h) (Or.inl ⟨by rfl, ?_⟩) ?_ ?_
    rotate_left
    ·intro w'; go_simp
     with_reducible rfl
    rotate_left
    ·simp only [Act.put, List.setIfInBounds_toArray, List.set_cons_zero, List.set_cons_succ, i64_w, i32_w]
     rfl
    exact norm_ (by simp only [putAll, Act.put, List.setIfInBounds_toArray, List.set_cons_zero, List.set_cons_succ]) (hCont (gb299) _ ⟨hHeld, (bk_ BK289.out), (bk_ BK299.out), GW299.out, GE299.out, NB0_299.out, NB299_0.out, NB289_299.out, NB299_289.out, (by repeat (first | (with_reducible first | exact HI0.out | apply IsS94.alloc | apply IsS94.drewN | apply IsS94.drew | apply IsS94.set_1 | apply IsS94.set_2 | refine IsS94.far ?_ NB0_289.out _ | refine IsS94.far ?_ NB0_299.out _) | exact HI0.out)), (hk2_ HK.out GW289.out GW299.out), (hb3_ HB.out (IsS94.ge HI0.out) GE289.out GE299.out)⟩)
  ·skip
   refine box_step ?hg (N := 5) ?hd (cs := #[.int .i64 0, .int .i64 0]) (t := 25) ?hr ?_; (case hd => rfl); (case hg => rfl); (case hr => first|(go_simp;done)|(go_simp;rfl))
   intro gb299 hg w9 hbox hb; have n0_ := am_ (IsS94.below (by repeat (first | (with_reducible first | exact HI0.out | apply IsS94.alloc | apply IsS94.drewN | apply IsS94.drew | apply IsS94.set_1 | apply IsS94.set_2 | refine IsS94.far ?_ NB0_289.out _) | exact HI0.out)) hb); have n1_ := am_ (bb_ BK289.out hb); have n2_ := am_ (KeepBut.trans (hk1_ HK.out GW289.out) (KeepBut.of_below hb g none) (.inl rfl)); have n3_ := am_ (below_step (hb2_ HB.out (IsS94.ge HI0.out) GE289.out) hb); have n4_ := am_ (hbox); have n5_ := am_ ((by rw [hg]; exact (keep_size (w := w) (g := g) (row := none) (hk1_ HK.out GW289.out)) : w.heap.size ≤ gb299)); have n6_ := am_ ((Nat.le_trans HW0.out (by rw [hg]; exact (keep_size (w := w) (g := g) (row := none) (hk1_ HK.out GW289.out)) : w.heap.size ≤ gb299) : w0.heap.size ≤ gb299)); have n7_ := am_ ((bl_ hg BK289.out : gb289 ≠ gb299)); have n8_ := am_ ((bg_ hg BK289.out : gb299 ≠ gb289)); have n9_ := am_ ((by rw [hg]; exact Nat.ne_of_lt (IsS94.lt (show IsS94 w0 _ g s0_0 s0_1 s0_2 from by repeat (first | (with_reducible first | exact HI0.out | apply IsS94.alloc | apply IsS94.drewN | apply IsS94.drew | apply IsS94.set_1 | apply IsS94.set_2 | refine IsS94.far ?_ NB0_289.out _) | exact HI0.out))) : g ≠ gb299))
   have n10_ := am_ ((by rw [hg]; exact Nat.ne_of_gt (IsS94.lt (show IsS94 w0 _ g s0_0 s0_1 s0_2 from by repeat (first | (with_reducible first | exact HI0.out | apply IsS94.alloc | apply IsS94.drewN | apply IsS94.drew | apply IsS94.set_1 | apply IsS94.set_2 | refine IsS94.far ?_ NB0_289.out _) | exact HI0.out))) : gb299 ≠ g)); clear HI0; clear BK289; clear HK; clear HB; have HI0 := n0_; have BK289 := n1_; have HK := n2_; have HB := n3_; have BK299 := n4_; have GW299 := n5_; have GE299 := n6_; have NB289_299 := n7_; have NB299_289 := n8_; have NB0_299 := n9_; have NB299_0 := n10_; clear n0_ n1_ n2_ n3_ n4_ n5_ n6_ n7_ n8_ n9_ n10_; clear hb hbox hg; refine hK.out _ _ ⟨(blk_cell BK289.out 0).trans rfl, (blk_cell BK289.out 1).trans rfl, (blk_cell BK289.out 2).trans rfl⟩ (fun hHeld => ?_)
   clear hK K; refine norm_ (a' := ?_) ?_ ?_
   rotate_left
   ·show Act.put _ (some 5) _ = _
    simp only [Act.put, List.setIfInBounds_toArray, List.set_cons_zero, List.set_cons_succ, i64_w, i32_w]
    rfl
   refine one_ (i := 5) (N := some 13) #[true, true, true, true, true, true, true, false, false, false, false, false, true, false, false] rfl rfl (one_of HT_.out (by kernel_rfl)) (by decide) (fun K hK => ?_)
   refine goes_ Try.func41 (by kernel_rfl) rfl #[.pointer (some ⟨g, 0, none⟩), .int .i64 (l1_2.length : Int)] (by rfl) rfl rfl arr_ ?_
   with_reducible refine (spec_l1Below.calls g s0_0 s0_1 s0_2 (l1_2.length : Int) t290 t291 t292 w0 _ ?side1 ?side2 A3.out).mono ?_
   (case side1 => repeat (first | (with_reducible first | exact HI0.out | apply IsS94.alloc | apply IsS94.drewN | apply IsS94.drew | apply IsS94.set_1 | apply IsS94.set_2 | refine IsS94.far ?_ NB0_289.out _ | refine IsS94.far ?_ NB0_299.out _) | exact HI0.out))
   (case side2 => exact hb3_ HB.out (IsS94.ge HI0.out) GE289.out GE299.out)
   rintro e w10 ⟨rfl, hi, hb, hk⟩; refine ⟨_, rfl, ?_⟩
   have n0_ := am_ (KeepBut.blk hk (g' := gb289) (o := .cells #[.int .i64 a1_0, .int .i64 a1_1, .slice A1_2 l1_2.length c1_2] 30 (0, 0)) (bk_ BK289.out) NB289_0.out (by simp)); have n1_ := am_ (KeepBut.blk hk (g' := gb299) (o := .cells #[.int .i64 0, .int .i64 0] 25 (0, 0)) (bk_ BK299.out) NB299_0.out (by simp)); have n2_ := am_ (KeepBut.trans (hk2_ HK.out GW289.out GW299.out) hk (.inl rfl)); have n3_ := am_ (hb); have n4_ := am_ (hi); clear BK289; clear BK299; clear HK; clear HB; clear HI0; have BK289 := n0_; have BK299 := n1_; have HK := n2_; have HB := n3_; have HI0 := n4_; clear n0_ n1_ n2_ n3_ n4_; (try clear hb); (try clear hb2); (try clear hk); (try clear hi); refine hK.out _ _ ⟨(blk_cell BK289.out 0).trans rfl, (blk_cell BK289.out 1).trans rfl, (blk_cell BK289.out 2).trans rfl⟩ (fun hHeld => ?_)
   clear hK K; refine norm_ (a' := ?_) ?_ ?_
   rotate_left
   ·show Act.put _ (some 13) _ = _
    simp only [Act.put, List.setIfInBounds_toArray, List.set_cons_zero, List.set_cons_succ, i64_w, i32_w]
    rfl
   refine one_ (i := 7) (N := some 15) #[true, true, true, true, true, true, true, true, false, false, false, false, true, false, false] rfl rfl (one_of HT_.out (by kernel_rfl)) (by decide) (fun K hK => ?_)
   refine goes_ Try.func41 (by kernel_rfl) rfl #[.pointer (some ⟨g, 0, none⟩), .int .i64 5] (by rfl) rfl rfl arr_ ?_
   with_reducible refine (spec_l1Below.calls g s0_0 t291 t292 5 t293 t294 t295 w0 _ ?side1 ?side2 A4.out).mono ?_
   (case side1 => repeat (first | (with_reducible first | exact HI0.out | apply IsS94.alloc | apply IsS94.drewN | apply IsS94.drew | apply IsS94.set_1 | apply IsS94.set_2 | refine IsS94.far ?_ NB0_289.out _ | refine IsS94.far ?_ NB0_299.out _) | exact HI0.out))
   (case side2 => exact hb3_ HB.out (IsS94.ge HI0.out) GE289.out GE299.out)
   rintro e w11 ⟨rfl, hi, hb, hk⟩; refine ⟨_, rfl, ?_⟩
   have n0_ := am_ (KeepBut.blk hk (g' := gb289) (o := .cells #[.int .i64 a1_0, .int .i64 a1_1, .slice A1_2 l1_2.length c1_2] 30 (0, 0)) (bk_ BK289.out) NB289_0.out (by simp)); have n1_ := am_ (KeepBut.blk hk (g' := gb299) (o := .cells #[.int .i64 0, .int .i64 0] 25 (0, 0)) (bk_ BK299.out) NB299_0.out (by simp)); have n2_ := am_ (KeepBut.trans (hk2_ HK.out GW289.out GW299.out) hk (.inl rfl)); have n3_ := am_ (hb); have n4_ := am_ (hi); clear BK289; clear BK299; clear HK; clear HB; clear HI0; have BK289 := n0_; have BK299 := n1_; have HK := n2_; have HB := n3_; have HI0 := n4_; clear n0_ n1_ n2_ n3_ n4_; (try clear hb); (try clear hb2); (try clear hk); (try clear hi); refine hK.out _ _ ⟨(blk_cell BK289.out 0).trans rfl, (blk_cell BK289.out 1).trans rfl, (blk_cell BK289.out 2).trans rfl⟩ (fun hHeld => ?_)
   clear hK K; refine norm_ (a' := ?_) ?_ ?_
   rotate_left
   ·show Act.put _ (some 15) _ = _
    simp only [Act.put, List.setIfInBounds_toArray, List.set_cons_zero, List.set_cons_succ, i64_w, i32_w]
    rfl
   refine one_ (i := 8) (N := some 16) #[true, true, true, true, true, true, true, true, true, false, false, false, true, false, false] rfl rfl (one_of HT_.out (by kernel_rfl)) (by decide) (fun K hK => ?_)
   refine goes_ Try.func26 (by kernel_rfl) rfl #[.agg #[.int .i64 a1_0, .int .i64 a1_1, .slice A1_2 l1_2.length c1_2], .int .i64 t290, .int .i64 t293] (by rfl) rfl rfl arr_ ?_
   with_reducible refine (spec_Occurrence.calls k a1_0 a1_1 _ _ l1_2 t290 t293 t296 t297 t298 _ ?side1 ?side2 A5.out).mono ?_
   (case side1 => exact Kd.C_foot_now HR1_2.out (hk2_ HK.out GW289.out GW299.out))
   (case side2 => exact HC1_2.out)
   rintro e w12 ⟨rfl, hb⟩; refine ⟨_, rfl, ?_⟩
   have n0_ := am_ (IsS94.below (by repeat (first | (with_reducible first | exact HI0.out | apply IsS94.alloc | apply IsS94.drewN | apply IsS94.drew | apply IsS94.set_1 | apply IsS94.set_2 | refine IsS94.far ?_ NB0_289.out _ | refine IsS94.far ?_ NB0_299.out _) | exact HI0.out)) hb); have n1_ := am_ (bb_ BK289.out hb); have n2_ := am_ (bb_ BK299.out hb); have n3_ := am_ (KeepBut.trans (hk2_ HK.out GW289.out GW299.out) (KeepBut.of_below hb g none) (.inl rfl)); have n4_ := am_ (below_step (hb3_ HB.out (IsS94.ge HI0.out) GE289.out GE299.out) hb); clear HI0; clear BK289; clear BK299; clear HK; clear HB; have HI0 := n0_; have BK289 := n1_; have BK299 := n2_; have HK := n3_; have HB := n4_; clear n0_ n1_ n2_ n3_ n4_; (try clear hb); (try clear hb2); (try clear hk); (try clear hi); refine hK.out _ _ ⟨(blk_cell BK289.out 0).trans rfl, (blk_cell BK289.out 1).trans rfl, (blk_cell BK289.out 2).trans rfl⟩ (fun hHeld => ?_)
   clear hK K; refine norm_ (a' := ?_) ?_ ?_
   rotate_left
   ·show Act.put _ (some 16) _ = _
    simp only [Act.put, List.setIfInBounds_toArray, List.set_cons_zero, List.set_cons_succ, i64_w, i32_w]
    rfl
   refine pure_ (i := 9) (N := some 7) (v := ?_) (a' := ?_) #[true, true, true, true, true, true, true, true, true, true, false, false, true, false, false] rfl rfl (any_of HT_.out (by kernel_rfl)) (fun _ _ _ h => h) (Or.inl ⟨by rfl, ?_⟩) ?_ ?_
   rotate_left
   ·intro w'; go_simp
    with_reducible rfl
   rotate_left
   ·simp only [Act.put, List.setIfInBounds_toArray, List.set_cons_zero, List.set_cons_succ, i64_w, i32_w]
    rfl
   refine pure_ (i := 10) (N := some 17) (v := ?_) (a' := ?_) #[true, true, true, true, true, true, true, true, true, true, true, false, true, false, false] rfl rfl (any_of HT_.out (by kernel_rfl)) (fun _ _ _ h => h) (Or.inl ⟨by rfl, ?_⟩) ?_ ?_
   rotate_left
   ·intro w'; go_simp
    with_reducible rfl
   rotate_left
   ·simp only [Act.put, List.setIfInBounds_toArray, List.set_cons_zero, List.set_cons_succ, i64_w, i32_w]
    rfl
   refine pure_ (i := 11) (N := some 18) (v := ?_) (a' := ?_) #[true, true, true, true, true, true, true, true, true, true, true, true, true, false, false] rfl rfl (any_of HT_.out (by kernel_rfl)) (fun _ _ _ h => h) (Or.inl ⟨by rfl, ?_⟩) ?_ ?_
   rotate_left
   ·intro w'; go_simp
    with_reducible rfl
   rotate_left
   ·simp only [Act.put, List.setIfInBounds_toArray, List.set_cons_zero, List.set_cons_succ, i64_w, i32_w]
    rfl
   exact norm_ (by simp only [putAll, Act.put, List.setIfInBounds_toArray, List.set_cons_zero, List.set_cons_succ]) (hCont (gb299) _ ⟨hHeld, (bk_ BK289.out), (bk_ BK299.out), GW299.out, GE299.out, NB0_299.out, NB299_0.out, NB289_299.out, NB299_289.out, (by repeat (first | (with_reducible first | exact HI0.out | apply IsS94.alloc | apply IsS94.drewN | apply IsS94.drew | apply IsS94.set_1 | apply IsS94.set_2 | refine IsS94.far ?_ NB0_289.out _ | refine IsS94.far ?_ NB0_299.out _) | exact HI0.out)), (hk2_ HK.out GW289.out GW299.out), (hb3_ HB.out (IsS94.ge HI0.out) GE289.out GE299.out)⟩)
 rintro gb299 w13 ⟨hS_, h0_, h1_, h2_, h3_, h4_, h5_, h6_, h7_, h8_, h9_, h10_⟩; have n0_ : Aside0 (w13.heap[gb289]? = some (.cells #[.int .i64 a1_0, .int .i64 a1_1, .slice A1_2 l1_2.length c1_2] 30 (0, 0))) := ⟨h0_⟩; have n1_ : Aside0 (w13.heap[gb299]? = some (.cells #[.int .i64 0, .int .i64 0] 25 (0, 0))) := ⟨h1_⟩; have n2_ : Aside0 (w.heap.size ≤ gb299) := ⟨h2_⟩; have n3_ : Aside0 (w0.heap.size ≤ gb299) := ⟨h3_⟩; have n4_ : Aside0 (g ≠ gb299) := ⟨h4_⟩; have n5_ : Aside0 (gb299 ≠ g) := ⟨h5_⟩; have n6_ : Aside0 (gb289 ≠ gb299) := ⟨h6_⟩; have n7_ : Aside0 (gb299 ≠ gb289) := ⟨h7_⟩; have n8_ : Aside0 (IsS94 w0 w13 g s0_0 t294 t295) := ⟨h8_⟩; have n9_ : Aside0 (KeepBut w w13 g none) := ⟨h9_⟩; have n10_ : Aside0 (Below w0.heap.size w0 w13) := ⟨h10_⟩; clear BK289; clear HI0; clear HK; clear HB; clear h0_ h1_ h2_ h3_ h4_ h5_ h6_ h7_ h8_ h9_ h10_; have BK289 := n0_; have BK299 := n1_; have GW299 := n2_; have GE299 := n3_; have NB0_299 := n4_; have NB299_0 := n5_; have NB289_299 := n6_; have NB299_289 := n7_; have HI0 := n8_; have HK := n9_; have HB := n10_; clear n0_ n1_ n2_ n3_ n4_ n5_ n6_ n7_ n8_ n9_ n10_; have hHeld : w13.cell? ⟨gb289, 0, none⟩ = some (.int .i64 a1_0) ∧ w13.cell? ⟨gb289, 1, none⟩ = some (.int .i64 a1_1) ∧ w13.cell? ⟨gb289, 2, none⟩ = some (.slice A1_2 l1_2.length c1_2) := hS_; refine norm_ (a' := ?_) ?_ ?_
 rotate_left
 ·simp only [putAll, Act.put, List.setIfInBounds_toArray, List.set_cons_zero, List.set_cons_succ]
  rfl
 refine one_ (i := 13) (N := none) #[true, true, true, true, true, true, true, true, true, true, true, true, true, true, false] rfl rfl (one_of HT_.out (by kernel_rfl)) (by decide) (fun K hK => ?_)
 have hs14 : w13.cell? ⟨gb299, 0, none⟩ = some (.int .i64 0) := (blk_cell BK299.out 0).trans rfl; have hfs14 := blk_frozen BK299.out 0; have hns14_0 := NB289_299.out; have hms14_0 := NB299_289.out; have hs15 : w13.cell? ⟨gb299, 1, none⟩ = some (.int .i64 0) := (blk_cell BK299.out 1).trans rfl; have hfs15 := blk_frozen BK299.out 1; have hns15_0 := NB289_299.out; have hms15_0 := NB299_289.out; refine skip_ (w1 := ?_) (by rfl) rfl ?_ ?_
 rotate_left
 ·go_simp
  rfl
 refine hK.out _ _ ⟨(ct_ NB289_299.out ((ct_ NB289_299.out (hHeld.1)))), (ct_ NB289_299.out ((ct_ NB289_299.out (hHeld.2.1)))), (ct_ NB289_299.out ((ct_ NB289_299.out (hHeld.2.2))))⟩ (fun hHeld => ?_)
 clear hK K; refine pure_ (i := 14) (N := some 6) (v := ?_) (a' := ?_) #[true, true, true, true, true, true, true, true, true, true, true, true, true, true, true] rfl rfl (any_of HT_.out (by kernel_rfl)) (fun _ _ _ h => h) (Or.inl ⟨by rfl, ?_⟩) ?_ ?_
 rotate_left
 ·intro w'; go_simp
  with_reducible rfl
 rotate_left
 ·simp only [Act.put, List.setIfInBounds_toArray, List.set_cons_zero, List.set_cons_succ, i64_w, i32_w]
  rfl
 refine done_ (done_of HT_.out (by kernel_rfl)) ?_
 go_upto_region 2 with (fail)
 go_cut [24] (fun v24 wc => ∃ (kq : Nat) (x24_5 : Bool) (x1001_5 : Int) (x1002_5 : Int), v24 = .bool x24_5 ∧ Aside0 (spec_l13DrawTime.j0 kq x24_5 s0_0 x1001_5 x1002_5 t296 t297 = some (r1, r2, r3)) ∧ Aside0 (kq ≤ k) ∧ Aside0 (wc.heap[gb289]? = some (.cells #[.int .i64 a1_0, .int .i64 a1_1, (.slice A1_2 l1_2.length c1_2)] 30 (0, 0))) ∧ Aside0 (wc.heap[gb299]? = some (.cells #[.int .i64 t296, .int .i64 t297] 25 (0, 0))) ∧ Aside0 (IsS94 w0 wc g s0_0 x1001_5 x1002_5) ∧ Aside0 (KeepBut w wc g none) ∧ Aside0 (Below w0.heap.size w0 wc))
 case first =>
  have H := HC6.out; clear HC6; by_cases c16 : t298 = true
  ·subst c16; replace H := i1_ H; obtain ⟨⟨t300, t301, t302⟩, A17, H⟩ := ab_ H; (try dsimp only at H); have H' := Aside0.mk H; clear H
   go_wp2_with (first | (go_at_call 43; (with_reducible refine (spec_l1Once.calls g s0_0 t294 t295 6 t300 t301 t302 w0 _ ?side1 ?side2 A17.out).mono ?_); (case side1 => repeat (first | (with_reducible first | exact HI0.out | apply IsS94.alloc | apply IsS94.drewN | apply IsS94.drew | apply IsS94.set_1 | apply IsS94.set_2 | refine IsS94.far ?_ NB0_289.out _ | refine IsS94.far ?_ NB0_299.out _) | exact HI0.out)); (case side2 => exact hb3_ HB.out (IsS94.ge HI0.out) GE289.out GE299.out); rintro e w18 ⟨rfl, hi, hb, hk⟩; replace BK289 := am_ (KeepBut.blk hk (g' := gb289) (o := .cells #[.int .i64 a1_0, .int .i64 a1_1, .slice A1_2 l1_2.length c1_2] 30 (0, 0)) (by (with_reducible repeat (first | refine blk_drewN ?_ _ | refine blk_drew ?_ | refine blk_alloc ?_ _)); refine blk_far ?_ NB289_299.out _; (with_reducible repeat (first | refine blk_drewN ?_ _ | refine blk_drew ?_ | refine blk_alloc ?_ _)); refine blk_far ?_ NB289_299.out _; (with_reducible repeat (first | refine blk_drewN ?_ _ | refine blk_drew ?_ | refine blk_alloc ?_ _)); exact BK289.out) NB289_0.out (by simp)); replace BK299 := am_ (KeepBut.blk hk (g' := gb299) (o := .cells #[.int .i64 t296, .int .i64 t297] 25 (0, 0)) (by (with_reducible repeat (first | refine blk_drewN ?_ _ | refine blk_drew ?_ | refine blk_alloc ?_ _)); refine blk_put (cs := #[.int .i64 t296, .int .i64 0]) ?_ 1 _ rfl; (with_reducible repeat (first | refine blk_drewN ?_ _ | refine blk_drew ?_ | refine blk_alloc ?_ _)); refine blk_put (cs := #[.int .i64 0, .int .i64 0]) ?_ 0 _ rfl; (with_reducible repeat (first | refine blk_drewN ?_ _ | refine blk_drew ?_ | refine blk_alloc ?_ _)); exact BK299.out) NB299_0.out (by simp)); replace HK := am_ (KeepBut.trans (hk2_ HK.out GW289.out GW299.out) hk (.inl rfl)); replace HI0 := am_ (hi); replace HB := am_ (hb); (try clear hb); (try clear hb2); (try clear hk); (try clear hi)))
   go_meet
   case rel => exact ⟨_, (t300), (t301), (t302), (by first | rfl | (simp; done) | (simp [*]; done)), H', ⟨by first | omega | exact Nat.le_refl _⟩, ⟨bk_ BK289.out⟩, ⟨bk_ BK299.out⟩, ⟨by repeat (first | (with_reducible first | exact HI0.out | apply IsS94.alloc | apply IsS94.drewN | apply IsS94.drew | apply IsS94.set_1 | apply IsS94.set_2 | refine IsS94.far ?_ NB0_289.out _ | refine IsS94.far ?_ NB0_299.out _) | exact HI0.out)⟩, ⟨hk2_ HK.out GW289.out GW299.out⟩, ⟨hb3_ HB.out (IsS94.ge HI0.out) GE289.out GE299.out⟩⟩
  ·replace c16 := Bool.eq_false_iff.mpr c16; subst c16; replace H := i0_ H; have H' := Aside0.mk H; clear H; go_wp2
   go_meet
   case rel => exact ⟨_, (true), (t294), (t295), (by first | rfl | (simp; done) | (simp [*]; done)), H', ⟨by first | omega | exact Nat.le_refl _⟩, ⟨by (with_reducible repeat (first | refine blk_drewN ?_ _ | refine blk_drew ?_ | refine blk_alloc ?_ _)); refine blk_far ?_ NB289_299.out _; (with_reducible repeat (first | refine blk_drewN ?_ _ | refine blk_drew ?_ | refine blk_alloc ?_ _)); refine blk_far ?_ NB289_299.out _; (with_reducible repeat (first | refine blk_drewN ?_ _ | refine blk_drew ?_ | refine blk_alloc ?_ _)); exact BK289.out⟩, ⟨by (with_reducible repeat (first | refine blk_drewN ?_ _ | refine blk_drew ?_ | refine blk_alloc ?_ _)); refine blk_put (cs := #[.int .i64 t296, .int .i64 0]) ?_ 1 _ rfl; (with_reducible repeat (first | refine blk_drewN ?_ _ | refine blk_drew ?_ | refine blk_alloc ?_ _)); refine blk_put (cs := #[.int .i64 0, .int .i64 0]) ?_ 0 _ rfl; (with_reducible repeat (first | refine blk_drewN ?_ _ | refine blk_drew ?_ | refine blk_alloc ?_ _)); exact BK299.out⟩, ⟨by repeat (first | (with_reducible first | exact HI0.out | apply IsS94.alloc | apply IsS94.drewN | apply IsS94.drew | apply IsS94.set_1 | apply IsS94.set_2 | refine IsS94.far ?_ NB0_289.out _ | refine IsS94.far ?_ NB0_299.out _) | exact HI0.out)⟩, ⟨hk2_ HK.out GW289.out GW299.out⟩, ⟨hb3_ HB.out (IsS94.ge HI0.out) GE289.out GE299.out⟩⟩
 case rest =>
  clear HC6; (try clear c16); obtain ⟨kq, x24_5, x1001_5, x1002_5, rfl, HA, HJ5, BK289, BK299, HI0, HK, HB⟩ := hcut
  cases kq with
  | zero => exact absurd HA.out (by simp [spec_l13DrawTime.j0])
  | succ kj5 =>
   have H := HA.out; clear HA; simp only [spec_l13DrawTime.j0] at H
   by_cases c19 : x24_5 = true
   ·subst c19; replace H := i1_ H; obtain ⟨⟨t303, t304, t305⟩, A20, H⟩ := ab_ H; (try dsimp only at H); simp only [Option.some.injEq, Prod.mk.injEq] at H
    obtain ⟨rfl, rfl, rfl⟩ := H; go_wp2_with (first | ((with_reducible refine gate_callee (f := 85) rfl ?_); refine gl_ Try.func85 #[.pointer (some ⟨g, 0, none⟩)] ?_; (with_reducible refine (spec_l2DrawCount.calls g s0_0 x1001_5 x1002_5 t303 t304 t305 w0 _ ?side1 ?side2 A20.out).mono ?_); (case side1 => repeat (first | (with_reducible first | exact HI0.out | apply IsS94.alloc | apply IsS94.drewN | apply IsS94.drew | apply IsS94.set_1 | apply IsS94.set_2 | refine IsS94.far ?_ NB0_289.out _ | refine IsS94.far ?_ NB0_299.out _) | exact HI0.out)); (case side2 => exact hb3_ HB.out (IsS94.ge HI0.out) GE289.out GE299.out); rintro e w21 ⟨rfl, hi, hb, hk⟩; refine ⟨_, rfl, ?_⟩; replace BK289 := am_ (KeepBut.blk hk (g' := gb289) (o := .cells #[.int .i64 a1_0, .int .i64 a1_1, .slice A1_2 l1_2.length c1_2] 30 (0, 0)) (bk_ BK289.out) NB289_0.out (by simp)); replace BK299 := am_ (KeepBut.blk hk (g' := gb299) (o := .cells #[.int .i64 t296, .int .i64 t297] 25 (0, 0)) (bk_ BK299.out) NB299_0.out (by simp)); replace HK := am_ (KeepBut.trans (hk2_ HK.out GW289.out GW299.out) hk (.inl rfl)); replace HI0 := am_ (hi); replace HB := am_ (hb); (try clear hb); (try clear hb2); (try clear hk); (try clear hi)))
    go_ret
    exact ⟨er_, by repeat (first | (with_reducible first | exact HI0.out | apply IsS94.alloc | apply IsS94.drewN | apply IsS94.drew | apply IsS94.set_1 | apply IsS94.set_2 | refine IsS94.far ?_ NB0_289.out _ | refine IsS94.far ?_ NB0_299.out _) | exact HI0.out), hb3_ HB.out (IsS94.ge HI0.out) GE289.out GE299.out, hk2_ HK.out GW289.out GW299.out⟩
   ·replace c19 := Bool.eq_false_iff.mpr c19; subst c19; replace H := i0_ H; obtain ⟨y306, hy306⟩ : ∃ y_ : List Int, y_ = (([t296, t297, wrap64 (t296 - 1), wrap64 (t297 - 1), wrap64 (Int.tdiv (wrap64 (t296 + t297)) 2)] : List Int)) := ⟨_, rfl⟩; replace H : ((spec_l1PickInt.f s0_0 x1001_5 x1002_5 y306).bind fun bt309 => (some (bt309.1, bt309.2.1, bt309.2.2))) = some (r1, r2, r3) := by first | (rw [hy306]; with_reducible exact H) | (have H2_ := (Option.bind_some _ _).symm.trans H; rw [hy306]; with_reducible exact H2_) | (have H2_ := (Option.bind_some _ _).symm.trans H; with_reducible exact H2_) | with_reducible exact H | (rw [hy306]; exact H) | exact H
    have Ny306 := Aside0.mk hy306; clear hy306; obtain ⟨⟨t309, t310, t311⟩, A22, H⟩ := ab_ H; (try dsimp only at H); simp only [Option.some.injEq, Prod.mk.injEq] at H
    obtain ⟨rfl, rfl, rfl⟩ := H; have hnb23 := NB299_289.out; have hnc23 := NB289_299.out; have hnb24 := NB299_0.out; have hnc24 := NB0_299.out; have hcz25_0 := bc_ BK299.out 0 (.int .i64 t296) rfl; have hcz25_1 := bc_ BK299.out 1 (.int .i64 t297) rfl; have hfz25_0 := blk_frozen BK299.out 0; have hfz25_1 := blk_frozen BK299.out 1
    go_wp2_with (first | ((with_reducible refine gate_dst (N := 44) rfl ?_); refine Kd.R_lit (Kd.int .i64) _ 3 ?hg (N := 44) ?hd (xs := ([t296, t297, wrap64 (t296 - 1), wrap64 (t297 - 1), wrap64 (Int.tdiv (wrap64 (t296 + t297)) 2)] : List Int)) (inner := [.int .i64 t296, .int .i64 t297, .int .i64 (wrap64 (t296 - 1)), .int .i64 (wrap64 (t297 - 1)), .int .i64 (wrap64 (Int.tdiv (wrap64 (t296 + t297)) 2))]) (ok := fun _ => True) (okp := fun _ => True) ?hr ?hp (fun _ hk => hk) trivial (Below.refl _ _) (Nat.le_refl _) (by simp) ?_; (case hd => rfl); (case hg => rfl); (case hr => first|(go_simp;done)|(go_simp;rfl)); (case hp => exact (Reps.one (show Kd.M (Kd.int .i64) _ _ _ t296 [.int .i64 t296] from rfl) (Reps.one (show Kd.M (Kd.int .i64) _ _ _ t297 [.int .i64 t297] from rfl) (Reps.one (show Kd.M (Kd.int .i64) _ _ _ (wrap64 (t296 - 1)) [.int .i64 (wrap64 (t296 - 1))] from rfl) (Reps.one (show Kd.M (Kd.int .i64) _ _ _ (wrap64 (t297 - 1)) [.int .i64 (wrap64 (t297 - 1))] from rfl) (Reps.one (show Kd.M (Kd.int .i64) _ _ _ (wrap64 (Int.tdiv (wrap64 (t296 + t297)) 2)) [.int .i64 (wrap64 (Int.tdiv (wrap64 (t296 + t297)) 2))] from rfl) (Reps.none _ _))))))); intro v307 w26 ho27 hb hg_ hnew_; clear hg_ hnew_; (first | rw [← Ny306.out] at ho27 | (simp only [Int.reduceToNat] at ho27; rw [← Ny306.out] at ho27)); have n0_ := am_ (Kd.R_lower ho27 (keep_size (w := w) (g := g) (row := none) (hk2_ HK.out GW289.out GW299.out))); have n1_ := am_ (bb_ BK289.out hb); have n2_ := am_ (bb_ BK299.out hb); have n3_ := am_ (IsS94.below (by repeat (first | (with_reducible first | exact HI0.out | apply IsS94.alloc | apply IsS94.drewN | apply IsS94.drew | apply IsS94.set_1 | apply IsS94.set_2 | refine IsS94.far ?_ NB0_289.out _ | refine IsS94.far ?_ NB0_299.out _) | exact HI0.out)) hb); have n4_ := am_ (KeepBut.trans (hk2_ HK.out GW289.out GW299.out) (KeepBut.of_below hb g none) (.inl rfl)); have n5_ := am_ (below_step (hb3_ HB.out (IsS94.ge HI0.out) GE289.out GE299.out) hb); clear BK289; clear BK299; clear HI0; clear HK; clear HB; have HO308 := n0_; have BK289 := n1_; have BK299 := n2_; have HI0 := n3_; have HK := n4_; have HB := n5_; clear n0_ n1_ n2_ n3_ n4_ n5_; clear hb ho27; obtain ⟨Ao28, co28, eo28⟩ := Kd.R_slice HO308.out; subst eo28) | ((with_reducible refine gate_callee (f := 44) rfl ?_); refine gl_ Try.func44 #[.pointer (some ⟨g, 0, none⟩), .slice Ao28 y306.length co28] ?_; (with_reducible refine (spec_l1PickInt.calls g s0_0 x1001_5 x1002_5 _ _ y306 t309 t310 t311 w0 _ ?side1 ?side2 ?side3 ?side4 ?side5 A22.out).mono ?_); (case side1 => repeat (first | (with_reducible first | exact HI0.out | apply IsS94.alloc | apply IsS94.drewN | apply IsS94.drew | apply IsS94.set_1 | apply IsS94.set_2 | refine IsS94.far ?_ NB0_289.out _ | refine IsS94.far ?_ NB0_299.out _) | exact HI0.out)); (case side2 => exact hb3_ HB.out (IsS94.ge HI0.out) GE289.out GE299.out); (case side3 => repeat (first | exact (Kd.R_reads' HO308.out).2.2 | (with_reducible refine Kd.C_alloc ?_ _) | (with_reducible refine Kd.C_drewN ?_ _) | (with_reducible refine Kd.C_drew ?_))); (case side4 => exact (Kd.R_reads' HO308.out).2.1); (case side5 => exact far_slice (IsS94.own_ne HI0.out HO308.out (by decide))); rintro e w29 ⟨rfl, hi, hb, hk⟩; refine ⟨_, rfl, ?_⟩; replace BK289 := am_ (KeepBut.blk hk (g' := gb289) (o := .cells #[.int .i64 a1_0, .int .i64 a1_1, .slice A1_2 l1_2.length c1_2] 30 (0, 0)) (bk_ BK289.out) NB289_0.out (by simp)); replace BK299 := am_ (KeepBut.blk hk (g' := gb299) (o := .cells #[.int .i64 t296, .int .i64 t297] 25 (0, 0)) (bk_ BK299.out) NB299_0.out (by simp)); replace HO308 := am_ (Kd.R_mono (Kd.R_keep (IsS94.apart (show IsS94 w0 _ g s0_0 x1001_5 x1002_5 from by repeat (first | (with_reducible first | exact HI0.out | apply IsS94.alloc | apply IsS94.drewN | apply IsS94.drew | apply IsS94.set_1 | apply IsS94.set_2 | refine IsS94.far ?_ NB0_289.out _ | refine IsS94.far ?_ NB0_299.out _) | exact HI0.out)) (by (with_reducible repeat (first | apply Kd.R_alloc | apply Kd.R_drewN | apply Kd.R_drew)); exact HO308.out) (by decide)) hk (fun _ h => h.2)) (fun _ h => h.1)); replace HK := am_ (KeepBut.trans (hk2_ HK.out GW289.out GW299.out) hk (.inl rfl)); replace HI0 := am_ (hi); replace HB := am_ (hb); (try clear hb); (try clear hb2); (try clear hk); (try clear hi)))
    go_ret
    exact ⟨er_, by repeat (first | (with_reducible first | exact HI0.out | apply IsS94.alloc | apply IsS94.drewN | apply IsS94.drew | apply IsS94.set_1 | apply IsS94.set_2 | refine IsS94.far ?_ NB0_289.out _ | refine IsS94.far ?_ NB0_299.out _) | exact HI0.out), hb3_ HB.out (IsS94.ge HI0.out) GE289.out GE299.out, hk2_ HK.out GW289.out GW299.out⟩
def spec_DrawNextOwn.f (k : Nat) (l0 : List Int) : Option (Int × Int × (List (S42)) × Int × Int) := (spec_l1New.f k l0).bind fun bt1001 => ((spec_l13DrawAny.f k bt1001.1 bt1001.2.1 bt1001.2.2).bind fun bt1005 => ((spec_l1Below.f bt1001.1 bt1005.2.2.2.1 bt1005.2.2.2.2 5).bind fun bt1013 => ((spec_l13DrawTime.f k bt1001.1 bt1013.2.1 bt1013.2.2 bt1005.1 bt1005.2.1 bt1005.2.2.1).bind fun bt1016 => (some (bt1005.1, bt1005.2.1, bt1005.2.2.1, bt1013.1, bt1016.1)))))
def spec_DrawNextOwn.T4 : Bool × List (List Nat × List Nat) := (true, [([], []), ([], []), ([], []), ([], []), ([2, 3], [2, 3]), ([0, 4, 0], [0]), ([1, 5, 0, 1, 5], [1]), ([4, 6, 0, 1, 2, 3, 4, 5, 6], [4])])
def spec_DrawNextOwn.B4 : List Nat := [0, 0, 0, 0, 12, 29, 63, 127]
theorem spec_DrawNextOwn.tab4 : rtab .any (opsOf Try.f31 4) = spec_DrawNextOwn.T4 := by kernel_rfl
theorem spec_DrawNextOwn.bits4 : waitsOk spec_DrawNextOwn.T4.2 spec_DrawNextOwn.B4 = true := by kernel_rfl
set_option maxHeartbeats 8000000 in
set_option maxRecDepth 100000 in
theorem spec_DrawNextOwn.calls (k : Nat) (A0 : Option Addr) (c0 : Nat) (l0 : List Int) (r1 : Int) (r2 : Int) (r3 : List (S42)) (r4 : Int) (r5 : Int) (w : World) (hr0 : Kd.C (Kd.int .u8) w A0 l0.length l0) (hc0 : l0.length ≤ c0) (h : spec_DrawNextOwn.f k l0 = some (r1, r2, r3, r4, r5)) :
  Calls Try.prog 31 #[.slice A0 l0.length c0] w fun e w' => ∃ v2_ : Value, e = .returned (.tuple #[.agg #[.int .i64 r1, .int .i64 r2, v2_], .int .i64 r4, .int .i64 r5]) ∧ Kd.R k42 42 w' w.heap.size (fun _ => True) v2_ r3 ∧ Below w.heap.size w w' := by
 have hu30 := Try.underlying30; have HR0 := Aside0.mk hr0; have HC0 := Aside0.mk hc0; clear hr0 hc0; have HB := am_ (Below.refl w.heap.size w); have H : ((spec_l1New.f k l0).bind fun bt1001 => ((spec_l13DrawAny.f k bt1001.1 bt1001.2.1 bt1001.2.2).bind fun bt1005 => ((spec_l1Below.f bt1001.1 bt1005.2.2.2.1 bt1005.2.2.2.2 5).bind fun bt1013 => ((spec_l13DrawTime.f k bt1001.1 bt1013.2.1 bt1013.2.2 bt1005.1 bt1005.2.1 bt1005.2.2.1).bind fun bt1016 => (some (bt1005.1, bt1005.2.1, bt1005.2.2.1, bt1013.1, bt1016.1)))))) = some (r1, r2, r3, r4, r5) := h; clear h; obtain ⟨⟨t1001, t1002, t1003⟩, A2, H⟩ := ab_ H; (try dsimp only at H); obtain ⟨⟨t1005, t1006, t1007, t1010, t1011⟩, A3, H⟩ := ab_ H; (try dsimp only at H); obtain ⟨⟨t1013, t1014, t1015⟩, A4, H⟩ := ab_ H; (try dsimp only at H); obtain ⟨⟨t1016, t1017, t1018⟩, A5, H⟩ := ab_ H; (try dsimp only at H); simp only [Option.some.injEq, Prod.mk.injEq] at H
 obtain ⟨rfl, rfl, rfl, rfl, rfl⟩ := H; go_enter Try.func31, Try.ntmps31
 try go_wp2_with (first | ((with_reducible refine gate_dst (N := 2) rfl ?_); refine be_ (N := 2) (cs := #[.int .i64 0, .int .i64 0, .slice none 0 0]) (t := 30) ?_; intro gb1000 hg w6 hbox hb; have BK1000 := am_ (hbox); have GW1000 := am_ (hy_ hg (hb_ HB.out) : w.heap.size ≤ gb1000); have GE1000 := GW1000; replace HB := am_ (below_step (hb_ HB.out) hb); clear hb hbox hg) | ((with_reducible refine gate_callee (f := 36) rfl ?_); refine gl_ Try.func36 #[.slice A0 l0.length c0] ?_; (with_reducible refine (spec_l1New.calls k _ _ l0 t1001 t1002 t1003 w _ ?side1 ?side2 ?side3 A2.out).mono ?_); (case side1 => exact hb1_ HB.out GE1000.out); (case side2 => exact HR0.out); (case side3 => exact HC0.out); rintro e w7 ⟨g1004, rfl, hi, hb, hb2⟩; refine ⟨_, rfl, ?_⟩; have HI1004 := am_ (hi); have NB1004_1000 := am_ (IsS94.ne_blk hi (blk_below (g := gb1000) (o := .cells #[.int .i64 0, .int .i64 0, .slice none 0 0] 30 (0, 0)) (bk_ BK1000.out) hb2) (by decide)); have NB1000_1004 := am_ (Ne.symm (IsS94.ne_blk hi (blk_below (g := gb1000) (o := .cells #[.int .i64 0, .int .i64 0, .slice none 0 0] 30 (0, 0)) (bk_ BK1000.out) hb2) (by decide))); replace BK1000 := am_ (blk_below (g := gb1000) (o := .cells #[.int .i64 0, .int .i64 0, .slice none 0 0] 30 (0, 0)) (bk_ BK1000.out) hb2); replace HB := am_ (hb); (try clear hb); (try clear hb2); (try clear hk); (try clear hi)) | ((with_reducible refine gate_callee (f := 37) rfl ?_); refine gl_ Try.func37 #[.pointer (some ⟨g1004, 0, none⟩)] ?_; (with_reducible refine (spec_l13DrawAny.calls k g1004 t1001 t1002 t1003 t1005 t1006 t1007 t1010 t1011 w _ ?side1 ?side2 A3.out).mono ?_); (case side1 => repeat (first | (with_reducible first | exact HI1004.out | apply IsS94.alloc | apply IsS94.drewN | apply IsS94.drew | apply IsS94.set_1 | apply IsS94.set_2 | refine IsS94.far ?_ NB1004_1000.out _) | exact HI1004.out)); (case side2 => exact hb2_ HB.out (IsS94.ge HI1004.out) GE1000.out); rintro e w8 ⟨v1008, rfl, ho0, hi, hb, hk⟩; refine ⟨_, rfl, ?_⟩; have HO1009 := am_ (Kd.R_lower ho0 (below_size (hb2_ HB.out (IsS94.ge HI1004.out) GE1000.out))); replace BK1000 := am_ (KeepBut.blk hk (g' := gb1000) (o := .cells #[.int .i64 0, .int .i64 0, .slice none 0 0] 30 (0, 0)) (bk_ BK1000.out) NB1000_1004.out (by simp)); replace HI1004 := am_ (hi); replace HB := am_ (hb); (try clear hb); (try clear hb2); (try clear hk); (try clear hi); (try clear ho0)) | ((with_reducible refine gate_dst (N := 6) rfl ?_); refine be_ (N := 6) (cs := #[.int .i64 0, .int .i64 0, .slice none 0 0]) (t := 30) ?_; intro gb1012 hg w9 hbox hb; have n0_ := am_ (Kd.R_below (by (with_reducible repeat (first | apply Kd.R_alloc | apply Kd.R_drewN | apply Kd.R_drew)); exact HO1009.out) hb); have n1_ := am_ (bb_ BK1000.out hb); have n2_ := am_ (IsS94.below (by repeat (first | (with_reducible first | exact HI1004.out | apply IsS94.alloc | apply IsS94.drewN | apply IsS94.drew | apply IsS94.set_1 | apply IsS94.set_2 | refine IsS94.far ?_ NB1004_1000.out _) | exact HI1004.out)) hb); have n3_ := am_ (below_step (hb2_ HB.out (IsS94.ge HI1004.out) GE1000.out) hb); have n4_ := am_ (hbox); have n5_ := am_ ((by rw [hg]; exact (below_size (hb2_ HB.out (IsS94.ge HI1004.out) GE1000.out)) : w.heap.size ≤ gb1012)); have n6_ := am_ ((by rw [hg]; exact (below_size (hb2_ HB.out (IsS94.ge HI1004.out) GE1000.out)) : w.heap.size ≤ gb1012)); have n7_ := am_ ((bl_ hg BK1000.out : gb1000 ≠ gb1012)); have n8_ := am_ ((bg_ hg BK1000.out : gb1012 ≠ gb1000)); have n9_ := am_ ((by rw [hg]; exact Nat.ne_of_lt (IsS94.lt (show IsS94 w _ g1004 t1001 t1010 t1011 from by repeat (first | (with_reducible first | exact HI1004.out | apply IsS94.alloc | apply IsS94.drewN | apply IsS94.drew | apply IsS94.set_1 | apply IsS94.set_2 | refine IsS94.far ?_ NB1004_1000.out _) | exact HI1004.out))) : g1004 ≠ gb1012)); have n10_ := am_ ((by rw [hg]; exact Nat.ne_of_gt (IsS94.lt (show IsS94 w _ g1004 t1001 t1010 t1011 from by repeat (first | (with_reducible first | exact HI1004.out | apply IsS94.alloc | apply IsS94.drewN | apply IsS94.drew | apply IsS94.set_1 | apply IsS94.set_2 | refine IsS94.far ?_ NB1004_1000.out _) | exact HI1004.out))) : gb1012 ≠ g1004)); clear HO1009; clear BK1000; clear HI1004; clear HB; have HO1009 := n0_; have BK1000 := n1_; have HI1004 := n2_; have HB := n3_; have BK1012 := n4_; have GW1012 := n5_; have GE1012 := n6_; have NB1000_1012 := n7_; have NB1012_1000 := n8_; have NB1004_1012 := n9_; have NB1012_1004 := n10_; clear n0_ n1_ n2_ n3_ n4_ n5_ n6_ n7_ n8_ n9_ n10_; clear hb hbox hg; have hnb10 := NB1012_1000.out; have hnc10 := NB1000_1012.out; have hnb11 := NB1012_1004.out; have hnc11 := NB1004_1012.out; obtain ⟨hcz12_0, hcz12_1, hcz12_2, hfz12_0, hfz12_1, hfz12_2⟩ := bc3_ BK1012.out; obtain ⟨Ao13, co13, eo13⟩ := Kd.R_slice HO1009.out; subst eo13) | ((with_reducible refine gate_callee (f := 41) rfl ?_); refine gl_ Try.func41 #[.pointer (some ⟨g1004, 0, none⟩), .int .i64 5] ?_; (with_reducible refine (spec_l1Below.calls g1004 t1001 t1010 t1011 5 t1013 t1014 t1015 w _ ?side1 ?side2 A4.out).mono ?_); (case side1 => repeat (first | (with_reducible first | exact HI1004.out | apply IsS94.alloc | apply IsS94.drewN | apply IsS94.drew | apply IsS94.set_1 | apply IsS94.set_2 | refine IsS94.far ?_ NB1004_1000.out _ | refine IsS94.far ?_ NB1004_1012.out _) | exact HI1004.out)); (case side2 => exact hb3_ HB.out (IsS94.ge HI1004.out) GE1000.out GE1012.out); rintro e w14 ⟨rfl, hi, hb, hk⟩; refine ⟨_, rfl, ?_⟩; replace BK1000 := am_ (KeepBut.blk hk (g' := gb1000) (o := .cells #[.int .i64 0, .int .i64 0, .slice none 0 0] 30 (0, 0)) (by (with_reducible repeat (first | refine blk_drewN ?_ _ | refine blk_drew ?_ | refine blk_alloc ?_ _)); refine blk_far ?_ NB1000_1012.out _; (with_reducible repeat (first | refine blk_drewN ?_ _ | refine blk_drew ?_ | refine blk_alloc ?_ _)); refine blk_far ?_ NB1000_1012.out _; (with_reducible repeat (first | refine blk_drewN ?_ _ | refine blk_drew ?_ | refine blk_alloc ?_ _)); refine blk_far ?_ NB1000_1012.out _; (with_reducible repeat (first | refine blk_drewN ?_ _ | refine blk_drew ?_ | refine blk_alloc ?_ _)); exact BK1000.out) NB1000_1004.out (by simp)); replace HO1009 := am_ (Kd.R_mono (Kd.R_keep (IsS94.apart (show IsS94 w _ g1004 t1001 t1010 t1011 from by repeat (first | (with_reducible first | exact HI1004.out | apply IsS94.alloc | apply IsS94.drewN | apply IsS94.drew | apply IsS94.set_1 | apply IsS94.set_2 | refine IsS94.far ?_ NB1004_1000.out _ | refine IsS94.far ?_ NB1004_1012.out _) | exact HI1004.out)) (by (with_reducible repeat (first | apply Kd.R_alloc | apply Kd.R_drewN | apply Kd.R_drew)); exact (Kd.R_mono (Kd.R_far (p := ⟨gb1012, 2, none⟩) (Kd.R_far (p := ⟨gb1012, 1, none⟩) (Kd.R_far (p := ⟨gb1012, 0, none⟩) (Kd.R_types HO1009.out BK1012.out (by decide)) (fun _ hk => hk.2) (.int .i64 t1005)) (fun _ hk => hk.2) (.int .i64 t1006)) (fun _ hk => hk.2) (.slice Ao13 t1007.length co13)) (fun _ h_ => h_.1))) (by decide)) hk (fun _ h => h.2)) (fun _ h => h.1)); replace BK1012 := am_ (KeepBut.blk hk (g' := gb1012) (o := .cells #[.int .i64 t1005, .int .i64 t1006, .slice Ao13 t1007.length co13] 30 (0, 0)) (by (with_reducible repeat (first | refine blk_drewN ?_ _ | refine blk_drew ?_ | refine blk_alloc ?_ _)); refine blk_put (cs := #[.int .i64 t1005, .int .i64 t1006, .slice none 0 0]) ?_ 2 _ rfl; (with_reducible repeat (first | refine blk_drewN ?_ _ | refine blk_drew ?_ | refine blk_alloc ?_ _)); refine blk_put (cs := #[.int .i64 t1005, .int .i64 0, .slice none 0 0]) ?_ 1 _ rfl; (with_reducible repeat (first | refine blk_drewN ?_ _ | refine blk_drew ?_ | refine blk_alloc ?_ _)); refine blk_put (cs := #[.int .i64 0, .int .i64 0, .slice none 0 0]) ?_ 0 _ rfl; (with_reducible repeat (first | refine blk_drewN ?_ _ | refine blk_drew ?_ | refine blk_alloc ?_ _)); exact BK1012.out) NB1012_1004.out (by simp)); replace HI1004 := am_ (hi); replace HB := am_ (hb); (try clear hb); (try clear hb2); (try clear hk); (try clear hi)))
 have n0_ := am_ (Kd.R_drew HO1009.out); have n1_ := am_ (blk_drew BK1000.out); have n2_ := am_ (blk_drew BK1012.out); have n3_ := am_ (IsS94.drew HI1004.out); have n4_ := am_ (below_drew1 HB.out); clear HO1009; clear BK1000; clear BK1012; clear HI1004; clear HB; have HO1009 := n0_; have BK1000 := n1_; have BK1012 := n2_; have HI1004 := n3_; have HB := n4_; clear n0_ n1_ n2_ n3_ n4_; refine start_ (n := 8) (S := fun w' => w'.cell? ⟨gb1012, 0, none⟩ = some (.int .i64 t1005) ∧ w'.cell? ⟨gb1012, 1, none⟩ = some (.int .i64 t1006) ∧ w'.cell? ⟨gb1012, 2, none⟩ = some (.slice Ao13 t1007.length co13)) (ds := []) #[false, false, false, false, false, false, false, false] (by kernel_rfl) rfl rfl ⟨(blk_cell BK1012.out 0).trans rfl, (blk_cell BK1012.out 1).trans rfl, (blk_cell BK1012.out 2).trans rfl⟩ (fun hHeld => ?_); refine with_tabW spec_DrawNextOwn.tab4 spec_DrawNextOwn.bits4 (fun HT_ HW_ => ?_)
 generalize w14.drew = w15 at HO1009 BK1000 BK1012 HI1004 HB hHeld ⊢
 refine pure_ (i := 1) (N := some 15) (v := ?_) (a' := ?_) #[false, true, false, false, false, false, false, false] rfl rfl (any_of HT_.out (by kernel_rfl)) (fun _ _ _ h => h) (Or.inl ⟨by rfl, ?_⟩) ?_ ?_
 rotate_left
 ·intro w'; go_simp
  with_reducible rfl
 rotate_left
 ·simp only [Act.put, List.setIfInBounds_toArray, List.set_cons_zero, List.set_cons_succ, i64_w, i32_w]
  rfl
 refine pure_ (i := 2) (N := some 16) (v := ?_) (a' := ?_) #[false, true, true, false, false, false, false, false] rfl rfl (any_of HT_.out (by kernel_rfl)) (fun _ _ _ h => h) (Or.inl ⟨by rfl, ?_⟩) ?_ ?_
 rotate_left
 ·intro w'; go_simp
  with_reducible rfl
 rotate_left
 ·simp only [Act.put, List.setIfInBounds_toArray, List.set_cons_zero, List.set_cons_succ, i64_w, i32_w]
  rfl
 refine take_ (i := 0) (N := some 14) (v := ?_) (a' := ?_) #[true, true, true, false, false, false, false, false] rfl rfl (take_ofW HT_.out HW_.out (by kernel_rfl)) (fun _ _ _ h => h) (Or.inl ⟨by rfl, ?_⟩) hHeld ?_ ?_
 rotate_left
 ·rintro w' ⟨s0, s1, s2⟩; go_simp
  with_reducible rfl
 rotate_left
 ·simp only [Act.put, List.setIfInBounds_toArray, List.set_cons_zero, List.set_cons_succ, i64_w, i32_w]
  rfl
 refine take_ (i := 3) (N := some 17) (v := ?_) (a' := ?_) #[true, true, true, true, false, false, false, false] rfl rfl (take_ofW HT_.out HW_.out (by kernel_rfl)) (fun _ _ _ h => h) (Or.inl ⟨by rfl, ?_⟩) hHeld ?_ ?_
 rotate_left
 ·rintro w' ⟨s0, s1, s2⟩; go_simp
  with_reducible rfl
 rotate_left
 ·simp only [Act.put, List.setIfInBounds_toArray, List.set_cons_zero, List.set_cons_succ, i64_w, i32_w]
  rfl
 refine one_ (i := 4) (N := some 18) #[true, true, true, true, true, false, false, false] rfl rfl (one_of HT_.out (by kernel_rfl)) (by decide) (fun K hK => ?_)
 refine goes_ Try.func39 (by kernel_rfl) rfl #[.pointer (some ⟨g1004, 0, none⟩), .agg #[.int .i64 t1005, .int .i64 t1006, .slice Ao13 t1007.length co13]] (by rfl) rfl rfl arr_ ?_
 with_reducible refine (spec_l13DrawTime.calls k g1004 t1001 t1014 t1015 t1005 t1006 _ _ t1007 t1016 t1017 t1018 w _ ?side1 ?side2 ?side3 ?side4 A5.out).mono ?_
 (case side1 => repeat (first | (with_reducible first | exact HI1004.out | apply IsS94.alloc | apply IsS94.drewN | apply IsS94.drew | apply IsS94.set_1 | apply IsS94.set_2 | refine IsS94.far ?_ NB1004_1000.out _ | refine IsS94.far ?_ NB1004_1012.out _) | exact HI1004.out))
 (case side2 => exact hb3_ HB.out (IsS94.ge HI1004.out) GE1000.out GE1012.out)
 (case side3 => exact Kd.C_foot_own (IsS94.apart (show IsS94 w _ g1004 t1001 t1014 t1015 from by repeat (first | (with_reducible first | exact HI1004.out | apply IsS94.alloc | apply IsS94.drewN | apply IsS94.drew | apply IsS94.set_1 | apply IsS94.set_2 | refine IsS94.far ?_ NB1004_1000.out _ | refine IsS94.far ?_ NB1004_1012.out _) | exact HI1004.out)) (by (with_reducible repeat (first | apply Kd.R_alloc | apply Kd.R_drewN | apply Kd.R_drew)); exact HO1009.out) (by decide)) (fun _ h_ => h_.2))
 (case side4 => exact (Kd.R_reads' HO1009.out).2.1)
 rintro e w16 ⟨rfl, hi, hb, hk⟩; refine ⟨_, rfl, ?_⟩
 have n0_ := am_ (KeepBut.blk hk (g' := gb1000) (o := .cells #[.int .i64 0, .int .i64 0, .slice none 0 0] 30 (0, 0)) (bk_ BK1000.out) NB1000_1004.out (by simp)); have n1_ := am_ (Kd.R_mono (Kd.R_keep (IsS94.apart (show IsS94 w _ g1004 t1001 t1014 t1015 from by repeat (first | (with_reducible first | exact HI1004.out | apply IsS94.alloc | apply IsS94.drewN | apply IsS94.drew | apply IsS94.set_1 | apply IsS94.set_2 | refine IsS94.far ?_ NB1004_1000.out _ | refine IsS94.far ?_ NB1004_1012.out _) | exact HI1004.out)) (by (with_reducible repeat (first | apply Kd.R_alloc | apply Kd.R_drewN | apply Kd.R_drew)); exact HO1009.out) (by decide)) hk (fun _ h => h.2)) (fun _ h => h.1)); have n2_ := am_ (KeepBut.blk hk (g' := gb1012) (o := .cells #[.int .i64 t1005, .int .i64 t1006, .slice Ao13 t1007.length co13] 30 (0, 0)) (bk_ BK1012.out) NB1012_1004.out (by simp)); have n3_ := am_ (hb); have n4_ := am_ (hi); clear BK1000; clear HO1009; clear BK1012; clear HB; clear HI1004; have BK1000 := n0_; have HO1009 := n1_; have BK1012 := n2_; have HB := n3_; have HI1004 := n4_; clear n0_ n1_ n2_ n3_ n4_; (try clear hb); (try clear hb2); (try clear hk); (try clear hi); refine hK.out _ _ ⟨(blk_cell BK1012.out 0).trans rfl, (blk_cell BK1012.out 1).trans rfl, (blk_cell BK1012.out 2).trans rfl⟩ (fun hHeld => ?_)
 clear hK K; refine norm_ (a' := ?_) ?_ ?_
 rotate_left
 ·show Act.put _ (some 18) _ = _
  simp only [Act.put, List.setIfInBounds_toArray, List.set_cons_zero, List.set_cons_succ, i64_w, i32_w]
  rfl
 refine one_ (i := 5) (N := none) #[true, true, true, true, true, true, false, false] rfl rfl (one_of HT_.out (by kernel_rfl)) (by decide) (fun K hK => ?_)
 have hs17 : w16.cell? ⟨gb1000, 0, none⟩ = some (.int .i64 0) := (blk_cell BK1000.out 0).trans rfl; have hfs17 := blk_frozen BK1000.out 0; have hns17_1 := NB1012_1000.out; have hms17_1 := NB1000_1012.out; have hs18 : w16.cell? ⟨gb1000, 1, none⟩ = some (.int .i64 0) := (blk_cell BK1000.out 1).trans rfl; have hfs18 := blk_frozen BK1000.out 1; have hns18_1 := NB1012_1000.out; have hms18_1 := NB1000_1012.out; have hs19 : w16.cell? ⟨gb1000, 2, none⟩ = some (.slice none 0 0) := (blk_cell BK1000.out 2).trans rfl; have hfs19 := blk_frozen BK1000.out 2; have hns19_1 := NB1012_1000.out; have hms19_1 := NB1000_1012.out; refine skip_ (w1 := ?_) (by rfl) rfl ?_ ?_
 rotate_left
 ·go_simp
  rfl
 refine hK.out _ _ ⟨(ct_ NB1012_1000.out ((ct_ NB1012_1000.out ((ct_ NB1012_1000.out (hHeld.1)))))), (ct_ NB1012_1000.out ((ct_ NB1012_1000.out ((ct_ NB1012_1000.out (hHeld.2.1)))))), (ct_ NB1012_1000.out ((ct_ NB1012_1000.out ((ct_ NB1012_1000.out (hHeld.2.2))))))⟩ (fun hHeld => ?_)
 clear hK K; refine pure_ (i := 6) (N := some 3) (v := ?_) (a' := ?_) #[true, true, true, true, true, true, true, false] rfl rfl (any_of HT_.out (by kernel_rfl)) (fun _ _ _ h => h) (Or.inl ⟨by rfl, ?_⟩) ?_ ?_
 rotate_left
 ·intro w'; go_simp
  with_reducible rfl
 rotate_left
 ·simp only [Act.put, List.setIfInBounds_toArray, List.set_cons_zero, List.set_cons_succ, i64_w, i32_w]
  rfl
 refine pure_ (i := 7) (N := some 4) (v := ?_) (a' := ?_) #[true, true, true, true, true, true, true, true] rfl rfl (any_of HT_.out (by kernel_rfl)) (fun _ _ _ h => h) (Or.inl ⟨by rfl, ?_⟩) ?_ ?_
 rotate_left
 ·intro w'; go_simp
  with_reducible rfl
 rotate_left
 ·simp only [Act.put, List.setIfInBounds_toArray, List.set_cons_zero, List.set_cons_succ, i64_w, i32_w]
  rfl
 refine done_ (done_of HT_.out (by kernel_rfl)) ?_
 try go_wp2
 refine bodyPost_ret (results_ctt rfl _ _ gb1000 30 #[.int .i64 t1005, .int .i64 t1006, .slice Ao13 t1007.length co13] (0, 0) _ rfl (by (with_reducible repeat (first | refine blk_drewN ?_ _ | refine blk_drew ?_ | refine blk_alloc ?_ _)); refine blk_put (cs := #[.int .i64 t1005, .int .i64 t1006, .slice none 0 0]) ?_ 2 _ rfl; (with_reducible repeat (first | refine blk_drewN ?_ _ | refine blk_drew ?_ | refine blk_alloc ?_ _)); refine blk_put (cs := #[.int .i64 t1005, .int .i64 0, .slice none 0 0]) ?_ 1 _ rfl; (with_reducible repeat (first | refine blk_drewN ?_ _ | refine blk_drew ?_ | refine blk_alloc ?_ _)); refine blk_put (cs := #[.int .i64 0, .int .i64 0, .slice none 0 0]) ?_ 0 _ rfl; (with_reducible repeat (first | refine blk_drewN ?_ _ | refine blk_drew ?_ | refine blk_alloc ?_ _)); exact BK1000.out) Try.underlying30 rfl (by kernel_rfl)) rfl ?_
 exact ⟨_, er_, by (with_reducible repeat (first | apply Kd.R_alloc | apply Kd.R_drewN | apply Kd.R_drew)); exact Kd.R_mono (Kd.R_far (p := ⟨gb1000, 2, none⟩) (Kd.R_far (p := ⟨gb1000, 1, none⟩) (Kd.R_far (p := ⟨gb1000, 0, none⟩) (Kd.R_types HO1009.out BK1000.out (by decide)) (fun _ hk => hk.2) (.int .i64 t1005)) (fun _ hk => hk.2) (.int .i64 t1006)) (fun _ hk => hk.2) (.slice Ao13 t1007.length co13)) (fun _ hk => trivial), hb3_ HB.out (IsS94.ge HI1004.out) GE1000.out GE1012.out⟩
end Go.Proofs.Ytllpmpfchidhoaa.P
