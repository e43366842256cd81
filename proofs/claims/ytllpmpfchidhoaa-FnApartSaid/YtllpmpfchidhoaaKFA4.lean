/- Texts of the seat's proofs, part 4: functions of the program told as plain functions, with their contracts, and what is shown of them. No condition. -/
import Derived.Test.YtllpmpfchidhoaaUKFA
import Derived.Test.YtllpmpfchidhoaaKFA1
import Derived.Test.YtllpmpfchidhoaaKFA2
import Derived.Test.YtllpmpfchidhoaaKFA3
set_option linter.unusedVariables false
set_option linter.unusedSimpArgs false
namespace Go.Proofs.Ytllpmpfchidhoaa.P
open Go.RowKit Go.Proofs.YtllpmpfchidhoaaW.PrintWords Go.Proofs.YtllpmpfchidhoaaW.PrintLast Go.Proofs.YtllpmpfchidhoaaW.PrintMore
attribute [local go_sem] max2_int min2_int max_two min_two max_three min_three max_four min_four
set_option linter.unusedVariables false
set_option linter.unusedSimpArgs false
def spec_DrawOccurrence.f (k : Nat) (l0 : List Int) : Option (Int × Int × (List (S42)) × Int × Int) := (spec_l1New.f k l0).bind fun bt919 => ((spec_l13DrawAny.f k bt919.1 bt919.2.1 bt919.2.2).bind fun bt923 => ((spec_l1Below.f bt919.1 bt923.2.2.2.1 bt923.2.2.2.2 (wrap64 ((bt923.2.2.1.length : Int) + 1))).bind fun bt931 => ((spec_l1Below.f bt919.1 bt931.2.1 bt931.2.2 20).bind fun bt934 => ((spec_l1Below.f bt919.1 bt934.2.1 bt934.2.2 9).bind fun bt937 => ((spec_l1Once.f bt919.1 bt937.2.1 bt937.2.2 8).bind fun bt940 => (if bt940.1 = true then ((spec_RoundOf.f k bt923.1 bt923.2.1 bt923.2.2.1).bind fun t943 => ((spec_l1Max.f t943 1).bind fun t944 => (if t944 = 0 then (none) else ((spec_RoundOf.f k bt923.1 bt923.2.1 bt923.2.2.1).bind fun t945 => ((spec_l1Max.f t945 1).bind fun t946 => (if t946 = 0 then (none) else ((spec_l1PickInt.f bt919.1 bt940.2.1 bt940.2.2 (([(-1), 1000000000000, 1000000000001, 9223372036854775807, wrap64 (Int.tdiv (1000000000000 : Int) t944), wrap64 ((wrap64 (Int.tdiv (1000000000000 : Int) t946)) - 1)] : List Int))).bind fun bt950 => (some (bt923.1, bt923.2.1, bt923.2.2.1, wrap64 (bt931.1 - (wrap64 (Int.tdiv bt934.1 19))), bt950.1))))))))) else (some (bt923.1, bt923.2.1, bt923.2.2.1, wrap64 (bt931.1 - (wrap64 (Int.tdiv bt934.1 19))), bt937.1))))))))
def spec_DrawOccurrence.T6 : Bool × List (List Nat × List Nat) := (true, [([], []), ([], []), ([1], [1]), ([2, 2], [2]), ([3], [3]), ([], []), ([5, 3], [5]), ([6, 6], [6]), ([7], [7]), ([8], [8]), ([4, 9], [4, 9]), ([0, 10, 7], [0, 10]), ([11, 11, 0, 1, 2, 3, 4, 5, 6, 7, 8, 9, 10, 11], [11])])
def spec_DrawOccurrence.B6 : List Nat := [0, 0, 2, 6, 14, 0, 46, 110, 238, 494, 1022, 2047, 4095]
theorem spec_DrawOccurrence.tab6 : rtab .any (opsOf Try.f27 6) = spec_DrawOccurrence.T6 := by kernel_rfl
theorem spec_DrawOccurrence.bits6 : waitsOk spec_DrawOccurrence.T6.2 spec_DrawOccurrence.B6 = true := by kernel_rfl
set_option maxHeartbeats 8000000 in
set_option maxRecDepth 100000 in
theorem spec_DrawOccurrence.calls (k : Nat) (A0 : Option Addr) (c0 : Nat) (l0 : List Int) (r1 : Int) (r2 : Int) (r3 : List (S42)) (r4 : Int) (r5 : Int) (w : World) (hr0 : Kd.C (Kd.int .u8) w A0 l0.length l0) (hc0 : l0.length ≤ c0) (h : spec_DrawOccurrence.f k l0 = some (r1, r2, r3, r4, r5)) :
  Calls Try.prog 27 #[.slice A0 l0.length c0] w fun e w' => ∃ v2_ : Value, e = .returned (.tuple #[.agg #[.int .i64 r1, .int .i64 r2, v2_], .int .i64 r4, .int .i64 r5]) ∧ Kd.R k42 42 w' w.heap.size (fun _ => True) v2_ r3 ∧ Below w.heap.size w w' := by
 have hu30 := Try.underlying30
 have HR0 := Aside0.mk hr0
 have HC0 := Aside0.mk hc0
 clear hr0 hc0
 have HB := am_ (Below.refl w.heap.size w)
 have H : ((spec_l1New.f k l0).bind fun bt919 => ((spec_l13DrawAny.f k bt919.1 bt919.2.1 bt919.2.2).bind fun bt923 => ((spec_l1Below.f bt919.1 bt923.2.2.2.1 bt923.2.2.2.2 (wrap64 ((bt923.2.2.1.length : Int) + 1))).bind fun bt931 => ((spec_l1Below.f bt919.1 bt931.2.1 bt931.2.2 20).bind fun bt934 => ((spec_l1Below.f bt919.1 bt934.2.1 bt934.2.2 9).bind fun bt937 => ((spec_l1Once.f bt919.1 bt937.2.1 bt937.2.2 8).bind fun bt940 => (if bt940.1 = true then ((spec_RoundOf.f k bt923.1 bt923.2.1 bt923.2.2.1).bind fun t943 => ((spec_l1Max.f t943 1).bind fun t944 => (if t944 = 0 then (none) else ((spec_RoundOf.f k bt923.1 bt923.2.1 bt923.2.2.1).bind fun t945 => ((spec_l1Max.f t945 1).bind fun t946 => (if t946 = 0 then (none) else ((spec_l1PickInt.f bt919.1 bt940.2.1 bt940.2.2 (([(-1), 1000000000000, 1000000000001, 9223372036854775807, wrap64 (Int.tdiv (1000000000000 : Int) t944), wrap64 ((wrap64 (Int.tdiv (1000000000000 : Int) t946)) - 1)] : List Int))).bind fun bt950 => (some (bt923.1, bt923.2.1, bt923.2.2.1, wrap64 (bt931.1 - (wrap64 (Int.tdiv bt934.1 19))), bt950.1))))))))) else (some (bt923.1, bt923.2.1, bt923.2.2.1, wrap64 (bt931.1 - (wrap64 (Int.tdiv bt934.1 19))), bt937.1))))))))) = some (r1, r2, r3, r4, r5) := h
 clear h
 replace H := Option.bind_eq_some_iff.mp H
 obtain ⟨⟨t919, t920, t921⟩, A20, H⟩ := H
 replace H : ((spec_l13DrawAny.f k t919 t920 t921).bind fun bt923 => ((spec_l1Below.f t919 bt923.2.2.2.1 bt923.2.2.2.2 (wrap64 ((bt923.2.2.1.length : Int) + 1))).bind fun bt931 => ((spec_l1Below.f t919 bt931.2.1 bt931.2.2 20).bind fun bt934 => ((spec_l1Below.f t919 bt934.2.1 bt934.2.2 9).bind fun bt937 => ((spec_l1Once.f t919 bt937.2.1 bt937.2.2 8).bind fun bt940 => (if bt940.1 = true then ((spec_RoundOf.f k bt923.1 bt923.2.1 bt923.2.2.1).bind fun t943 => ((spec_l1Max.f t943 1).bind fun t944 => (if t944 = 0 then (none) else ((spec_RoundOf.f k bt923.1 bt923.2.1 bt923.2.2.1).bind fun t945 => ((spec_l1Max.f t945 1).bind fun t946 => (if t946 = 0 then (none) else ((spec_l1PickInt.f t919 bt940.2.1 bt940.2.2 (([(-1), 1000000000000, 1000000000001, 9223372036854775807, wrap64 (Int.tdiv (1000000000000 : Int) t944), wrap64 ((wrap64 (Int.tdiv (1000000000000 : Int) t946)) - 1)] : List Int))).bind fun bt950 => (some (bt923.1, bt923.2.1, bt923.2.2.1, wrap64 (bt931.1 - (wrap64 (Int.tdiv bt934.1 19))), bt950.1))))))))) else (some (bt923.1, bt923.2.1, bt923.2.2.1, wrap64 (bt931.1 - (wrap64 (Int.tdiv bt934.1 19))), bt937.1)))))))) = some (r1, r2, r3, r4, r5) := H
 have A2 := Aside0.mk A20
 clear A20
 replace H := Option.bind_eq_some_iff.mp H
 obtain ⟨⟨t923, t924, t925, t928, t929⟩, A30, H⟩ := H
 replace H : ((spec_l1Below.f t919 t928 t929 (wrap64 ((t925.length : Int) + 1))).bind fun bt931 => ((spec_l1Below.f t919 bt931.2.1 bt931.2.2 20).bind fun bt934 => ((spec_l1Below.f t919 bt934.2.1 bt934.2.2 9).bind fun bt937 => ((spec_l1Once.f t919 bt937.2.1 bt937.2.2 8).bind fun bt940 => (if bt940.1 = true then ((spec_RoundOf.f k t923 t924 t925).bind fun t943 => ((spec_l1Max.f t943 1).bind fun t944 => (if t944 = 0 then (none) else ((spec_RoundOf.f k t923 t924 t925).bind fun t945 => ((spec_l1Max.f t945 1).bind fun t946 => (if t946 = 0 then (none) else ((spec_l1PickInt.f t919 bt940.2.1 bt940.2.2 (([(-1), 1000000000000, 1000000000001, 9223372036854775807, wrap64 (Int.tdiv (1000000000000 : Int) t944), wrap64 ((wrap64 (Int.tdiv (1000000000000 : Int) t946)) - 1)] : List Int))).bind fun bt950 => (some (t923, t924, t925, wrap64 (bt931.1 - (wrap64 (Int.tdiv bt934.1 19))), bt950.1))))))))) else (some (t923, t924, t925, wrap64 (bt931.1 - (wrap64 (Int.tdiv bt934.1 19))), bt937.1))))))) = some (r1, r2, r3, r4, r5) := H
 have A3 := Aside0.mk A30
 clear A30
 replace H := Option.bind_eq_some_iff.mp H
 obtain ⟨⟨t931, t932, t933⟩, A40, H⟩ := H
 replace H : ((spec_l1Below.f t919 t932 t933 20).bind fun bt934 => ((spec_l1Below.f t919 bt934.2.1 bt934.2.2 9).bind fun bt937 => ((spec_l1Once.f t919 bt937.2.1 bt937.2.2 8).bind fun bt940 => (if bt940.1 = true then ((spec_RoundOf.f k t923 t924 t925).bind fun t943 => ((spec_l1Max.f t943 1).bind fun t944 => (if t944 = 0 then (none) else ((spec_RoundOf.f k t923 t924 t925).bind fun t945 => ((spec_l1Max.f t945 1).bind fun t946 => (if t946 = 0 then (none) else ((spec_l1PickInt.f t919 bt940.2.1 bt940.2.2 (([(-1), 1000000000000, 1000000000001, 9223372036854775807, wrap64 (Int.tdiv (1000000000000 : Int) t944), wrap64 ((wrap64 (Int.tdiv (1000000000000 : Int) t946)) - 1)] : List Int))).bind fun bt950 => (some (t923, t924, t925, wrap64 (t931 - (wrap64 (Int.tdiv bt934.1 19))), bt950.1))))))))) else (some (t923, t924, t925, wrap64 (t931 - (wrap64 (Int.tdiv bt934.1 19))), bt937.1)))))) = some (r1, r2, r3, r4, r5) := H
 have A4 := Aside0.mk A40
 clear A40
 replace H := Option.bind_eq_some_iff.mp H
 obtain ⟨⟨t934, t935, t936⟩, A50, H⟩ := H
 replace H : ((spec_l1Below.f t919 t935 t936 9).bind fun bt937 => ((spec_l1Once.f t919 bt937.2.1 bt937.2.2 8).bind fun bt940 => (if bt940.1 = true then ((spec_RoundOf.f k t923 t924 t925).bind fun t943 => ((spec_l1Max.f t943 1).bind fun t944 => (if t944 = 0 then (none) else ((spec_RoundOf.f k t923 t924 t925).bind fun t945 => ((spec_l1Max.f t945 1).bind fun t946 => (if t946 = 0 then (none) else ((spec_l1PickInt.f t919 bt940.2.1 bt940.2.2 (([(-1), 1000000000000, 1000000000001, 9223372036854775807, wrap64 (Int.tdiv (1000000000000 : Int) t944), wrap64 ((wrap64 (Int.tdiv (1000000000000 : Int) t946)) - 1)] : List Int))).bind fun bt950 => (some (t923, t924, t925, wrap64 (t931 - (wrap64 (Int.tdiv t934 19))), bt950.1))))))))) else (some (t923, t924, t925, wrap64 (t931 - (wrap64 (Int.tdiv t934 19))), bt937.1))))) = some (r1, r2, r3, r4, r5) := H
 have A5 := Aside0.mk A50
 clear A50
 replace H := Option.bind_eq_some_iff.mp H
 obtain ⟨⟨t937, t938, t939⟩, A60, H⟩ := H
 replace H : ((spec_l1Once.f t919 t938 t939 8).bind fun bt940 => (if bt940.1 = true then ((spec_RoundOf.f k t923 t924 t925).bind fun t943 => ((spec_l1Max.f t943 1).bind fun t944 => (if t944 = 0 then (none) else ((spec_RoundOf.f k t923 t924 t925).bind fun t945 => ((spec_l1Max.f t945 1).bind fun t946 => (if t946 = 0 then (none) else ((spec_l1PickInt.f t919 bt940.2.1 bt940.2.2 (([(-1), 1000000000000, 1000000000001, 9223372036854775807, wrap64 (Int.tdiv (1000000000000 : Int) t944), wrap64 ((wrap64 (Int.tdiv (1000000000000 : Int) t946)) - 1)] : List Int))).bind fun bt950 => (some (t923, t924, t925, wrap64 (t931 - (wrap64 (Int.tdiv t934 19))), bt950.1))))))))) else (some (t923, t924, t925, wrap64 (t931 - (wrap64 (Int.tdiv t934 19))), t937)))) = some (r1, r2, r3, r4, r5) := H
 have A6 := Aside0.mk A60
 clear A60
 replace H := Option.bind_eq_some_iff.mp H
 obtain ⟨⟨t940, t941, t942⟩, A70, H⟩ := H
 replace H : (if t940 = true then ((spec_RoundOf.f k t923 t924 t925).bind fun t943 => ((spec_l1Max.f t943 1).bind fun t944 => (if t944 = 0 then (none) else ((spec_RoundOf.f k t923 t924 t925).bind fun t945 => ((spec_l1Max.f t945 1).bind fun t946 => (if t946 = 0 then (none) else ((spec_l1PickInt.f t919 t941 t942 (([(-1), 1000000000000, 1000000000001, 9223372036854775807, wrap64 (Int.tdiv (1000000000000 : Int) t944), wrap64 ((wrap64 (Int.tdiv (1000000000000 : Int) t946)) - 1)] : List Int))).bind fun bt950 => (some (t923, t924, t925, wrap64 (t931 - (wrap64 (Int.tdiv t934 19))), bt950.1))))))))) else (some (t923, t924, t925, wrap64 (t931 - (wrap64 (Int.tdiv t934 19))), t937))) = some (r1, r2, r3, r4, r5) := H
 have A7 := Aside0.mk A70
 clear A70
 by_cases c8 : t940 = true
 ·subst c8
  have H1 : ((spec_RoundOf.f k t923 t924 t925).bind fun t943 => ((spec_l1Max.f t943 1).bind fun t944 => (if t944 = 0 then (none) else ((spec_RoundOf.f k t923 t924 t925).bind fun t945 => ((spec_l1Max.f t945 1).bind fun t946 => (if t946 = 0 then (none) else ((spec_l1PickInt.f t919 t941 t942 (([(-1), 1000000000000, 1000000000001, 9223372036854775807, wrap64 (Int.tdiv (1000000000000 : Int) t944), wrap64 ((wrap64 (Int.tdiv (1000000000000 : Int) t946)) - 1)] : List Int))).bind fun bt950 => (some (t923, t924, t925, wrap64 (t931 - (wrap64 (Int.tdiv t934 19))), bt950.1))))))))) = some (r1, r2, r3, r4, r5) := by rw [if_pos rfl] at H; exact H
  clear H
  have H := H1
  clear H1
  replace H := Option.bind_eq_some_iff.mp H
  obtain ⟨t943, A90, H⟩ := H
  replace H : ((spec_l1Max.f t943 1).bind fun t944 => (if t944 = 0 then (none) else ((spec_RoundOf.f k t923 t924 t925).bind fun t945 => ((spec_l1Max.f t945 1).bind fun t946 => (if t946 = 0 then (none) else ((spec_l1PickInt.f t919 t941 t942 (([(-1), 1000000000000, 1000000000001, 9223372036854775807, wrap64 (Int.tdiv (1000000000000 : Int) t944), wrap64 ((wrap64 (Int.tdiv (1000000000000 : Int) t946)) - 1)] : List Int))).bind fun bt950 => (some (t923, t924, t925, wrap64 (t931 - (wrap64 (Int.tdiv t934 19))), bt950.1)))))))) = some (r1, r2, r3, r4, r5) := H
  have A9 := Aside0.mk A90
  clear A90
  replace H := Option.bind_eq_some_iff.mp H
  obtain ⟨t944, A100, H⟩ := H
  replace H : (if t944 = 0 then (none) else ((spec_RoundOf.f k t923 t924 t925).bind fun t945 => ((spec_l1Max.f t945 1).bind fun t946 => (if t946 = 0 then (none) else ((spec_l1PickInt.f t919 t941 t942 (([(-1), 1000000000000, 1000000000001, 9223372036854775807, wrap64 (Int.tdiv (1000000000000 : Int) t944), wrap64 ((wrap64 (Int.tdiv (1000000000000 : Int) t946)) - 1)] : List Int))).bind fun bt950 => (some (t923, t924, t925, wrap64 (t931 - (wrap64 (Int.tdiv t934 19))), bt950.1))))))) = some (r1, r2, r3, r4, r5) := H
  have A10 := Aside0.mk A100
  clear A100
  by_cases c11 : t944 = 0
  ·rw [if_pos c11] at H
   exact absurd H (by simp)
  ·rw [if_neg c11] at H
   have c11b0 : (t944 == 0) = false := beq_eq_false_iff_ne.mpr c11
   have c11b1 : (t944 != 0) = true := bne_iff_ne.mpr c11
   replace H := Option.bind_eq_some_iff.mp H
   obtain ⟨t945, A120, H⟩ := H
   replace H : ((spec_l1Max.f t945 1).bind fun t946 => (if t946 = 0 then (none) else ((spec_l1PickInt.f t919 t941 t942 (([(-1), 1000000000000, 1000000000001, 9223372036854775807, wrap64 (Int.tdiv (1000000000000 : Int) t944), wrap64 ((wrap64 (Int.tdiv (1000000000000 : Int) t946)) - 1)] : List Int))).bind fun bt950 => (some (t923, t924, t925, wrap64 (t931 - (wrap64 (Int.tdiv t934 19))), bt950.1))))) = some (r1, r2, r3, r4, r5) := H
   have A12 := Aside0.mk A120
   clear A120
   replace H := Option.bind_eq_some_iff.mp H
   obtain ⟨t946, A130, H⟩ := H
   replace H : (if t946 = 0 then (none) else ((spec_l1PickInt.f t919 t941 t942 (([(-1), 1000000000000, 1000000000001, 9223372036854775807, wrap64 (Int.tdiv (1000000000000 : Int) t944), wrap64 ((wrap64 (Int.tdiv (1000000000000 : Int) t946)) - 1)] : List Int))).bind fun bt950 => (some (t923, t924, t925, wrap64 (t931 - (wrap64 (Int.tdiv t934 19))), bt950.1)))) = some (r1, r2, r3, r4, r5) := H
   have A13 := Aside0.mk A130
   clear A130
   by_cases c14 : t946 = 0
   ·rw [if_pos c14] at H
    exact absurd H (by simp)
   ·rw [if_neg c14] at H
    have c14b0 : (t946 == 0) = false := beq_eq_false_iff_ne.mpr c14
    have c14b1 : (t946 != 0) = true := bne_iff_ne.mpr c14
    obtain ⟨y947, hy947⟩ : ∃ y_ : List Int, y_ = (([(-1), 1000000000000, 1000000000001, 9223372036854775807, wrap64 (Int.tdiv (1000000000000 : Int) t944), wrap64 ((wrap64 (Int.tdiv (1000000000000 : Int) t946)) - 1)] : List Int)) := ⟨_, rfl⟩
    replace H : ((spec_l1PickInt.f t919 t941 t942 y947).bind fun bt950 => (some (t923, t924, t925, wrap64 (t931 - (wrap64 (Int.tdiv t934 19))), bt950.1))) = some (r1, r2, r3, r4, r5) := by first | (rw [hy947]; with_reducible exact H) | (have H2_ := (Option.bind_some _ _).symm.trans H; rw [hy947]; with_reducible exact H2_) | (have H2_ := (Option.bind_some _ _).symm.trans H; with_reducible exact H2_) | with_reducible exact H | (rw [hy947]; exact H) | exact H
    have Ny947 := Aside0.mk hy947
    clear hy947
    replace H := Option.bind_eq_some_iff.mp H
    obtain ⟨⟨t950, t951, t952⟩, A150, H⟩ := H
    replace H : (some (t923, t924, t925, wrap64 (t931 - (wrap64 (Int.tdiv t934 19))), t950)) = some (r1, r2, r3, r4, r5) := H
    have A15 := Aside0.mk A150
    clear A150
    simp only [Option.some.injEq, Prod.mk.injEq] at H
    obtain ⟨rfl, rfl, rfl, rfl, rfl⟩ := H
    go_enter Try.func27, Try.ntmps27
    try go_wp2_with (first | ((with_reducible refine gate_dst (N := 2) rfl ?_); refine be_ (N := 2) (cs := #[.int .i64 0, .int .i64 0, .slice none 0 0]) (t := 30) ?_; intro gb918 hg w16 hbox hb; have BK918 := am_ (hbox); have GW918 := am_ (hy_ hg (hb_ HB.out) : w.heap.size ≤ gb918); have GE918 := GW918; replace HB := am_ (below_step (hb_ HB.out) hb); clear hb hbox hg) | ((with_reducible refine gate_callee (f := 36) rfl ?_); refine gl_ Try.func36 #[.slice A0 l0.length c0] ?_; (with_reducible refine (spec_l1New.calls k _ _ l0 t919 t920 t921 w _ ?side1 ?side2 ?side3 A2.out).mono ?_); (case side1 => exact hb1_ HB.out GE918.out); (case side2 => exact HR0.out); (case side3 => exact HC0.out); rintro e w17 ⟨g922, rfl, hi, hb, hb2⟩; refine ⟨_, rfl, ?_⟩; have HI922 := am_ (hi); have NB922_918 := am_ (IsS94.ne_blk hi (blk_below (g := gb918) (o := .cells #[.int .i64 0, .int .i64 0, .slice none 0 0] 30 (0, 0)) (bk_ BK918.out) hb2) (by decide)); have NB918_922 := am_ (Ne.symm (IsS94.ne_blk hi (blk_below (g := gb918) (o := .cells #[.int .i64 0, .int .i64 0, .slice none 0 0] 30 (0, 0)) (bk_ BK918.out) hb2) (by decide))); replace BK918 := am_ (blk_below (g := gb918) (o := .cells #[.int .i64 0, .int .i64 0, .slice none 0 0] 30 (0, 0)) (bk_ BK918.out) hb2); replace HB := am_ (hb); (try clear hb); (try clear hb2); (try clear hk); (try clear hi)) | ((with_reducible refine gate_callee (f := 37) rfl ?_); refine gl_ Try.func37 #[.pointer (some ⟨g922, 0, none⟩)] ?_; (with_reducible refine (spec_l13DrawAny.calls k g922 t919 t920 t921 t923 t924 t925 t928 t929 w _ ?side1 ?side2 A3.out).mono ?_); (case side1 => repeat (first | (with_reducible first | exact HI922.out | apply IsS94.alloc | apply IsS94.drewN | apply IsS94.drew | apply IsS94.set_1 | apply IsS94.set_2 | refine IsS94.far ?_ NB922_918.out _) | exact HI922.out)); (case side2 => exact hb2_ HB.out (IsS94.ge HI922.out) GE918.out); rintro e w18 ⟨v926, rfl, ho0, hi, hb, hk⟩; refine ⟨_, rfl, ?_⟩; have HO927 := am_ (Kd.R_lower ho0 (below_size (hb2_ HB.out (IsS94.ge HI922.out) GE918.out))); replace BK918 := am_ (KeepBut.blk hk (g' := gb918) (o := .cells #[.int .i64 0, .int .i64 0, .slice none 0 0] 30 (0, 0)) (bk_ BK918.out) NB918_922.out (by simp)); replace HI922 := am_ (hi); replace HB := am_ (hb); (try clear hb); (try clear hb2); (try clear hk); (try clear hi); (try clear ho0)) | ((with_reducible refine gate_dst (N := 6) rfl ?_); refine be_ (N := 6) (cs := #[.int .i64 0, .int .i64 0, .slice none 0 0]) (t := 30) ?_; intro gb930 hg w19 hbox hb; have n0_ := am_ (Kd.R_below (by (with_reducible repeat (first | apply Kd.R_alloc | apply Kd.R_drewN | apply Kd.R_drew)); exact HO927.out) hb); have n1_ := am_ (bb_ BK918.out hb); have n2_ := am_ (IsS94.below (by repeat (first | (with_reducible first | exact HI922.out | apply IsS94.alloc | apply IsS94.drewN | apply IsS94.drew | apply IsS94.set_1 | apply IsS94.set_2 | refine IsS94.far ?_ NB922_918.out _) | exact HI922.out)) hb); have n3_ := am_ (below_step (hb2_ HB.out (IsS94.ge HI922.out) GE918.out) hb); have n4_ := am_ (hbox); have n5_ := am_ ((by rw [hg]; exact (below_size (hb2_ HB.out (IsS94.ge HI922.out) GE918.out)) : w.heap.size ≤ gb930)); have n6_ := am_ ((by rw [hg]; exact (below_size (hb2_ HB.out (IsS94.ge HI922.out) GE918.out)) : w.heap.size ≤ gb930)); have n7_ := am_ ((bl_ hg BK918.out : gb918 ≠ gb930)); have n8_ := am_ ((bg_ hg BK918.out : gb930 ≠ gb918)); have n9_ := am_ ((by rw [hg]; exact Nat.ne_of_lt (IsS94.lt (show IsS94 w _ g922 t919 t928 t929 from by repeat (first | (with_reducible first | exact HI922.out | apply IsS94.alloc | apply IsS94.drewN | apply IsS94.drew | apply IsS94.set_1 | apply IsS94.set_2 | refine IsS94.far ?_ NB922_918.out _) | exact HI922.out))) : g922 ≠ gb930)); have n10_ := am_ ((by rw [hg]; exact Nat.ne_of_gt (IsS94.lt (show IsS94 w _ g922 t919 t928 t929 from by repeat (first | (with_reducible first | exact HI922.out | apply IsS94.alloc | apply IsS94.drewN | apply IsS94.drew | apply IsS94.set_1 | apply IsS94.set_2 | refine IsS94.far ?_ NB922_918.out _) | exact HI922.out))) : gb930 ≠ g922)); clear HO927; clear BK918; clear HI922; clear HB; have HO927 := n0_; have BK918 := n1_; have HI922 := n2_; have HB := n3_; have BK930 := n4_; have GW930 := n5_; have GE930 := n6_; have NB918_930 := n7_; have NB930_918 := n8_; have NB922_930 := n9_; have NB930_922 := n10_; clear n0_ n1_ n2_ n3_ n4_ n5_ n6_ n7_ n8_ n9_ n10_; clear hb hbox hg; have hnb20 := NB930_918.out; have hnc20 := NB918_930.out; have hnb21 := NB930_922.out; have hnc21 := NB922_930.out; obtain ⟨hcz22_0, hcz22_1, hcz22_2, hfz22_0, hfz22_1, hfz22_2⟩ := bc3_ BK930.out; obtain ⟨Ao23, co23, eo23⟩ := Kd.R_slice HO927.out; subst eo23) | ((with_reducible refine gate_callee (f := 41) rfl ?_); refine gl_ Try.func41 #[.pointer (some ⟨g922, 0, none⟩), .int .i64 (wrap64 ((t925.length : Int) + 1))] ?_; (with_reducible refine (spec_l1Below.calls g922 t919 t928 t929 (wrap64 ((t925.length : Int) + 1)) t931 t932 t933 w _ ?side1 ?side2 A4.out).mono ?_); (case side1 => repeat (first | (with_reducible first | exact HI922.out | apply IsS94.alloc | apply IsS94.drewN | apply IsS94.drew | apply IsS94.set_1 | apply IsS94.set_2 | refine IsS94.far ?_ NB922_918.out _ | refine IsS94.far ?_ NB922_930.out _) | exact HI922.out)); (case side2 => exact hb3_ HB.out (IsS94.ge HI922.out) GE918.out GE930.out); rintro e w24 ⟨rfl, hi, hb, hk⟩; refine ⟨_, rfl, ?_⟩; replace BK918 := am_ (KeepBut.blk hk (g' := gb918) (o := .cells #[.int .i64 0, .int .i64 0, .slice none 0 0] 30 (0, 0)) (by (with_reducible repeat (first | refine blk_drewN ?_ _ | refine blk_drew ?_ | refine blk_alloc ?_ _)); refine blk_far ?_ NB918_930.out _; (with_reducible repeat (first | refine blk_drewN ?_ _ | refine blk_drew ?_ | refine blk_alloc ?_ _)); refine blk_far ?_ NB918_930.out _; (with_reducible repeat (first | refine blk_drewN ?_ _ | refine blk_drew ?_ | refine blk_alloc ?_ _)); refine blk_far ?_ NB918_930.out _; (with_reducible repeat (first | refine blk_drewN ?_ _ | refine blk_drew ?_ | refine blk_alloc ?_ _)); exact BK918.out) NB918_922.out (by simp)); replace HO927 := am_ (Kd.R_mono (Kd.R_keep (IsS94.apart (show IsS94 w _ g922 t919 t928 t929 from by repeat (first | (with_reducible first | exact HI922.out | apply IsS94.alloc | apply IsS94.drewN | apply IsS94.drew | apply IsS94.set_1 | apply IsS94.set_2 | refine IsS94.far ?_ NB922_918.out _ | refine IsS94.far ?_ NB922_930.out _) | exact HI922.out)) (by (with_reducible repeat (first | apply Kd.R_alloc | apply Kd.R_drewN | apply Kd.R_drew)); exact (Kd.R_mono (Kd.R_far (p := ⟨gb930, 2, none⟩) (Kd.R_far (p := ⟨gb930, 1, none⟩) (Kd.R_far (p := ⟨gb930, 0, none⟩) (Kd.R_types HO927.out BK930.out (by decide)) (fun _ hk => hk.2) (.int .i64 t923)) (fun _ hk => hk.2) (.int .i64 t924)) (fun _ hk => hk.2) (.slice Ao23 t925.length co23)) (fun _ h_ => h_.1))) (by decide)) hk (fun _ h => h.2)) (fun _ h => h.1)); replace BK930 := am_ (KeepBut.blk hk (g' := gb930) (o := .cells #[.int .i64 t923, .int .i64 t924, .slice Ao23 t925.length co23] 30 (0, 0)) (by (with_reducible repeat (first | refine blk_drewN ?_ _ | refine blk_drew ?_ | refine blk_alloc ?_ _)); refine blk_put (cs := #[.int .i64 t923, .int .i64 t924, .slice none 0 0]) ?_ 2 _ rfl; (with_reducible repeat (first | refine blk_drewN ?_ _ | refine blk_drew ?_ | refine blk_alloc ?_ _)); refine blk_put (cs := #[.int .i64 t923, .int .i64 0, .slice none 0 0]) ?_ 1 _ rfl; (with_reducible repeat (first | refine blk_drewN ?_ _ | refine blk_drew ?_ | refine blk_alloc ?_ _)); refine blk_put (cs := #[.int .i64 0, .int .i64 0, .slice none 0 0]) ?_ 0 _ rfl; (with_reducible repeat (first | refine blk_drewN ?_ _ | refine blk_drew ?_ | refine blk_alloc ?_ _)); exact BK930.out) NB930_922.out (by simp)); replace HI922 := am_ (hi); replace HB := am_ (hb); (try clear hb); (try clear hb2); (try clear hk); (try clear hi)) | ((with_reducible refine gate_callee (f := 41) rfl ?_); refine gl_ Try.func41 #[.pointer (some ⟨g922, 0, none⟩), .int .i64 20] ?_; (with_reducible refine (spec_l1Below.calls g922 t919 t932 t933 20 t934 t935 t936 w _ ?side1 ?side2 A5.out).mono ?_); (case side1 => repeat (first | (with_reducible first | exact HI922.out | apply IsS94.alloc | apply IsS94.drewN | apply IsS94.drew | apply IsS94.set_1 | apply IsS94.set_2 | refine IsS94.far ?_ NB922_918.out _ | refine IsS94.far ?_ NB922_930.out _) | exact HI922.out)); (case side2 => exact hb3_ HB.out (IsS94.ge HI922.out) GE918.out GE930.out); rintro e w25 ⟨rfl, hi, hb, hk⟩; refine ⟨_, rfl, ?_⟩; replace BK918 := am_ (KeepBut.blk hk (g' := gb918) (o := .cells #[.int .i64 0, .int .i64 0, .slice none 0 0] 30 (0, 0)) (bk_ BK918.out) NB918_922.out (by simp)); replace HO927 := am_ (Kd.R_mono (Kd.R_keep (IsS94.apart (show IsS94 w _ g922 t919 t932 t933 from by repeat (first | (with_reducible first | exact HI922.out | apply IsS94.alloc | apply IsS94.drewN | apply IsS94.drew | apply IsS94.set_1 | apply IsS94.set_2 | refine IsS94.far ?_ NB922_918.out _ | refine IsS94.far ?_ NB922_930.out _) | exact HI922.out)) (by (with_reducible repeat (first | apply Kd.R_alloc | apply Kd.R_drewN | apply Kd.R_drew)); exact HO927.out) (by decide)) hk (fun _ h => h.2)) (fun _ h => h.1)); replace BK930 := am_ (KeepBut.blk hk (g' := gb930) (o := .cells #[.int .i64 t923, .int .i64 t924, .slice Ao23 t925.length co23] 30 (0, 0)) (bk_ BK930.out) NB930_922.out (by simp)); replace HI922 := am_ (hi); replace HB := am_ (hb); (try clear hb); (try clear hb2); (try clear hk); (try clear hi)) | ((with_reducible refine gate_callee (f := 41) rfl ?_); refine gl_ Try.func41 #[.pointer (some ⟨g922, 0, none⟩), .int .i64 9] ?_; (with_reducible refine (spec_l1Below.calls g922 t919 t935 t936 9 t937 t938 t939 w _ ?side1 ?side2 A6.out).mono ?_); (case side1 => repeat (first | (with_reducible first | exact HI922.out | apply IsS94.alloc | apply IsS94.drewN | apply IsS94.drew | apply IsS94.set_1 | apply IsS94.set_2 | refine IsS94.far ?_ NB922_918.out _ | refine IsS94.far ?_ NB922_930.out _) | exact HI922.out)); (case side2 => exact hb3_ HB.out (IsS94.ge HI922.out) GE918.out GE930.out); rintro e w26 ⟨rfl, hi, hb, hk⟩; refine ⟨_, rfl, ?_⟩; replace BK918 := am_ (KeepBut.blk hk (g' := gb918) (o := .cells #[.int .i64 0, .int .i64 0, .slice none 0 0] 30 (0, 0)) (bk_ BK918.out) NB918_922.out (by simp)); replace HO927 := am_ (Kd.R_mono (Kd.R_keep (IsS94.apart (show IsS94 w _ g922 t919 t935 t936 from by repeat (first | (with_reducible first | exact HI922.out | apply IsS94.alloc | apply IsS94.drewN | apply IsS94.drew | apply IsS94.set_1 | apply IsS94.set_2 | refine IsS94.far ?_ NB922_918.out _ | refine IsS94.far ?_ NB922_930.out _) | exact HI922.out)) (by (with_reducible repeat (first | apply Kd.R_alloc | apply Kd.R_drewN | apply Kd.R_drew)); exact HO927.out) (by decide)) hk (fun _ h => h.2)) (fun _ h => h.1)); replace BK930 := am_ (KeepBut.blk hk (g' := gb930) (o := .cells #[.int .i64 t923, .int .i64 t924, .slice Ao23 t925.length co23] 30 (0, 0)) (bk_ BK930.out) NB930_922.out (by simp)); replace HI922 := am_ (hi); replace HB := am_ (hb); (try clear hb); (try clear hb2); (try clear hk); (try clear hi)) | ((with_reducible refine gate_callee (f := 43) rfl ?_); refine gl_ Try.func43 #[.pointer (some ⟨g922, 0, none⟩), .int .i64 8] ?_; (with_reducible refine (spec_l1Once.calls g922 t919 t938 t939 8 true t941 t942 w _ ?side1 ?side2 A7.out).mono ?_); (case side1 => repeat (first | (with_reducible first | exact HI922.out | apply IsS94.alloc | apply IsS94.drewN | apply IsS94.drew | apply IsS94.set_1 | apply IsS94.set_2 | refine IsS94.far ?_ NB922_918.out _ | refine IsS94.far ?_ NB922_930.out _) | exact HI922.out)); (case side2 => exact hb3_ HB.out (IsS94.ge HI922.out) GE918.out GE930.out); rintro e w27 ⟨rfl, hi, hb, hk⟩; refine ⟨_, rfl, ?_⟩; replace BK918 := am_ (KeepBut.blk hk (g' := gb918) (o := .cells #[.int .i64 0, .int .i64 0, .slice none 0 0] 30 (0, 0)) (bk_ BK918.out) NB918_922.out (by simp)); replace HO927 := am_ (Kd.R_mono (Kd.R_keep (IsS94.apart (show IsS94 w _ g922 t919 t938 t939 from by repeat (first | (with_reducible first | exact HI922.out | apply IsS94.alloc | apply IsS94.drewN | apply IsS94.drew | apply IsS94.set_1 | apply IsS94.set_2 | refine IsS94.far ?_ NB922_918.out _ | refine IsS94.far ?_ NB922_930.out _) | exact HI922.out)) (by (with_reducible repeat (first | apply Kd.R_alloc | apply Kd.R_drewN | apply Kd.R_drew)); exact HO927.out) (by decide)) hk (fun _ h => h.2)) (fun _ h => h.1)); replace BK930 := am_ (KeepBut.blk hk (g' := gb930) (o := .cells #[.int .i64 t923, .int .i64 t924, .slice Ao23 t925.length co23] 30 (0, 0)) (bk_ BK930.out) NB930_922.out (by simp)); replace HI922 := am_ (hi); replace HB := am_ (hb); (try clear hb); (try clear hb2); (try clear hk); (try clear hi)))
    have n0_ := am_ (Kd.R_drew HO927.out)
    have n1_ := am_ (blk_drew BK918.out)
    have n2_ := am_ (blk_drew BK930.out)
    have n3_ := am_ (IsS94.drew HI922.out)
    have n4_ := am_ (below_drew1 HB.out)
    clear HO927
    clear BK918
    clear BK930
    clear HI922
    clear HB
    have HO927 := n0_
    have BK918 := n1_
    have BK930 := n2_
    have HI922 := n3_
    have HB := n4_
    clear n0_ n1_ n2_ n3_ n4_
    refine start_ (n := 13) (S := fun w' => w'.cell? ⟨gb930, 0, none⟩ = some (.int .i64 t923) ∧ w'.cell? ⟨gb930, 1, none⟩ = some (.int .i64 t924) ∧ w'.cell? ⟨gb930, 2, none⟩ = some (.slice Ao23 t925.length co23)) (ds := []) #[false, false, false, false, false, false, false, false, false, false, false, false, false] (by kernel_rfl) rfl rfl ⟨(blk_cell BK930.out 0).trans rfl, (blk_cell BK930.out 1).trans rfl, (blk_cell BK930.out 2).trans rfl⟩ (fun hHeld => ?_); refine with_tabW spec_DrawOccurrence.tab6 spec_DrawOccurrence.bits6 (fun HT_ HW_ => ?_)
    generalize w27.drew = w28 at HO927 BK918 BK930 HI922 HB hHeld ⊢
    refine pure_ (i := 0) (N := some 27) (v := ?_) (a' := ?_) #[true, false, false, false, false, false, false, false, false, false, false, false, false] rfl rfl (any_of HT_.out (by kernel_rfl)) (fun _ _ _ h => h) (Or.inl ⟨by rfl, ?_⟩) ?_ ?_
    rotate_left
    ·intro w'
     go_simp
     with_reducible rfl
    rotate_left
    ·simp only [Act.put, List.setIfInBounds_toArray, List.set_cons_zero, List.set_cons_succ, i64_w, i32_w]
     rfl
    refine take_ (i := 1) (N := some 28) (v := ?_) (a' := ?_) #[true, true, false, false, false, false, false, false, false, false, false, false, false] rfl rfl (take_ofW HT_.out HW_.out (by kernel_rfl)) (fun _ _ _ h => h) (Or.inl ⟨by rfl, ?_⟩) hHeld ?_ ?_
    rotate_left
    ·rintro w' ⟨s0, s1, s2⟩
     go_simp
     with_reducible rfl
    rotate_left
    ·simp only [Act.put, List.setIfInBounds_toArray, List.set_cons_zero, List.set_cons_succ, i64_w, i32_w]
     rfl
    refine take_ (i := 5) (N := some 32) (v := ?_) (a' := ?_) #[true, true, false, false, false, true, false, false, false, false, false, false, false] rfl rfl (take_ofW HT_.out HW_.out (by kernel_rfl)) (fun _ _ _ h => h) (Or.inl ⟨by rfl, ?_⟩) hHeld ?_ ?_
    rotate_left
    ·rintro w' ⟨s0, s1, s2⟩
     go_simp
     with_reducible rfl
    rotate_left
    ·simp only [Act.put, List.setIfInBounds_toArray, List.set_cons_zero, List.set_cons_succ, i64_w, i32_w]
     rfl
    refine one_ (i := 2) (N := some 29) #[true, true, true, false, false, true, false, false, false, false, false, false, false] rfl rfl (one_of HT_.out (by kernel_rfl)) (by decide) (fun K hK => ?_)
    refine goes_ Try.func25 (by kernel_rfl) rfl #[.agg #[.int .i64 t923, .int .i64 t924, .slice Ao23 t925.length co23]] (by rfl) rfl rfl arr_ ?_
    with_reducible refine (spec_RoundOf.calls k t923 t924 _ _ t925 t943 _ ?side1 ?side2 A9.out).mono ?_
    (case side1 => repeat (first | exact (Kd.R_reads' HO927.out).2.2 | (with_reducible refine Kd.C_alloc ?_ _) | (with_reducible refine Kd.C_drewN ?_ _) | (with_reducible refine Kd.C_drew ?_)))
    (case side2 => exact (Kd.R_reads' HO927.out).2.1)
    rintro e w29 ⟨rfl, hb⟩
    refine ⟨_, rfl, ?_⟩
    have n0_ := am_ (Kd.R_below (by (with_reducible repeat (first | apply Kd.R_alloc | apply Kd.R_drewN | apply Kd.R_drew)); exact HO927.out) hb)
    have n1_ := am_ (bb_ BK918.out hb)
    have n2_ := am_ (IsS94.below (by repeat (first | (with_reducible first | exact HI922.out | apply IsS94.alloc | apply IsS94.drewN | apply IsS94.drew | apply IsS94.set_1 | apply IsS94.set_2 | refine IsS94.far ?_ NB922_918.out _ | refine IsS94.far ?_ NB922_930.out _) | exact HI922.out)) hb)
    have n3_ := am_ (bb_ BK930.out hb)
    have n4_ := am_ (below_step (hb3_ HB.out (IsS94.ge HI922.out) GE918.out GE930.out) hb)
    clear HO927
    clear BK918
    clear HI922
    clear BK930
    clear HB
    have HO927 := n0_
    have BK918 := n1_
    have HI922 := n2_
    have BK930 := n3_
    have HB := n4_
    clear n0_ n1_ n2_ n3_ n4_
    (try clear hb)
    (try clear hb2)
    (try clear hk)
    (try clear hi)
    refine hK.out _ _ ⟨(blk_cell BK930.out 0).trans rfl, (blk_cell BK930.out 1).trans rfl, (blk_cell BK930.out 2).trans rfl⟩ (fun hHeld => ?_)
    clear hK K
    refine norm_ (a' := ?_) ?_ ?_
    rotate_left
    ·show Act.put _ (some 29) _ = _
     simp only [Act.put, List.setIfInBounds_toArray, List.set_cons_zero, List.set_cons_succ, i64_w, i32_w]
     rfl
    refine one_ (i := 3) (N := some 30) #[true, true, true, true, false, true, false, false, false, false, false, false, false] rfl rfl (one_of HT_.out (by kernel_rfl)) (by decide) (fun K hK => ?_)
    refine goes_ Try.func80 (by kernel_rfl) rfl #[.int .i64 t943, .int .i64 1] (by rfl) rfl rfl arr_ ?_
    with_reducible refine (spec_l1Max.calls t943 1 t944 _ A10.out).mono ?_
    rintro e w' ⟨rfl, ⟨nd, rfl⟩⟩
    refine ⟨_, rfl, ?_⟩
    refine hK.out _ _ ⟨(blk_cell BK930.out 0).trans rfl, (blk_cell BK930.out 1).trans rfl, (blk_cell BK930.out 2).trans rfl⟩ (fun hHeld => ?_)
    clear hK K
    refine norm_ (a' := ?_) ?_ ?_
    rotate_left
    ·show Act.put _ (some 30) _ = _
     simp only [Act.put, List.setIfInBounds_toArray, List.set_cons_zero, List.set_cons_succ, i64_w, i32_w]
     rfl
    refine pure_ (i := 4) (N := some 31) (v := ?_) (a' := ?_) #[true, true, true, true, true, true, false, false, false, false, false, false, false] rfl rfl (any_of HT_.out (by kernel_rfl)) (fun _ _ _ h => h) (Or.inl ⟨by rfl, ?_⟩) ?_ ?_
    rotate_left
    ·intro w'
     go_simp
     with_reducible rfl
    rotate_left
    ·simp only [Act.put, List.setIfInBounds_toArray, List.set_cons_zero, List.set_cons_succ, i64_w, i32_w]
     rfl
    refine one_ (i := 6) (N := some 33) #[true, true, true, true, true, true, true, false, false, false, false, false, false] rfl rfl (one_of HT_.out (by kernel_rfl)) (by decide) (fun K hK => ?_)
    refine goes_ Try.func25 (by kernel_rfl) rfl #[.agg #[.int .i64 t923, .int .i64 t924, .slice Ao23 t925.length co23]] (by rfl) rfl rfl arr_ ?_
    with_reducible refine (spec_RoundOf.calls k t923 t924 _ _ t925 t945 _ ?side1 ?side2 A12.out).mono ?_
    (case side1 => repeat (first | exact (Kd.R_reads' HO927.out).2.2 | (with_reducible refine Kd.C_alloc ?_ _) | (with_reducible refine Kd.C_drewN ?_ _) | (with_reducible refine Kd.C_drew ?_)))
    (case side2 => exact (Kd.R_reads' HO927.out).2.1)
    rintro e w30 ⟨rfl, hb⟩
    refine ⟨_, rfl, ?_⟩
    have n0_ := am_ (Kd.R_below (by (with_reducible repeat (first | apply Kd.R_alloc | apply Kd.R_drewN | apply Kd.R_drew)); exact HO927.out) hb)
    have n1_ := am_ (bb_ BK918.out hb)
    have n2_ := am_ (IsS94.below (by repeat (first | (with_reducible first | exact HI922.out | apply IsS94.alloc | apply IsS94.drewN | apply IsS94.drew | apply IsS94.set_1 | apply IsS94.set_2 | refine IsS94.far ?_ NB922_918.out _ | refine IsS94.far ?_ NB922_930.out _) | exact HI922.out)) hb)
    have n3_ := am_ (bb_ BK930.out hb)
    have n4_ := am_ (below_step (hb3_ HB.out (IsS94.ge HI922.out) GE918.out GE930.out) hb)
    clear HO927
    clear BK918
    clear HI922
    clear BK930
    clear HB
    have HO927 := n0_
    have BK918 := n1_
    have HI922 := n2_
    have BK930 := n3_
    have HB := n4_
    clear n0_ n1_ n2_ n3_ n4_
    (try clear hb)
    (try clear hb2)
    (try clear hk)
    (try clear hi)
    refine hK.out _ _ ⟨(blk_cell BK930.out 0).trans rfl, (blk_cell BK930.out 1).trans rfl, (blk_cell BK930.out 2).trans rfl⟩ (fun hHeld => ?_)
    clear hK K
    refine norm_ (a' := ?_) ?_ ?_
    rotate_left
    ·show Act.put _ (some 33) _ = _
     simp only [Act.put, List.setIfInBounds_toArray, List.set_cons_zero, List.set_cons_succ, i64_w, i32_w]
     rfl
    refine one_ (i := 7) (N := some 34) #[true, true, true, true, true, true, true, true, false, false, false, false, false] rfl rfl (one_of HT_.out (by kernel_rfl)) (by decide) (fun K hK => ?_)
    refine goes_ Try.func80 (by kernel_rfl) rfl #[.int .i64 t945, .int .i64 1] (by rfl) rfl rfl arr_ ?_
    with_reducible refine (spec_l1Max.calls t945 1 t946 _ A13.out).mono ?_
    rintro e w' ⟨rfl, ⟨nd, rfl⟩⟩
    refine ⟨_, rfl, ?_⟩
    refine hK.out _ _ ⟨(blk_cell BK930.out 0).trans rfl, (blk_cell BK930.out 1).trans rfl, (blk_cell BK930.out 2).trans rfl⟩ (fun hHeld => ?_)
    clear hK K
    refine norm_ (a' := ?_) ?_ ?_
    rotate_left
    ·show Act.put _ (some 34) _ = _
     simp only [Act.put, List.setIfInBounds_toArray, List.set_cons_zero, List.set_cons_succ, i64_w, i32_w]
     rfl
    refine pure_ (i := 8) (N := some 35) (v := ?_) (a' := ?_) #[true, true, true, true, true, true, true, true, true, false, false, false, false] rfl rfl (any_of HT_.out (by kernel_rfl)) (fun _ _ _ h => h) (Or.inl ⟨by rfl, ?_⟩) ?_ ?_
    rotate_left
    ·intro w'
     go_simp
     with_reducible rfl
    rotate_left
    ·simp only [Act.put, List.setIfInBounds_toArray, List.set_cons_zero, List.set_cons_succ, i64_w, i32_w]
     rfl
    refine pure_ (i := 9) (N := some 36) (v := ?_) (a' := ?_) #[true, true, true, true, true, true, true, true, true, true, false, false, false] rfl rfl (any_of HT_.out (by kernel_rfl)) (fun _ _ _ h => h) (Or.inl ⟨by rfl, ?_⟩) ?_ ?_
    rotate_left
    ·intro w'
     go_simp
     with_reducible rfl
    rotate_left
    ·simp only [Act.put, List.setIfInBounds_toArray, List.set_cons_zero, List.set_cons_succ, i64_w, i32_w]
     rfl
    refine one_ (i := 10) (N := some 37) #[true, true, true, true, true, true, true, true, true, true, true, false, false] rfl rfl (one_of HT_.out (by kernel_rfl)) (by decide) (fun K hK => ?_)
    refine Kd.R_lit_step (Kd.int .i64) _ 3 ?hg (N := 37) ?hd (xs := ([(-1), 1000000000000, 1000000000001, 9223372036854775807, wrap64 (Int.tdiv (1000000000000 : Int) t944), wrap64 ((wrap64 (Int.tdiv (1000000000000 : Int) t946)) - 1)] : List Int)) (inner := [.int .i64 (-1), .int .i64 1000000000000, .int .i64 1000000000001, .int .i64 9223372036854775807, .int .i64 (wrap64 (Int.tdiv (1000000000000 : Int) t944)), .int .i64 (wrap64 ((wrap64 (Int.tdiv (1000000000000 : Int) t946)) - 1))]) (ok := fun _ => True) (okp := fun _ => True) ?hr ?hp (fun _ hk => hk) trivial (Below.refl _ _) (Nat.le_refl _) (by simp) ?_; (case hd => rfl); (case hg => rfl); (case hr => first|(go_simp;done)|(go_simp;rfl)); (case hp => exact (Reps.one (show Kd.M (Kd.int .i64) _ _ _ (-1) [.int .i64 (-1)] from rfl) (Reps.one (show Kd.M (Kd.int .i64) _ _ _ 1000000000000 [.int .i64 1000000000000] from rfl) (Reps.one (show Kd.M (Kd.int .i64) _ _ _ 1000000000001 [.int .i64 1000000000001] from rfl) (Reps.one (show Kd.M (Kd.int .i64) _ _ _ 9223372036854775807 [.int .i64 9223372036854775807] from rfl) (Reps.one (show Kd.M (Kd.int .i64) _ _ _ (wrap64 (Int.tdiv (1000000000000 : Int) t944)) [.int .i64 (wrap64 (Int.tdiv (1000000000000 : Int) t944))] from rfl) (Reps.one (show Kd.M (Kd.int .i64) _ _ _ (wrap64 ((wrap64 (Int.tdiv (1000000000000 : Int) t946)) - 1)) [.int .i64 (wrap64 ((wrap64 (Int.tdiv (1000000000000 : Int) t946)) - 1))] from rfl) (Reps.none _ _))))))))
    intro v948 w31 ho32 hb hg_ hnew_
    clear hg_ hnew_
    (first | rw [← Ny947.out] at ho32 | (simp only [Int.reduceToNat] at ho32; rw [← Ny947.out] at ho32))
    have n0_ := am_ (Kd.R_below (by (with_reducible repeat (first | apply Kd.R_alloc | apply Kd.R_drewN | apply Kd.R_drew)); exact HO927.out) hb)
    have n1_ := am_ (Kd.R_lower ho32 (below_size (hb3_ HB.out (IsS94.ge HI922.out) GE918.out GE930.out)))
    have n2_ := am_ (bb_ BK918.out hb)
    have n3_ := am_ (IsS94.below (by repeat (first | (with_reducible first | exact HI922.out | apply IsS94.alloc | apply IsS94.drewN | apply IsS94.drew | apply IsS94.set_1 | apply IsS94.set_2 | refine IsS94.far ?_ NB922_918.out _ | refine IsS94.far ?_ NB922_930.out _) | exact HI922.out)) hb)
    have n4_ := am_ (bb_ BK930.out hb)
    have n5_ := am_ (below_step (hb3_ HB.out (IsS94.ge HI922.out) GE918.out GE930.out) hb)
    clear HO927
    clear BK918
    clear HI922
    clear BK930
    clear HB
    have HO927 := n0_
    have HO949 := n1_
    have BK918 := n2_
    have HI922 := n3_
    have BK930 := n4_
    have HB := n5_
    clear n0_ n1_ n2_ n3_ n4_ n5_
    clear hb ho32
    obtain ⟨Ao33, co33, eo33⟩ := Kd.R_slice HO949.out
    (first | subst eo33 | (injection eo33 with f1_ f2_ f3_; have f4_ := f1_.symm; have f5_ := f3_.symm; clear f1_ f2_ f3_; subst f4_; subst f5_))
    refine hK.out _ _ ⟨(blk_cell BK930.out 0).trans rfl, (blk_cell BK930.out 1).trans rfl, (blk_cell BK930.out 2).trans rfl⟩ (fun hHeld => ?_)
    clear hK K
    refine norm_ (a' := ?_) ?_ ?_
    rotate_left
    ·show Act.put _ (some 37) _ = _
     simp only [Act.put, List.setIfInBounds_toArray, List.set_cons_zero, List.set_cons_succ, i64_w, i32_w]
     rfl
    refine one_ (i := 11) (N := some 38) #[true, true, true, true, true, true, true, true, true, true, true, true, false] rfl rfl (one_of HT_.out (by kernel_rfl)) (by decide) (fun K hK => ?_)
    refine goes_ Try.func44 (by kernel_rfl) rfl #[.pointer (some ⟨g922, 0, none⟩), .slice Ao33 y947.length co33] (by rfl) rfl rfl arr_ ?_
    with_reducible refine (spec_l1PickInt.calls g922 t919 t941 t942 _ _ y947 t950 t951 t952 w _ ?side1 ?side2 ?side3 ?side4 ?side5 A15.out).mono ?_
    (case side1 => repeat (first | (with_reducible first | exact HI922.out | apply IsS94.alloc | apply IsS94.drewN | apply IsS94.drew | apply IsS94.set_1 | apply IsS94.set_2 | refine IsS94.far ?_ NB922_918.out _ | refine IsS94.far ?_ NB922_930.out _) | exact HI922.out))
    (case side2 => exact hb3_ HB.out (IsS94.ge HI922.out) GE918.out GE930.out)
    (case side3 => repeat (first | exact (Kd.R_reads' HO949.out).2.2 | (with_reducible refine Kd.C_alloc ?_ _) | (with_reducible refine Kd.C_drewN ?_ _) | (with_reducible refine Kd.C_drew ?_)))
    (case side4 => exact (Kd.R_reads' HO949.out).2.1)
    (case side5 => exact far_slice (IsS94.own_ne HI922.out HO949.out (by decide)))
    rintro e w34 ⟨rfl, hi, hb, hk⟩
    refine ⟨_, rfl, ?_⟩
    have n0_ := am_ (KeepBut.blk hk (g' := gb918) (o := .cells #[.int .i64 0, .int .i64 0, .slice none 0 0] 30 (0, 0)) (bk_ BK918.out) NB918_922.out (by simp))
    have n1_ := am_ (Kd.R_mono (Kd.R_keep (IsS94.apart (show IsS94 w _ g922 t919 t941 t942 from by repeat (first | (with_reducible first | exact HI922.out | apply IsS94.alloc | apply IsS94.drewN | apply IsS94.drew | apply IsS94.set_1 | apply IsS94.set_2 | refine IsS94.far ?_ NB922_918.out _ | refine IsS94.far ?_ NB922_930.out _) | exact HI922.out)) (by (with_reducible repeat (first | apply Kd.R_alloc | apply Kd.R_drewN | apply Kd.R_drew)); exact HO927.out) (by decide)) hk (fun _ h => h.2)) (fun _ h => h.1))
    have n2_ := am_ (KeepBut.blk hk (g' := gb930) (o := .cells #[.int .i64 t923, .int .i64 t924, .slice Ao23 t925.length co23] 30 (0, 0)) (bk_ BK930.out) NB930_922.out (by simp))
    have n3_ := am_ (Kd.R_mono (Kd.R_keep (IsS94.apart (show IsS94 w _ g922 t919 t941 t942 from by repeat (first | (with_reducible first | exact HI922.out | apply IsS94.alloc | apply IsS94.drewN | apply IsS94.drew | apply IsS94.set_1 | apply IsS94.set_2 | refine IsS94.far ?_ NB922_918.out _ | refine IsS94.far ?_ NB922_930.out _) | exact HI922.out)) (by (with_reducible repeat (first | apply Kd.R_alloc | apply Kd.R_drewN | apply Kd.R_drew)); exact HO949.out) (by decide)) hk (fun _ h => h.2)) (fun _ h => h.1))
    have n4_ := am_ (hb)
    have n5_ := am_ (hi)
    clear BK918
    clear HO927
    clear BK930
    clear HO949
    clear HB
    clear HI922
    have BK918 := n0_
    have HO927 := n1_
    have BK930 := n2_
    have HO949 := n3_
    have HB := n4_
    have HI922 := n5_
    clear n0_ n1_ n2_ n3_ n4_ n5_
    (try clear hb)
    (try clear hb2)
    (try clear hk)
    (try clear hi)
    refine hK.out _ _ ⟨(blk_cell BK930.out 0).trans rfl, (blk_cell BK930.out 1).trans rfl, (blk_cell BK930.out 2).trans rfl⟩ (fun hHeld => ?_)
    clear hK K
    refine norm_ (a' := ?_) ?_ ?_
    rotate_left
    ·show Act.put _ (some 38) _ = _
     simp only [Act.put, List.setIfInBounds_toArray, List.set_cons_zero, List.set_cons_succ, i64_w, i32_w]
     rfl
    refine pure_ (i := 12) (N := some 8) (v := ?_) (a' := ?_) #[true, true, true, true, true, true, true, true, true, true, true, true, true] rfl rfl (any_of HT_.out (by kernel_rfl)) (fun _ _ _ h => h) (Or.inl ⟨by rfl, ?_⟩) ?_ ?_
    rotate_left
    ·intro w'
     go_simp
     with_reducible rfl
    rotate_left
    ·simp only [Act.put, List.setIfInBounds_toArray, List.set_cons_zero, List.set_cons_succ, i64_w, i32_w]
     rfl
    refine done_ (done_of HT_.out (by kernel_rfl)) ?_
    have hcz35_0 := bc_ BK930.out 0 (.int .i64 t923) rfl
    have hcz35_1 := bc_ BK930.out 1 (.int .i64 t924) rfl
    have hcz35_2 := bc_ BK930.out 2 (.slice Ao23 t925.length co23) rfl
    have hfz35_0 := blk_frozen BK930.out 0
    have hfz35_1 := blk_frozen BK930.out 1
    have hfz35_2 := blk_frozen BK930.out 2
    have hnb36 := NB918_922.out
    have hnc36 := NB922_918.out
    have hcz37_0 := bc_ BK918.out 0 (.int .i64 0) rfl
    have hcz37_1 := bc_ BK918.out 1 (.int .i64 0) rfl
    have hcz37_2 := bc_ BK918.out 2 (.slice none 0 0) rfl
    have hfz37_0 := blk_frozen BK918.out 0
    have hfz37_1 := blk_frozen BK918.out 1
    have hfz37_2 := blk_frozen BK918.out 2
    try go_wp2
    refine bodyPost_ret (results_ctt rfl _ _ gb918 30 #[.int .i64 t923, .int .i64 t924, .slice Ao23 t925.length co23] (0, 0) _ rfl (by (with_reducible repeat (first | refine blk_drewN ?_ _ | refine blk_drew ?_ | refine blk_alloc ?_ _)); refine blk_put (cs := #[.int .i64 t923, .int .i64 t924, .slice none 0 0]) ?_ 2 _ rfl; (with_reducible repeat (first | refine blk_drewN ?_ _ | refine blk_drew ?_ | refine blk_alloc ?_ _)); refine blk_put (cs := #[.int .i64 t923, .int .i64 0, .slice none 0 0]) ?_ 1 _ rfl; (with_reducible repeat (first | refine blk_drewN ?_ _ | refine blk_drew ?_ | refine blk_alloc ?_ _)); refine blk_put (cs := #[.int .i64 0, .int .i64 0, .slice none 0 0]) ?_ 0 _ rfl; (with_reducible repeat (first | refine blk_drewN ?_ _ | refine blk_drew ?_ | refine blk_alloc ?_ _)); exact BK918.out) Try.underlying30 rfl (by kernel_rfl)) rfl ?_
    exact ⟨_, er_, by (with_reducible repeat (first | apply Kd.R_alloc | apply Kd.R_drewN | apply Kd.R_drew)); exact Kd.R_mono (Kd.R_far (p := ⟨gb918, 2, none⟩) (Kd.R_far (p := ⟨gb918, 1, none⟩) (Kd.R_far (p := ⟨gb918, 0, none⟩) (Kd.R_types HO927.out BK918.out (by decide)) (fun _ hk => hk.2) (.int .i64 t923)) (fun _ hk => hk.2) (.int .i64 t924)) (fun _ hk => hk.2) (.slice Ao23 t925.length co23)) (fun _ hk => trivial), hb3_ HB.out (IsS94.ge HI922.out) GE918.out GE930.out⟩
 ·replace c8 := Bool.eq_false_iff.mpr c8
  subst c8
  have H1 : (some (t923, t924, t925, wrap64 (t931 - (wrap64 (Int.tdiv t934 19))), t937)) = some (r1, r2, r3, r4, r5) := by rw [if_neg (show ¬ (false = true) by decide)] at H; exact H
  clear H
  have H := H1
  clear H1
  simp only [Option.some.injEq, Prod.mk.injEq] at H
  obtain ⟨rfl, rfl, rfl, rfl, rfl⟩ := H
  go_enter Try.func27, Try.ntmps27
  go_wp2_with (first | ((with_reducible refine gate_dst (N := 2) rfl ?_); refine be_ (N := 2) (cs := #[.int .i64 0, .int .i64 0, .slice none 0 0]) (t := 30) ?_; intro gb918 hg w38 hbox hb; have BK918 := am_ (hbox); have GW918 := am_ (hy_ hg (hb_ HB.out) : w.heap.size ≤ gb918); have GE918 := GW918; replace HB := am_ (below_step (hb_ HB.out) hb); clear hb hbox hg) | ((with_reducible refine gate_callee (f := 36) rfl ?_); refine gl_ Try.func36 #[.slice A0 l0.length c0] ?_; (with_reducible refine (spec_l1New.calls k _ _ l0 t919 t920 t921 w _ ?side1 ?side2 ?side3 A2.out).mono ?_); (case side1 => exact hb1_ HB.out GE918.out); (case side2 => exact HR0.out); (case side3 => exact HC0.out); rintro e w39 ⟨g922, rfl, hi, hb, hb2⟩; refine ⟨_, rfl, ?_⟩; have HI922 := am_ (hi); have NB922_918 := am_ (IsS94.ne_blk hi (blk_below (g := gb918) (o := .cells #[.int .i64 0, .int .i64 0, .slice none 0 0] 30 (0, 0)) (bk_ BK918.out) hb2) (by decide)); have NB918_922 := am_ (Ne.symm (IsS94.ne_blk hi (blk_below (g := gb918) (o := .cells #[.int .i64 0, .int .i64 0, .slice none 0 0] 30 (0, 0)) (bk_ BK918.out) hb2) (by decide))); replace BK918 := am_ (blk_below (g := gb918) (o := .cells #[.int .i64 0, .int .i64 0, .slice none 0 0] 30 (0, 0)) (bk_ BK918.out) hb2); replace HB := am_ (hb); (try clear hb); (try clear hb2); (try clear hk); (try clear hi)) | ((with_reducible refine gate_callee (f := 37) rfl ?_); refine gl_ Try.func37 #[.pointer (some ⟨g922, 0, none⟩)] ?_; (with_reducible refine (spec_l13DrawAny.calls k g922 t919 t920 t921 t923 t924 t925 t928 t929 w _ ?side1 ?side2 A3.out).mono ?_); (case side1 => repeat (first | (with_reducible first | exact HI922.out | apply IsS94.alloc | apply IsS94.drewN | apply IsS94.drew | apply IsS94.set_1 | apply IsS94.set_2 | refine IsS94.far ?_ NB922_918.out _) | exact HI922.out)); (case side2 => exact hb2_ HB.out (IsS94.ge HI922.out) GE918.out); rintro e w40 ⟨v926, rfl, ho0, hi, hb, hk⟩; refine ⟨_, rfl, ?_⟩; have HO927 := am_ (Kd.R_lower ho0 (below_size (hb2_ HB.out (IsS94.ge HI922.out) GE918.out))); replace BK918 := am_ (KeepBut.blk hk (g' := gb918) (o := .cells #[.int .i64 0, .int .i64 0, .slice none 0 0] 30 (0, 0)) (bk_ BK918.out) NB918_922.out (by simp)); replace HI922 := am_ (hi); replace HB := am_ (hb); (try clear hb); (try clear hb2); (try clear hk); (try clear hi); (try clear ho0)) | ((with_reducible refine gate_dst (N := 6) rfl ?_); refine be_ (N := 6) (cs := #[.int .i64 0, .int .i64 0, .slice none 0 0]) (t := 30) ?_; intro gb930 hg w41 hbox hb; have n0_ := am_ (Kd.R_below (by (with_reducible repeat (first | apply Kd.R_alloc | apply Kd.R_drewN | apply Kd.R_drew)); exact HO927.out) hb); have n1_ := am_ (bb_ BK918.out hb); have n2_ := am_ (IsS94.below (by repeat (first | (with_reducible first | exact HI922.out | apply IsS94.alloc | apply IsS94.drewN | apply IsS94.drew | apply IsS94.set_1 | apply IsS94.set_2 | refine IsS94.far ?_ NB922_918.out _) | exact HI922.out)) hb); have n3_ := am_ (below_step (hb2_ HB.out (IsS94.ge HI922.out) GE918.out) hb); have n4_ := am_ (hbox); have n5_ := am_ ((by rw [hg]; exact (below_size (hb2_ HB.out (IsS94.ge HI922.out) GE918.out)) : w.heap.size ≤ gb930)); have n6_ := am_ ((by rw [hg]; exact (below_size (hb2_ HB.out (IsS94.ge HI922.out) GE918.out)) : w.heap.size ≤ gb930)); have n7_ := am_ ((bl_ hg BK918.out : gb918 ≠ gb930)); have n8_ := am_ ((bg_ hg BK918.out : gb930 ≠ gb918)); have n9_ := am_ ((by rw [hg]; exact Nat.ne_of_lt (IsS94.lt (show IsS94 w _ g922 t919 t928 t929 from by repeat (first | (with_reducible first | exact HI922.out | apply IsS94.alloc | apply IsS94.drewN | apply IsS94.drew | apply IsS94.set_1 | apply IsS94.set_2 | refine IsS94.far ?_ NB922_918.out _) | exact HI922.out))) : g922 ≠ gb930)); have n10_ := am_ ((by rw [hg]; exact Nat.ne_of_gt (IsS94.lt (show IsS94 w _ g922 t919 t928 t929 from by repeat (first | (with_reducible first | exact HI922.out | apply IsS94.alloc | apply IsS94.drewN | apply IsS94.drew | apply IsS94.set_1 | apply IsS94.set_2 | refine IsS94.far ?_ NB922_918.out _) | exact HI922.out))) : gb930 ≠ g922)); clear HO927; clear BK918; clear HI922; clear HB; have HO927 := n0_; have BK918 := n1_; have HI922 := n2_; have HB := n3_; have BK930 := n4_; have GW930 := n5_; have GE930 := n6_; have NB918_930 := n7_; have NB930_918 := n8_; have NB922_930 := n9_; have NB930_922 := n10_; clear n0_ n1_ n2_ n3_ n4_ n5_ n6_ n7_ n8_ n9_ n10_; clear hb hbox hg; have hnb42 := NB930_918.out; have hnc42 := NB918_930.out; have hnb43 := NB930_922.out; have hnc43 := NB922_930.out; obtain ⟨hcz44_0, hcz44_1, hcz44_2, hfz44_0, hfz44_1, hfz44_2⟩ := bc3_ BK930.out; obtain ⟨Ao45, co45, eo45⟩ := Kd.R_slice HO927.out; subst eo45) | ((with_reducible refine gate_callee (f := 41) rfl ?_); refine gl_ Try.func41 #[.pointer (some ⟨g922, 0, none⟩), .int .i64 (wrap64 ((t925.length : Int) + 1))] ?_; (with_reducible refine (spec_l1Below.calls g922 t919 t928 t929 (wrap64 ((t925.length : Int) + 1)) t931 t932 t933 w _ ?side1 ?side2 A4.out).mono ?_); (case side1 => repeat (first | (with_reducible first | exact HI922.out | apply IsS94.alloc | apply IsS94.drewN | apply IsS94.drew | apply IsS94.set_1 | apply IsS94.set_2 | refine IsS94.far ?_ NB922_918.out _ | refine IsS94.far ?_ NB922_930.out _) | exact HI922.out)); (case side2 => exact hb3_ HB.out (IsS94.ge HI922.out) GE918.out GE930.out); rintro e w46 ⟨rfl, hi, hb, hk⟩; refine ⟨_, rfl, ?_⟩; replace BK918 := am_ (KeepBut.blk hk (g' := gb918) (o := .cells #[.int .i64 0, .int .i64 0, .slice none 0 0] 30 (0, 0)) (by (with_reducible repeat (first | refine blk_drewN ?_ _ | refine blk_drew ?_ | refine blk_alloc ?_ _)); refine blk_far ?_ NB918_930.out _; (with_reducible repeat (first | refine blk_drewN ?_ _ | refine blk_drew ?_ | refine blk_alloc ?_ _)); refine blk_far ?_ NB918_930.out _; (with_reducible repeat (first | refine blk_drewN ?_ _ | refine blk_drew ?_ | refine blk_alloc ?_ _)); refine blk_far ?_ NB918_930.out _; (with_reducible repeat (first | refine blk_drewN ?_ _ | refine blk_drew ?_ | refine blk_alloc ?_ _)); exact BK918.out) NB918_922.out (by simp)); replace HO927 := am_ (Kd.R_mono (Kd.R_keep (IsS94.apart (show IsS94 w _ g922 t919 t928 t929 from by repeat (first | (with_reducible first | exact HI922.out | apply IsS94.alloc | apply IsS94.drewN | apply IsS94.drew | apply IsS94.set_1 | apply IsS94.set_2 | refine IsS94.far ?_ NB922_918.out _ | refine IsS94.far ?_ NB922_930.out _) | exact HI922.out)) (by (with_reducible repeat (first | apply Kd.R_alloc | apply Kd.R_drewN | apply Kd.R_drew)); exact (Kd.R_mono (Kd.R_far (p := ⟨gb930, 2, none⟩) (Kd.R_far (p := ⟨gb930, 1, none⟩) (Kd.R_far (p := ⟨gb930, 0, none⟩) (Kd.R_types HO927.out BK930.out (by decide)) (fun _ hk => hk.2) (.int .i64 t923)) (fun _ hk => hk.2) (.int .i64 t924)) (fun _ hk => hk.2) (.slice Ao45 t925.length co45)) (fun _ h_ => h_.1))) (by decide)) hk (fun _ h => h.2)) (fun _ h => h.1)); replace BK930 := am_ (KeepBut.blk hk (g' := gb930) (o := .cells #[.int .i64 t923, .int .i64 t924, .slice Ao45 t925.length co45] 30 (0, 0)) (by (with_reducible repeat (first | refine blk_drewN ?_ _ | refine blk_drew ?_ | refine blk_alloc ?_ _)); refine blk_put (cs := #[.int .i64 t923, .int .i64 t924, .slice none 0 0]) ?_ 2 _ rfl; (with_reducible repeat (first | refine blk_drewN ?_ _ | refine blk_drew ?_ | refine blk_alloc ?_ _)); refine blk_put (cs := #[.int .i64 t923, .int .i64 0, .slice none 0 0]) ?_ 1 _ rfl; (with_reducible repeat (first | refine blk_drewN ?_ _ | refine blk_drew ?_ | refine blk_alloc ?_ _)); refine blk_put (cs := #[.int .i64 0, .int .i64 0, .slice none 0 0]) ?_ 0 _ rfl; (with_reducible repeat (first | refine blk_drewN ?_ _ | refine blk_drew ?_ | refine blk_alloc ?_ _)); exact BK930.out) NB930_922.out (by simp)); replace HI922 := am_ (hi); replace HB := am_ (hb); (try clear hb); (try clear hb2); (try clear hk); (try clear hi)) | ((with_reducible refine gate_callee (f := 41) rfl ?_); refine gl_ Try.func41 #[.pointer (some ⟨g922, 0, none⟩), .int .i64 20] ?_; (with_reducible refine (spec_l1Below.calls g922 t919 t932 t933 20 t934 t935 t936 w _ ?side1 ?side2 A5.out).mono ?_); (case side1 => repeat (first | (with_reducible first | exact HI922.out | apply IsS94.alloc | apply IsS94.drewN | apply IsS94.drew | apply IsS94.set_1 | apply IsS94.set_2 | refine IsS94.far ?_ NB922_918.out _ | refine IsS94.far ?_ NB922_930.out _) | exact HI922.out)); (case side2 => exact hb3_ HB.out (IsS94.ge HI922.out) GE918.out GE930.out); rintro e w47 ⟨rfl, hi, hb, hk⟩; refine ⟨_, rfl, ?_⟩; replace BK918 := am_ (KeepBut.blk hk (g' := gb918) (o := .cells #[.int .i64 0, .int .i64 0, .slice none 0 0] 30 (0, 0)) (bk_ BK918.out) NB918_922.out (by simp)); replace HO927 := am_ (Kd.R_mono (Kd.R_keep (IsS94.apart (show IsS94 w _ g922 t919 t932 t933 from by repeat (first | (with_reducible first | exact HI922.out | apply IsS94.alloc | apply IsS94.drewN | apply IsS94.drew | apply IsS94.set_1 | apply IsS94.set_2 | refine IsS94.far ?_ NB922_918.out _ | refine IsS94.far ?_ NB922_930.out _) | exact HI922.out)) (by (with_reducible repeat (first | apply Kd.R_alloc | apply Kd.R_drewN | apply Kd.R_drew)); exact HO927.out) (by decide)) hk (fun _ h => h.2)) (fun _ h => h.1)); replace BK930 := am_ (KeepBut.blk hk (g' := gb930) (o := .cells #[.int .i64 t923, .int .i64 t924, .slice Ao45 t925.length co45] 30 (0, 0)) (bk_ BK930.out) NB930_922.out (by simp)); replace HI922 := am_ (hi); replace HB := am_ (hb); (try clear hb); (try clear hb2); (try clear hk); (try clear hi)) | ((with_reducible refine gate_callee (f := 41) rfl ?_); refine gl_ Try.func41 #[.pointer (some ⟨g922, 0, none⟩), .int .i64 9] ?_; (with_reducible refine (spec_l1Below.calls g922 t919 t935 t936 9 t937 t938 t939 w _ ?side1 ?side2 A6.out).mono ?_); (case side1 => repeat (first | (with_reducible first | exact HI922.out | apply IsS94.alloc | apply IsS94.drewN | apply IsS94.drew | apply IsS94.set_1 | apply IsS94.set_2 | refine IsS94.far ?_ NB922_918.out _ | refine IsS94.far ?_ NB922_930.out _) | exact HI922.out)); (case side2 => exact hb3_ HB.out (IsS94.ge HI922.out) GE918.out GE930.out); rintro e w48 ⟨rfl, hi, hb, hk⟩; refine ⟨_, rfl, ?_⟩; replace BK918 := am_ (KeepBut.blk hk (g' := gb918) (o := .cells #[.int .i64 0, .int .i64 0, .slice none 0 0] 30 (0, 0)) (bk_ BK918.out) NB918_922.out (by simp)); replace HO927 := am_ (Kd.R_mono (Kd.R_keep (IsS94.apart (show IsS94 w _ g922 t919 t935 t936 from by repeat (first | (with_reducible first | exact HI922.out | apply IsS94.alloc | apply IsS94.drewN | apply IsS94.drew | apply IsS94.set_1 | apply IsS94.set_2 | refine IsS94.far ?_ NB922_918.out _ | refine IsS94.far ?_ NB922_930.out _) | exact HI922.out)) (by (with_reducible repeat (first | apply Kd.R_alloc | apply Kd.R_drewN | apply Kd.R_drew)); exact HO927.out) (by decide)) hk (fun _ h => h.2)) (fun _ h => h.1)); replace BK930 := am_ (KeepBut.blk hk (g' := gb930) (o := .cells #[.int .i64 t923, .int .i64 t924, .slice Ao45 t925.length co45] 30 (0, 0)) (bk_ BK930.out) NB930_922.out (by simp)); replace HI922 := am_ (hi); replace HB := am_ (hb); (try clear hb); (try clear hb2); (try clear hk); (try clear hi)) | ((with_reducible refine gate_callee (f := 43) rfl ?_); refine gl_ Try.func43 #[.pointer (some ⟨g922, 0, none⟩), .int .i64 8] ?_; (with_reducible refine (spec_l1Once.calls g922 t919 t938 t939 8 false t941 t942 w _ ?side1 ?side2 A7.out).mono ?_); (case side1 => repeat (first | (with_reducible first | exact HI922.out | apply IsS94.alloc | apply IsS94.drewN | apply IsS94.drew | apply IsS94.set_1 | apply IsS94.set_2 | refine IsS94.far ?_ NB922_918.out _ | refine IsS94.far ?_ NB922_930.out _) | exact HI922.out)); (case side2 => exact hb3_ HB.out (IsS94.ge HI922.out) GE918.out GE930.out); rintro e w49 ⟨rfl, hi, hb, hk⟩; refine ⟨_, rfl, ?_⟩; replace BK918 := am_ (KeepBut.blk hk (g' := gb918) (o := .cells #[.int .i64 0, .int .i64 0, .slice none 0 0] 30 (0, 0)) (bk_ BK918.out) NB918_922.out (by simp)); replace HO927 := am_ (Kd.R_mono (Kd.R_keep (IsS94.apart (show IsS94 w _ g922 t919 t938 t939 from by repeat (first | (with_reducible first | exact HI922.out | apply IsS94.alloc | apply IsS94.drewN | apply IsS94.drew | apply IsS94.set_1 | apply IsS94.set_2 | refine IsS94.far ?_ NB922_918.out _ | refine IsS94.far ?_ NB922_930.out _) | exact HI922.out)) (by (with_reducible repeat (first | apply Kd.R_alloc | apply Kd.R_drewN | apply Kd.R_drew)); exact HO927.out) (by decide)) hk (fun _ h => h.2)) (fun _ h => h.1)); replace BK930 := am_ (KeepBut.blk hk (g' := gb930) (o := .cells #[.int .i64 t923, .int .i64 t924, .slice Ao45 t925.length co45] 30 (0, 0)) (bk_ BK930.out) NB930_922.out (by simp)); replace HI922 := am_ (hi); replace HB := am_ (hb); (try clear hb); (try clear hb2); (try clear hk); (try clear hi); obtain ⟨hcz50_0, hcz50_1, hcz50_2, hfz50_0, hfz50_1, hfz50_2⟩ := bc3_ BK930.out; have hnb51 := NB918_922.out; have hnc51 := NB922_918.out; obtain ⟨hcz52_0, hcz52_1, hcz52_2, hfz52_0, hfz52_1, hfz52_2⟩ := bc3_ BK918.out))
  refine bodyPost_ret (results_ctt rfl _ _ gb918 30 #[.int .i64 t923, .int .i64 t924, .slice Ao45 t925.length co45] (0, 0) _ rfl (by (with_reducible repeat (first | refine blk_drewN ?_ _ | refine blk_drew ?_ | refine blk_alloc ?_ _)); refine blk_put (cs := #[.int .i64 t923, .int .i64 t924, .slice none 0 0]) ?_ 2 _ rfl; (with_reducible repeat (first | refine blk_drewN ?_ _ | refine blk_drew ?_ | refine blk_alloc ?_ _)); refine blk_put (cs := #[.int .i64 t923, .int .i64 0, .slice none 0 0]) ?_ 1 _ rfl; (with_reducible repeat (first | refine blk_drewN ?_ _ | refine blk_drew ?_ | refine blk_alloc ?_ _)); refine blk_put (cs := #[.int .i64 0, .int .i64 0, .slice none 0 0]) ?_ 0 _ rfl; (with_reducible repeat (first | refine blk_drewN ?_ _ | refine blk_drew ?_ | refine blk_alloc ?_ _)); exact BK918.out) Try.underlying30 rfl (by kernel_rfl)) rfl ?_
  exact ⟨_, er_, by (with_reducible repeat (first | apply Kd.R_alloc | apply Kd.R_drewN | apply Kd.R_drew)); exact Kd.R_mono (Kd.R_far (p := ⟨gb918, 2, none⟩) (Kd.R_far (p := ⟨gb918, 1, none⟩) (Kd.R_far (p := ⟨gb918, 0, none⟩) (Kd.R_types HO927.out BK918.out (by decide)) (fun _ hk => hk.2) (.int .i64 t923)) (fun _ hk => hk.2) (.int .i64 t924)) (fun _ hk => hk.2) (.slice Ao45 t925.length co45)) (fun _ hk => trivial), hb3_ HB.out (IsS94.ge HI922.out) GE918.out GE930.out⟩
def impl_RoundOf.f (k : Nat) (a0_0 : Int) (a0_1 : Int) (l0_2 : List (S42)) : Option (Int) := (impl_PlanOk.f k a0_0 a0_1 l0_2).bind fun t954 => (if t954 = true then ((impl_Plan_round.f k a0_0 a0_1 l0_2).bind fun t955 => (some t955)) else (some 0))
set_option maxHeartbeats 8000000 in
set_option maxRecDepth 100000 in
theorem impl_RoundOf.calls (k : Nat) (a0_0 : Int) (a0_1 : Int) (A0_2 : Option Addr) (c0_2 : Nat) (l0_2 : List (S42)) (r : Int) (w : World) (hr0_2 : Kd.C k42 w A0_2 l0_2.length l0_2) (hc0_2 : l0_2.length ≤ c0_2) (h : impl_RoundOf.f k a0_0 a0_1 l0_2 = some r) :
  Calls Try.prog 28 #[.agg #[.int .i64 a0_0, .int .i64 a0_1, .slice A0_2 l0_2.length c0_2]] w fun e w' => e = .returned (.int .i64 r) ∧ Below w.heap.size w w' := by
 have hu30 := Try.underlying30
 have HR0_2 := Aside0.mk hr0_2
 have HC0_2 := Aside0.mk hc0_2
 clear hr0_2 hc0_2
 have HB := am_ (Below.refl w.heap.size w)
 have H : ((impl_PlanOk.f k a0_0 a0_1 l0_2).bind fun t954 => (if t954 = true then ((impl_Plan_round.f k a0_0 a0_1 l0_2).bind fun t955 => (some t955)) else (some 0))) = some r := h
 clear h
 replace H := Option.bind_eq_some_iff.mp H
 obtain ⟨t954, A20, H⟩ := H
 replace H : (if t954 = true then ((impl_Plan_round.f k a0_0 a0_1 l0_2).bind fun t955 => (some t955)) else (some 0)) = some r := H
 have A2 := Aside0.mk A20
 clear A20
 by_cases c3 : t954 = true
 ·subst c3
  have H1 : ((impl_Plan_round.f k a0_0 a0_1 l0_2).bind fun t955 => (some t955)) = some r := by rw [if_pos rfl] at H; exact H
  clear H
  have H := H1
  clear H1
  replace H := Option.bind_eq_some_iff.mp H
  obtain ⟨t955, A40, H⟩ := H
  replace H : (some t955) = some r := H
  have A4 := Aside0.mk A40
  clear A40
  obtain rfl := Option.some.inj H
  go_enter Try.func28, Try.ntmps28
  go_wp2_with (first | ((with_reducible refine gate_dst (N := 1) rfl ?_); refine be_ (N := 1) (cs := #[.int .i64 a0_0, .int .i64 a0_1, .slice A0_2 l0_2.length c0_2]) (t := 30) ?_; intro gb953 hg w5 hbox hb; have BK953 := am_ (hbox); have GW953 := am_ (hy_ hg (hb_ HB.out) : w.heap.size ≤ gb953); have GE953 := GW953; replace HB := am_ (below_step (hb_ HB.out) hb); clear hb hbox hg; obtain ⟨hcz6_0, hcz6_1, hcz6_2, hfz6_0, hfz6_1, hfz6_2⟩ := bc3_ BK953.out) | ((with_reducible refine gate_callee (f := 34) rfl ?_); refine gl_ Try.func34 #[.agg #[.int .i64 a0_0, .int .i64 a0_1, .slice A0_2 l0_2.length c0_2]] ?_; (with_reducible refine (impl_PlanOk.calls k a0_0 a0_1 _ _ l0_2 true _ ?side1 ?side2 A2.out).mono ?_); (case side1 => exact kc_ (Kd.C_below HR0_2.out HB.out)); (case side2 => exact HC0_2.out); rintro e w7 ⟨rfl, hb⟩; refine ⟨_, rfl, ?_⟩; replace BK953 := am_ (bb_ BK953.out hb); replace HB := am_ (below_step (hb1_ HB.out GE953.out) hb); (try clear hb); (try clear hb2); (try clear hk); (try clear hi); obtain ⟨hcz8_0, hcz8_1, hcz8_2, hfz8_0, hfz8_1, hfz8_2⟩ := bc3_ BK953.out) | ((with_reducible refine gate_callee (f := 59) rfl ?_); refine gl_ Try.func59 #[.agg #[.int .i64 a0_0, .int .i64 a0_1, .slice A0_2 l0_2.length c0_2]] ?_; (with_reducible refine (impl_Plan_round.calls k a0_0 a0_1 _ _ l0_2 t955 _ ?side1 ?side2 A4.out).mono ?_); (case side1 => exact kc_ (Kd.C_below HR0_2.out HB.out)); (case side2 => exact HC0_2.out); rintro e w9 ⟨rfl, hb⟩; refine ⟨_, rfl, ?_⟩; replace BK953 := am_ (bb_ BK953.out hb); replace HB := am_ (below_step (hb1_ HB.out GE953.out) hb); (try clear hb); (try clear hb2); (try clear hk); (try clear hi)))
  go_ret
  exact ⟨er_, hb1_ HB.out GE953.out⟩
 ·replace c3 := Bool.eq_false_iff.mpr c3
  subst c3
  have H1 : (some 0) = some r := by rw [if_neg (show ¬ (false = true) by decide)] at H; exact H
  clear H
  have H := H1
  clear H1
  obtain rfl := Option.some.inj H
  go_enter Try.func28, Try.ntmps28
  go_wp2_with (first | ((with_reducible refine gate_dst (N := 1) rfl ?_); refine be_ (N := 1) (cs := #[.int .i64 a0_0, .int .i64 a0_1, .slice A0_2 l0_2.length c0_2]) (t := 30) ?_; intro gb953 hg w10 hbox hb; have BK953 := am_ (hbox); have GW953 := am_ (hy_ hg (hb_ HB.out) : w.heap.size ≤ gb953); have GE953 := GW953; replace HB := am_ (below_step (hb_ HB.out) hb); clear hb hbox hg; obtain ⟨hcz11_0, hcz11_1, hcz11_2, hfz11_0, hfz11_1, hfz11_2⟩ := bc3_ BK953.out) | ((with_reducible refine gate_callee (f := 34) rfl ?_); refine gl_ Try.func34 #[.agg #[.int .i64 a0_0, .int .i64 a0_1, .slice A0_2 l0_2.length c0_2]] ?_; (with_reducible refine (impl_PlanOk.calls k a0_0 a0_1 _ _ l0_2 false _ ?side1 ?side2 A2.out).mono ?_); (case side1 => exact kc_ (Kd.C_below HR0_2.out HB.out)); (case side2 => exact HC0_2.out); rintro e w12 ⟨rfl, hb⟩; refine ⟨_, rfl, ?_⟩; replace BK953 := am_ (bb_ BK953.out hb); replace HB := am_ (below_step (hb1_ HB.out GE953.out) hb); (try clear hb); (try clear hb2); (try clear hk); (try clear hi)))
  go_ret
  exact ⟨er_, hb1_ HB.out GE953.out⟩
end Go.Proofs.Ytllpmpfchidhoaa.P
namespace Go.Proofs.Ytllpmpfchidhoaa.P
open Go.RowKit Go.Proofs.YtllpmpfchidhoaaW.PrintWords Go.Proofs.YtllpmpfchidhoaaW.PrintLast Go.Proofs.YtllpmpfchidhoaaW.PrintMore
attribute [local go_sem] max2_int min2_int max_two min_two max_three min_three max_four min_four
set_option linter.unusedVariables false
set_option linter.unusedSimpArgs false
mutual
def impl_SlotAt.j0 : Nat → Int → Bool → Int → Int → List (S42) → Option (Int × Int × Bool)
 | 0, _, _, _, _, _ => none
 | k + 1, x1, x26, x448000, x448001, x448002 => if x26 = true then (some (0, 0, false)) else ((impl_Plan_round.f k x448000 x448001 x448002).bind fun t450 => (if t450 = 0 then (none) else ((impl_Plan_round.f k x448000 x448001 x448002).bind fun t451 => (if t451 = 0 then (none) else (impl_SlotAt.l0 k (wrap64 (Int.tdiv (wrap64 (x1 - x448000)) t450)) (Int.tmod (wrap64 (x1 - x448000)) t451) x448002 (x448002.length : Int) 0 x448000 x448001 x448002)))))
def impl_SlotAt.l0 : Nat → Int → Int → List (S42) → Int → Int → Int → Int → List (S42) → Option (Int × Int × Bool)
 | 0, _, _, _, _, _, _, _, _ => none
 | k + 1, x7, x8, x42, x43, x44, x448000, x448001, x448002 => if x44 < x43 then (if 0 ≤ x44 then (if x44 < (x42.length : Int) then ((impl_Plan_from.f k x448000 x448001 x448002 x44).bind fun t454 => ((impl_Plan_from.f k x448000 x448001 x448002 x44).bind fun t455 => ((impl_in.f x8 t454 (wrap64 ((wrap64 (t455 + ((rd_T42 x42 x44).f1))) - 1))).bind fun t456 => (if t456 = true then ((impl_Occurrence.f k x448000 x448001 x448002 x44 x7).bind fun bt457 => (if bt457.2.2 = true then (some (x44, x7, true)) else (some (0, 0, false)))) else (impl_SlotAt.l0 k x7 x8 x42 x43 (wrap64 (x44 + 1)) x448000 x448001 x448002))))) else (none)) else (none)) else (some (0, 0, false))
end
def impl_SlotAt.f (k : Nat) (a0_0 : Int) (a0_1 : Int) (l0_2 : List (S42)) (a1 : Int) : Option (Int × Int × Bool) := (impl_PlanOk.f k a0_0 a0_1 l0_2).bind fun t448 => (if t448 = true then ((impl_isTime.f a1).bind fun t449 => (if t449 = true then (impl_SlotAt.j0 k a1 (decide (a1 < a0_0)) a0_0 a0_1 l0_2) else (impl_SlotAt.j0 k a1 true a0_0 a0_1 l0_2))) else (impl_SlotAt.j0 k a1 true a0_0 a0_1 l0_2))
def impl_SlotAt.T3 : Bool × List (List Nat × List Nat) := (true, [([], []), ([], []), ([1], [1]), ([0, 2], [0, 2]), ([], []), ([4], [4]), ([3, 5], [3, 5]), ([], []), ([], []), ([8], [8]), ([7, 9], [7, 9]), ([], []), ([11, 5], [11]), ([10, 12], [10, 12]), ([6, 12, 0, 1, 2, 3, 4, 5, 6], [6]), ([13, 14, 0, 1, 2, 3, 4, 5, 6, 7, 8, 9, 10, 11, 12, 13, 14], [13])])
def impl_SlotAt.B3 : List Nat := [0, 0, 2, 7, 0, 16, 63, 0, 0, 256, 896, 0, 2096, 8112, 6271, 32767]
theorem impl_SlotAt.tab3 : rtab .any (opsOf Try.f29 3) = impl_SlotAt.T3 := by kernel_rfl
theorem impl_SlotAt.bits3 : waitsOk impl_SlotAt.T3.2 impl_SlotAt.B3 = true := by kernel_rfl
def impl_SlotAt.T7 : Bool × List (List Nat × List Nat) := (true, [([], []), ([], []), ([], []), ([1, 2], [1, 2]), ([], []), ([], []), ([4, 5, 3], [4, 5]), ([], []), ([7], [7]), ([6, 8], [6, 8]), ([9], [9]), ([0, 3, 10, 6], [0, 3, 10])])
def impl_SlotAt.B7 : List Nat := [0, 0, 0, 6, 0, 0, 62, 0, 128, 510, 1022, 2047]
theorem impl_SlotAt.tab7 : rtab .any (opsOf Try.f29 7) = impl_SlotAt.T7 := by kernel_rfl
theorem impl_SlotAt.bits7 : waitsOk impl_SlotAt.T7.2 impl_SlotAt.B7 = true := by kernel_rfl
set_option maxHeartbeats 8000000 in
set_option maxRecDepth 100000 in
theorem impl_SlotAt.calls (k : Nat) (a0_0 : Int) (a0_1 : Int) (A0_2 : Option Addr) (c0_2 : Nat) (l0_2 : List (S42)) (a1 : Int) (r1 : Int) (r2 : Int) (r3 : Bool) (w : World) (hr0_2 : Kd.C k42 w A0_2 l0_2.length l0_2) (hc0_2 : l0_2.length ≤ c0_2) (h : impl_SlotAt.f k a0_0 a0_1 l0_2 a1 = some (r1, r2, r3)) :
  Calls Try.prog 29 #[.agg #[.int .i64 a0_0, .int .i64 a0_1, .slice A0_2 l0_2.length c0_2], .int .i64 a1] w fun e w' => e = .returned (.tuple #[.int .i64 r1, .int .i64 r2, .bool r3]) ∧ Below w.heap.size w w' := by
 have hu30 := Try.underlying30
 have hu42 := Try.underlying42
 have hu25 := Try.underlying25
 have HR0_2 := Aside0.mk hr0_2
 have HC0_2 := Aside0.mk hc0_2
 clear hr0_2 hc0_2
 have HB := am_ (Below.refl w.heap.size w)
 have H : ((impl_PlanOk.f k a0_0 a0_1 l0_2).bind fun t448 => (if t448 = true then ((impl_isTime.f a1).bind fun t449 => (if t449 = true then (impl_SlotAt.j0 k a1 (decide (a1 < a0_0)) a0_0 a0_1 l0_2) else (impl_SlotAt.j0 k a1 true a0_0 a0_1 l0_2))) else (impl_SlotAt.j0 k a1 true a0_0 a0_1 l0_2))) = some (r1, r2, r3) := h
 clear h
 have HC3 := Aside0.mk H
 clear H
 go_enter Try.func29, Try.ntmps29
 go_upto_region 1 with (first | ((with_reducible refine gate_dst (N := 2) rfl ?_); refine be_ (N := 2) (cs := #[.int .i64 a0_0, .int .i64 a0_1, .slice A0_2 l0_2.length c0_2]) (t := 30) ?_; intro gb447 hg w4 hbox hb; have BK447 := am_ (hbox); have GW447 := am_ (hy_ hg (hb_ HB.out) : w.heap.size ≤ gb447); have GE447 := GW447; replace HB := am_ (below_step (hb_ HB.out) hb); clear hb hbox hg))
 (try simp only [Act.put, List.setIfInBounds_toArray, List.set_cons_zero, List.set_cons_succ])
 go_cut [26] (fun v26 wc => ∃ (kq : Nat) (x26_2 : Bool), v26 = .bool x26_2 ∧ Aside0 (impl_SlotAt.j0 kq a1 x26_2 a0_0 a0_1 l0_2 = some (r1, r2, r3)) ∧ Aside0 (kq ≤ k) ∧ Aside0 (wc.heap[gb447]? = some (.cells #[.int .i64 a0_0, .int .i64 a0_1, (.slice A0_2 l0_2.length c0_2)] 30 (0, 0))) ∧ Aside0 (Below w.heap.size w wc))
 case first =>
  have H := HC3.out
  clear HC3
  replace H := Option.bind_eq_some_iff.mp H
  obtain ⟨t448, A50, H⟩ := H
  replace H : (if t448 = true then ((impl_isTime.f a1).bind fun t449 => (if t449 = true then (impl_SlotAt.j0 k a1 (decide (a1 < a0_0)) a0_0 a0_1 l0_2) else (impl_SlotAt.j0 k a1 true a0_0 a0_1 l0_2))) else (impl_SlotAt.j0 k a1 true a0_0 a0_1 l0_2)) = some (r1, r2, r3) := H
  have A5 := Aside0.mk A50
  clear A50
  by_cases c6 : t448 = true
  ·subst c6
   have H1 : ((impl_isTime.f a1).bind fun t449 => (if t449 = true then (impl_SlotAt.j0 k a1 (decide (a1 < a0_0)) a0_0 a0_1 l0_2) else (impl_SlotAt.j0 k a1 true a0_0 a0_1 l0_2))) = some (r1, r2, r3) := by rw [if_pos rfl] at H; exact H
   clear H
   have H := H1
   clear H1
   replace H := Option.bind_eq_some_iff.mp H
   obtain ⟨t449, A70, H⟩ := H
   replace H : (if t449 = true then (impl_SlotAt.j0 k a1 (decide (a1 < a0_0)) a0_0 a0_1 l0_2) else (impl_SlotAt.j0 k a1 true a0_0 a0_1 l0_2)) = some (r1, r2, r3) := H
   have A7 := Aside0.mk A70
   clear A70
   by_cases c8 : t449 = true
   ·subst c8
    have H1 : (impl_SlotAt.j0 k a1 (decide (a1 < a0_0)) a0_0 a0_1 l0_2) = some (r1, r2, r3) := by rw [if_pos rfl] at H; exact H
    clear H
    have H := H1
    clear H1
    have H' := Aside0.mk H
    clear H
    have hcz9_0 := bc_ BK447.out 0 (.int .i64 a0_0) rfl
    have hcz9_1 := bc_ BK447.out 1 (.int .i64 a0_1) rfl
    have hcz9_2 := bc_ BK447.out 2 (.slice A0_2 l0_2.length c0_2) rfl
    have hfz9_0 := blk_frozen BK447.out 0
    have hfz9_1 := blk_frozen BK447.out 1
    have hfz9_2 := blk_frozen BK447.out 2
    go_wp2_with (first | ((with_reducible refine gate_callee (f := 34) rfl ?_); refine gl_ Try.func34 #[.agg #[.int .i64 a0_0, .int .i64 a0_1, .slice A0_2 l0_2.length c0_2]] ?_; (with_reducible refine (impl_PlanOk.calls k a0_0 a0_1 _ _ l0_2 true _ ?side1 ?side2 A5.out).mono ?_); (case side1 => exact kc_ (Kd.C_below HR0_2.out HB.out)); (case side2 => exact HC0_2.out); rintro e w10 ⟨rfl, hb⟩; refine ⟨_, rfl, ?_⟩; replace BK447 := am_ (bb_ BK447.out hb); replace HB := am_ (below_step (hb1_ HB.out GE447.out) hb); (try clear hb); (try clear hb2); (try clear hk); (try clear hi)) | (go_at_call 69; (with_reducible refine (impl_isTime.calls a1 true _ A7.out).mono ?_); rintro e w' ⟨rfl, ⟨nd, rfl⟩⟩; obtain ⟨hcz11_0, hcz11_1, hcz11_2, hfz11_0, hfz11_1, hfz11_2⟩ := bc3_ BK447.out))
    go_meet
    case rel => exact ⟨_, (decide (a1 < a0_0)), (by first | rfl | (simp; done) | (simp [*]; done)), H', ⟨by first | omega | exact Nat.le_refl _⟩, ⟨bk_ BK447.out⟩, ⟨hb1_ HB.out GE447.out⟩⟩
   ·replace c8 := Bool.eq_false_iff.mpr c8
    subst c8
    have H1 : (impl_SlotAt.j0 k a1 true a0_0 a0_1 l0_2) = some (r1, r2, r3) := by rw [if_neg (show ¬ (false = true) by decide)] at H; exact H
    clear H
    have H := H1
    clear H1
    have H' := Aside0.mk H
    clear H
    have hcz12_0 := bc_ BK447.out 0 (.int .i64 a0_0) rfl
    have hcz12_1 := bc_ BK447.out 1 (.int .i64 a0_1) rfl
    have hcz12_2 := bc_ BK447.out 2 (.slice A0_2 l0_2.length c0_2) rfl
    have hfz12_0 := blk_frozen BK447.out 0
    have hfz12_1 := blk_frozen BK447.out 1
    have hfz12_2 := blk_frozen BK447.out 2
    go_wp2_with (first | ((with_reducible refine gate_callee (f := 34) rfl ?_); refine gl_ Try.func34 #[.agg #[.int .i64 a0_0, .int .i64 a0_1, .slice A0_2 l0_2.length c0_2]] ?_; (with_reducible refine (impl_PlanOk.calls k a0_0 a0_1 _ _ l0_2 true _ ?side1 ?side2 A5.out).mono ?_); (case side1 => exact kc_ (Kd.C_below HR0_2.out HB.out)); (case side2 => exact HC0_2.out); rintro e w13 ⟨rfl, hb⟩; refine ⟨_, rfl, ?_⟩; replace BK447 := am_ (bb_ BK447.out hb); replace HB := am_ (below_step (hb1_ HB.out GE447.out) hb); (try clear hb); (try clear hb2); (try clear hk); (try clear hi)) | (go_at_call 69; (with_reducible refine (impl_isTime.calls a1 false _ A7.out).mono ?_); rintro e w' ⟨rfl, ⟨nd, rfl⟩⟩))
    go_meet
    case rel => exact ⟨_, (true), (by first | rfl | (simp; done) | (simp [*]; done)), H', ⟨by first | omega | exact Nat.le_refl _⟩, ⟨bk_ BK447.out⟩, ⟨hb1_ HB.out GE447.out⟩⟩
  ·replace c6 := Bool.eq_false_iff.mpr c6
   subst c6
   have H1 : (impl_SlotAt.j0 k a1 true a0_0 a0_1 l0_2) = some (r1, r2, r3) := by rw [if_neg (show ¬ (false = true) by decide)] at H; exact H
   clear H
   have H := H1
   clear H1
   have H' := Aside0.mk H
   clear H
   have hcz14_0 := bc_ BK447.out 0 (.int .i64 a0_0) rfl
   have hcz14_1 := bc_ BK447.out 1 (.int .i64 a0_1) rfl
   have hcz14_2 := bc_ BK447.out 2 (.slice A0_2 l0_2.length c0_2) rfl
   have hfz14_0 := blk_frozen BK447.out 0
   have hfz14_1 := blk_frozen BK447.out 1
   have hfz14_2 := blk_frozen BK447.out 2
   go_wp2_with (first | ((with_reducible refine gate_callee (f := 34) rfl ?_); refine gl_ Try.func34 #[.agg #[.int .i64 a0_0, .int .i64 a0_1, .slice A0_2 l0_2.length c0_2]] ?_; (with_reducible refine (impl_PlanOk.calls k a0_0 a0_1 _ _ l0_2 false _ ?side1 ?side2 A5.out).mono ?_); (case side1 => exact kc_ (Kd.C_below HR0_2.out HB.out)); (case side2 => exact HC0_2.out); rintro e w15 ⟨rfl, hb⟩; refine ⟨_, rfl, ?_⟩; replace BK447 := am_ (bb_ BK447.out hb); replace HB := am_ (below_step (hb1_ HB.out GE447.out) hb); (try clear hb); (try clear hb2); (try clear hk); (try clear hi)))
   go_meet
   case rel => exact ⟨_, (true), (by first | rfl | (simp; done) | (simp [*]; done)), H', ⟨by first | omega | exact Nat.le_refl _⟩, ⟨bk_ BK447.out⟩, ⟨hb1_ HB.out GE447.out⟩⟩
 case rest =>
  clear HC3
  try clear c2
  try clear p2
  try clear c3
  try clear c6
  try clear c8
  try clear hcz11_0
  try clear hcz11_1
  try clear hcz11_2
  try clear hcz12_0
  try clear hcz12_1
  try clear hcz12_2
  try clear hcz14_0
  try clear hcz14_1
  try clear hcz14_2
  try clear hcz9_0
  try clear hcz9_1
  try clear hcz9_2
  try clear hfz11_0
  try clear hfz11_1
  try clear hfz11_2
  try clear hfz12_0
  try clear hfz12_1
  try clear hfz12_2
  try clear hfz14_0
  try clear hfz14_1
  try clear hfz14_2
  try clear hfz9_0
  try clear hfz9_1
  try clear hfz9_2
  obtain ⟨kq, x26_2, rfl, HA, HJ2, BK447, HB⟩ := hcut
  cases kq with
  | zero => exact absurd HA.out (by simp [impl_SlotAt.j0])
  | succ kj2 =>
   have H := HA.out
   clear HA
   simp only [impl_SlotAt.j0] at H
   by_cases c16 : x26_2 = true
   ·subst c16
    have H1 : (some (0, 0, false)) = some (r1, r2, r3) := by rw [if_pos rfl] at H; exact H
    clear H
    have H := H1
    clear H1
    simp only [Option.some.injEq, Prod.mk.injEq] at H
    obtain ⟨rfl, rfl, rfl⟩ := H
    go_wp2
    go_ret3
    exact ⟨er_, hb1_ HB.out GE447.out⟩
   ·replace c16 := Bool.eq_false_iff.mpr c16
    subst c16
    have H1 : ((impl_Plan_round.f kj2 a0_0 a0_1 l0_2).bind fun t450 => (if t450 = 0 then (none) else ((impl_Plan_round.f kj2 a0_0 a0_1 l0_2).bind fun t451 => (if t451 = 0 then (none) else (impl_SlotAt.l0 kj2 (wrap64 (Int.tdiv (wrap64 (a1 - a0_0)) t450)) (Int.tmod (wrap64 (a1 - a0_0)) t451) l0_2 (l0_2.length : Int) 0 a0_0 a0_1 l0_2))))) = some (r1, r2, r3) := by rw [if_neg (show ¬ (false = true) by decide)] at H; exact H
    clear H
    have H := H1
    clear H1
    replace H := Option.bind_eq_some_iff.mp H
    obtain ⟨t450, A170, H⟩ := H
    replace H : (if t450 = 0 then (none) else ((impl_Plan_round.f kj2 a0_0 a0_1 l0_2).bind fun t451 => (if t451 = 0 then (none) else (impl_SlotAt.l0 kj2 (wrap64 (Int.tdiv (wrap64 (a1 - a0_0)) t450)) (Int.tmod (wrap64 (a1 - a0_0)) t451) l0_2 (l0_2.length : Int) 0 a0_0 a0_1 l0_2)))) = some (r1, r2, r3) := H
    have A17 := Aside0.mk A170
    clear A170
    by_cases c18 : t450 = 0
    ·rw [if_pos c18] at H
     exact absurd H (by simp)
    ·rw [if_neg c18] at H
     have c18b0 : (t450 == 0) = false := beq_eq_false_iff_ne.mpr c18
     have c18b1 : (t450 != 0) = true := bne_iff_ne.mpr c18
     replace H := Option.bind_eq_some_iff.mp H
     obtain ⟨t451, A190, H⟩ := H
     replace H : (if t451 = 0 then (none) else (impl_SlotAt.l0 kj2 (wrap64 (Int.tdiv (wrap64 (a1 - a0_0)) t450)) (Int.tmod (wrap64 (a1 - a0_0)) t451) l0_2 (l0_2.length : Int) 0 a0_0 a0_1 l0_2)) = some (r1, r2, r3) := H
     have A19 := Aside0.mk A190
     clear A190
     by_cases c20 : t451 = 0
     ·rw [if_pos c20] at H
      exact absurd H (by simp)
     ·rw [if_neg c20] at H
      have c20b0 : (t451 == 0) = false := beq_eq_false_iff_ne.mpr c20
      have c20b1 : (t451 != 0) = true := bne_iff_ne.mpr c20
      have H' := Aside0.mk H
      clear H
      try go_wp2
      have n0_ := am_ (blk_drew BK447.out)
      have n1_ := am_ (below_drew1 HB.out)
      clear BK447
      clear HB
      have BK447 := n0_
      have HB := n1_
      clear n0_ n1_
      refine start_ (n := 16) (S := fun w' => w'.cell? ⟨gb447, 0, none⟩ = some (.int .i64 a0_0) ∧ w'.cell? ⟨gb447, 1, none⟩ = some (.int .i64 a0_1) ∧ w'.cell? ⟨gb447, 2, none⟩ = some (.slice A0_2 l0_2.length c0_2)) (ds := []) #[false, false, false, false, false, false, false, false, false, false, false, false, false, false, false, false] (by kernel_rfl) rfl rfl ⟨(blk_cell BK447.out 0).trans rfl, (blk_cell BK447.out 1).trans rfl, (blk_cell BK447.out 2).trans rfl⟩ (fun hHeld => ?_); refine with_tabW impl_SlotAt.tab3 impl_SlotAt.bits3 (fun HT_ HW_ => ?_)
      generalize wc.drew = w21 at BK447 HB hHeld ⊢
      refine pure_ (i := 0) (N := some 27) (v := ?_) (a' := ?_) #[true, false, false, false, false, false, false, false, false, false, false, false, false, false, false, false] rfl rfl (any_of HT_.out (by kernel_rfl)) (fun _ _ _ h => h) (Or.inl ⟨by rfl, ?_⟩) ?_ ?_
      rotate_left
      ·intro w'
       go_simp
       with_reducible rfl
      rotate_left
      ·simp only [Act.put, List.setIfInBounds_toArray, List.set_cons_zero, List.set_cons_succ, i64_w, i32_w]
       rfl
      refine pure_ (i := 1) (N := some 28) (v := ?_) (a' := ?_) #[true, true, false, false, false, false, false, false, false, false, false, false, false, false, false, false] rfl rfl (any_of HT_.out (by kernel_rfl)) (fun _ _ _ h => h) (Or.inl ⟨by rfl, ?_⟩) ?_ ?_
      rotate_left
      ·intro w'
       go_simp
       with_reducible rfl
      rotate_left
      ·simp only [Act.put, List.setIfInBounds_toArray, List.set_cons_zero, List.set_cons_succ, i64_w, i32_w]
       rfl
      refine pure_ (i := 7) (N := some 34) (v := ?_) (a' := ?_) #[true, true, false, false, false, false, false, true, false, false, false, false, false, false, false, false] rfl rfl (any_of HT_.out (by kernel_rfl)) (fun _ _ _ h => h) (Or.inl ⟨by rfl, ?_⟩) ?_ ?_
      rotate_left
      ·intro w'
       go_simp
       with_reducible rfl
      rotate_left
      ·simp only [Act.put, List.setIfInBounds_toArray, List.set_cons_zero, List.set_cons_succ, i64_w, i32_w]
       rfl
      refine pure_ (i := 8) (N := some 35) (v := ?_) (a' := ?_) #[true, true, false, false, false, false, false, true, true, false, false, false, false, false, false, false] rfl rfl (any_of HT_.out (by kernel_rfl)) (fun _ _ _ h => h) (Or.inl ⟨by rfl, ?_⟩) ?_ ?_
      rotate_left
      ·intro w'
       go_simp
       with_reducible rfl
      rotate_left
      ·simp only [Act.put, List.setIfInBounds_toArray, List.set_cons_zero, List.set_cons_succ, i64_w, i32_w]
       rfl
      refine take_ (i := 2) (N := some 29) (v := ?_) (a' := ?_) #[true, true, true, false, false, false, false, true, true, false, false, false, false, false, false, false] rfl rfl (take_ofW HT_.out HW_.out (by kernel_rfl)) (fun _ _ _ h => h) (Or.inl ⟨by rfl, ?_⟩) hHeld ?_ ?_
      rotate_left
      ·rintro w' ⟨s0, s1, s2⟩
       go_simp
       with_reducible rfl
      rotate_left
      ·simp only [Act.put, List.setIfInBounds_toArray, List.set_cons_zero, List.set_cons_succ, i64_w, i32_w]
       rfl
      refine pure_ (i := 3) (N := some 30) (v := ?_) (a' := ?_) #[true, true, true, true, false, false, false, true, true, false, false, false, false, false, false, false] rfl rfl (any_of HT_.out (by kernel_rfl)) (fun _ _ _ h => h) (Or.inl ⟨by rfl, ?_⟩) ?_ ?_
      rotate_left
      ·intro w'
       go_simp
       with_reducible rfl
      rotate_left
      ·simp only [Act.put, List.setIfInBounds_toArray, List.set_cons_zero, List.set_cons_succ, i64_w, i32_w]
       rfl
      refine take_ (i := 4) (N := some 31) (v := ?_) (a' := ?_) #[true, true, true, true, true, false, false, true, true, false, false, false, false, false, false, false] rfl rfl (take_ofW HT_.out HW_.out (by kernel_rfl)) (fun _ _ _ h => h) (Or.inl ⟨by rfl, ?_⟩) hHeld ?_ ?_
      rotate_left
      ·rintro w' ⟨s0, s1, s2⟩
       go_simp
       with_reducible rfl
      rotate_left
      ·simp only [Act.put, List.setIfInBounds_toArray, List.set_cons_zero, List.set_cons_succ, i64_w, i32_w]
       rfl
      refine take_ (i := 9) (N := some 36) (v := ?_) (a' := ?_) #[true, true, true, true, true, false, false, true, true, true, false, false, false, false, false, false] rfl rfl (take_ofW HT_.out HW_.out (by kernel_rfl)) (fun _ _ _ h => h) (Or.inl ⟨by rfl, ?_⟩) hHeld ?_ ?_
      rotate_left
      ·rintro w' ⟨s0, s1, s2⟩
       go_simp
       with_reducible rfl
      rotate_left
      ·simp only [Act.put, List.setIfInBounds_toArray, List.set_cons_zero, List.set_cons_succ, i64_w, i32_w]
       rfl
      refine pure_ (i := 10) (N := some 37) (v := ?_) (a' := ?_) #[true, true, true, true, true, false, false, true, true, true, true, false, false, false, false, false] rfl rfl (any_of HT_.out (by kernel_rfl)) (fun _ _ _ h => h) (Or.inl ⟨by rfl, ?_⟩) ?_ ?_
      rotate_left
      ·intro w'
       go_simp
       with_reducible rfl
      rotate_left
      ·simp only [Act.put, List.setIfInBounds_toArray, List.set_cons_zero, List.set_cons_succ, i64_w, i32_w]
       rfl
      refine take_ (i := 11) (N := some 38) (v := ?_) (a' := ?_) #[true, true, true, true, true, false, false, true, true, true, true, true, false, false, false, false] rfl rfl (take_ofW HT_.out HW_.out (by kernel_rfl)) (fun _ _ _ h => h) (Or.inl ⟨by rfl, ?_⟩) hHeld ?_ ?_
      rotate_left
      ·rintro w' ⟨s0, s1, s2⟩
       go_simp
       with_reducible rfl
      rotate_left
      ·simp only [Act.put, List.setIfInBounds_toArray, List.set_cons_zero, List.set_cons_succ, i64_w, i32_w]
       rfl
      refine one_ (i := 5) (N := some 32) #[true, true, true, true, true, true, false, true, true, true, true, true, false, false, false, false] rfl rfl (one_of HT_.out (by kernel_rfl)) (by decide) (fun K hK => ?_)
      refine goes_ Try.func59 (by kernel_rfl) rfl #[.agg #[.int .i64 a0_0, .int .i64 a0_1, .slice A0_2 l0_2.length c0_2]] (by rfl) rfl rfl arr_ ?_
      with_reducible refine (impl_Plan_round.calls kj2 a0_0 a0_1 _ _ l0_2 t450 _ ?side1 ?side2 A17.out).mono ?_
      (case side1 => exact kc_ (Kd.C_below HR0_2.out HB.out))
      (case side2 => exact HC0_2.out)
      rintro e w22 ⟨rfl, hb⟩
      refine ⟨_, rfl, ?_⟩
      have n0_ := am_ (bb_ BK447.out hb)
      have n1_ := am_ (below_step (hb1_ HB.out GE447.out) hb)
      clear BK447
      clear HB
      have BK447 := n0_
      have HB := n1_
      clear n0_ n1_
      (try clear hb)
      (try clear hb2)
      (try clear hk)
      (try clear hi)
      refine hK.out _ _ ⟨(blk_cell BK447.out 0).trans rfl, (blk_cell BK447.out 1).trans rfl, (blk_cell BK447.out 2).trans rfl⟩ (fun hHeld => ?_)
      clear hK K
      refine norm_ (a' := ?_) ?_ ?_
      rotate_left
      ·show Act.put _ (some 32) _ = _
       simp only [Act.put, List.setIfInBounds_toArray, List.set_cons_zero, List.set_cons_succ, i64_w, i32_w]
       rfl
      refine pure_ (i := 6) (N := some 33) (v := ?_) (a' := ?_) #[true, true, true, true, true, true, true, true, true, true, true, true, false, false, false, false] rfl rfl (any_of HT_.out (by kernel_rfl)) (fun _ _ _ h => h) (Or.inl ⟨by rfl, ?_⟩) ?_ ?_
      rotate_left
      ·intro w'
       go_simp
       with_reducible rfl
      rotate_left
      ·simp only [Act.put, List.setIfInBounds_toArray, List.set_cons_zero, List.set_cons_succ, i64_w, i32_w]
       rfl
      refine one_ (i := 12) (N := some 39) #[true, true, true, true, true, true, true, true, true, true, true, true, true, false, false, false] rfl rfl (one_of HT_.out (by kernel_rfl)) (by decide) (fun K hK => ?_)
      refine goes_ Try.func59 (by kernel_rfl) rfl #[.agg #[.int .i64 a0_0, .int .i64 a0_1, .slice A0_2 l0_2.length c0_2]] (by rfl) rfl rfl arr_ ?_
      with_reducible refine (impl_Plan_round.calls kj2 a0_0 a0_1 _ _ l0_2 t451 _ ?side1 ?side2 A19.out).mono ?_
      (case side1 => exact kc_ (Kd.C_below HR0_2.out HB.out))
      (case side2 => exact HC0_2.out)
      rintro e w23 ⟨rfl, hb⟩
      refine ⟨_, rfl, ?_⟩
      have n0_ := am_ (bb_ BK447.out hb)
      have n1_ := am_ (below_step (hb1_ HB.out GE447.out) hb)
      clear BK447
      clear HB
      have BK447 := n0_
      have HB := n1_
      clear n0_ n1_
      (try clear hb)
      (try clear hb2)
      (try clear hk)
      (try clear hi)
      refine hK.out _ _ ⟨(blk_cell BK447.out 0).trans rfl, (blk_cell BK447.out 1).trans rfl, (blk_cell BK447.out 2).trans rfl⟩ (fun hHeld => ?_)
      clear hK K
      refine norm_ (a' := ?_) ?_ ?_
      rotate_left
      ·show Act.put _ (some 39) _ = _
       simp only [Act.put, List.setIfInBounds_toArray, List.set_cons_zero, List.set_cons_succ, i64_w, i32_w]
       rfl
      refine pure_ (i := 13) (N := some 40) (v := ?_) (a' := ?_) #[true, true, true, true, true, true, true, true, true, true, true, true, true, true, false, false] rfl rfl (any_of HT_.out (by kernel_rfl)) (fun _ _ _ h => h) (Or.inl ⟨by rfl, ?_⟩) ?_ ?_
      rotate_left
      ·intro w'
       go_simp
       with_reducible rfl
      rotate_left
      ·simp only [Act.put, List.setIfInBounds_toArray, List.set_cons_zero, List.set_cons_succ, i64_w, i32_w]
       rfl
      refine pure_ (i := 14) (N := some 7) (v := ?_) (a' := ?_) #[true, true, true, true, true, true, true, true, true, true, true, true, true, true, true, false] rfl rfl (any_of HT_.out (by kernel_rfl)) (fun _ _ _ h => h) (Or.inl ⟨by rfl, ?_⟩) ?_ ?_
      rotate_left
      ·intro w'
       go_simp
       with_reducible rfl
      rotate_left
      ·simp only [Act.put, List.setIfInBounds_toArray, List.set_cons_zero, List.set_cons_succ, i64_w, i32_w]
       rfl
      refine pure_ (i := 15) (N := some 8) (v := ?_) (a' := ?_) #[true, true, true, true, true, true, true, true, true, true, true, true, true, true, true, true] rfl rfl (any_of HT_.out (by kernel_rfl)) (fun _ _ _ h => h) (Or.inl ⟨by rfl, ?_⟩) ?_ ?_
      rotate_left
      ·intro w'
       go_simp
       with_reducible rfl
      rotate_left
      ·simp only [Act.put, List.setIfInBounds_toArray, List.set_cons_zero, List.set_cons_succ, i64_w, i32_w]
       rfl
      refine done_ (done_of HT_.out (by kernel_rfl)) ?_
      have hcz24_0 := bc_ BK447.out 0 (.int .i64 a0_0) rfl
      have hcz24_1 := bc_ BK447.out 1 (.int .i64 a0_1) rfl
      have hcz24_2 := bc_ BK447.out 2 (.slice A0_2 l0_2.length c0_2) rfl
      have hfz24_0 := blk_frozen BK447.out 0
      have hfz24_1 := blk_frozen BK447.out 1
      have hfz24_2 := blk_frozen BK447.out 2
      try go_wp2
      go_loopg [44] kj2 (fun kq v44 w' => ∃ (x44_2 : Int), v44 = .int .i64 x44_2 ∧ Aside0 (impl_SlotAt.l0 kq (wrap64 (Int.tdiv (wrap64 (a1 - a0_0)) t450)) (Int.tmod (wrap64 (a1 - a0_0)) t451) l0_2 (l0_2.length : Int) x44_2 a0_0 a0_1 l0_2 = some (r1, r2, r3)) ∧ Aside0 (kq ≤ kj2) ∧ Aside0 (w'.heap[gb447]? = some (.cells #[.int .i64 a0_0, .int .i64 a0_1, (.slice A0_2 l0_2.length c0_2)] 30 (0, 0))) ∧ Aside0 (Below w.heap.size w w'))
      case atStart => exact ⟨(0), (by first | rfl | (simp; done) | (simp [*]; done)), H', ⟨Nat.le_refl _⟩, ⟨bk_ BK447.out⟩, ⟨hb1_ HB.out GE447.out⟩⟩
      case round =>
       clear H'
       try clear c1
       try clear c2
       try clear p2
       try clear c3
       try clear c5
       try clear c6
       try clear p6
       try clear c8
       try clear c16
       try clear c18
       try clear c18b0
       try clear c18b1
       try clear c20
       try clear c20b0
       try clear c20b1
       try clear hcz11_0
       try clear hcz11_1
       try clear hcz11_2
       try clear hcz12_0
       try clear hcz12_1
       try clear hcz12_2
       try clear hcz14_0
       try clear hcz14_1
       try clear hcz14_2
       try clear hcz24_0
       try clear hcz24_1
       try clear hcz24_2
       try clear hcz9_0
       try clear hcz9_1
       try clear hcz9_2
       try clear hfz11_0
       try clear hfz11_1
       try clear hfz11_2
       try clear hfz12_0
       try clear hfz12_1
       try clear hfz12_2
       try clear hfz14_0
       try clear hfz14_1
       try clear hfz14_2
       try clear hfz24_0
       try clear hfz24_1
       try clear hfz24_2
       try clear hfz9_0
       try clear hfz9_1
       try clear hfz9_2
       try clear p2
       obtain ⟨x44_2, rfl, HA, HK2, BK447, HB⟩ := hrel
       cases gk with
       | zero => exact absurd HA.out (by simp [impl_SlotAt.l0])
       | succ k2 =>
        have H := HA.out
        clear HA
        simp only [impl_SlotAt.l0] at H
        by_cases c25 : x44_2 < (l0_2.length : Int)
        ·rw [if_pos c25] at H
         have c25b0 : decide (x44_2 < (l0_2.length : Int)) = true := decide_eq_true c25
         clear c25
         by_cases c26 : 0 ≤ x44_2
         ·rw [if_pos c26] at H
          have c26b0 : decide (0 ≤ x44_2) = true := decide_eq_true c26
          clear c26
          by_cases c27 : x44_2 < (l0_2.length : Int)
          ·rw [if_pos c27] at H
           have c27b0 : decide (x44_2 < (l0_2.length : Int)) = true := decide_eq_true c27
           clear c27
           replace H := Option.bind_eq_some_iff.mp H
           obtain ⟨t454, A280, H⟩ := H
           replace H : ((impl_Plan_from.f k2 a0_0 a0_1 l0_2 x44_2).bind fun t455 => ((impl_in.f (Int.tmod (wrap64 (a1 - a0_0)) t451) t454 (wrap64 ((wrap64 (t455 + ((rd_T42 l0_2 x44_2).f1))) - 1))).bind fun t456 => (if t456 = true then ((impl_Occurrence.f k2 a0_0 a0_1 l0_2 x44_2 (wrap64 (Int.tdiv (wrap64 (a1 - a0_0)) t450))).bind fun bt457 => (if bt457.2.2 = true then (some (x44_2, (wrap64 (Int.tdiv (wrap64 (a1 - a0_0)) t450)), true)) else (some (0, 0, false)))) else (impl_SlotAt.l0 k2 (wrap64 (Int.tdiv (wrap64 (a1 - a0_0)) t450)) (Int.tmod (wrap64 (a1 - a0_0)) t451) l0_2 (l0_2.length : Int) (wrap64 (x44_2 + 1)) a0_0 a0_1 l0_2)))) = some (r1, r2, r3) := H
           have A28 := Aside0.mk A280
           clear A280
           replace H := Option.bind_eq_some_iff.mp H
           obtain ⟨t455, A290, H⟩ := H
           replace H : ((impl_in.f (Int.tmod (wrap64 (a1 - a0_0)) t451) t454 (wrap64 ((wrap64 (t455 + ((rd_T42 l0_2 x44_2).f1))) - 1))).bind fun t456 => (if t456 = true then ((impl_Occurrence.f k2 a0_0 a0_1 l0_2 x44_2 (wrap64 (Int.tdiv (wrap64 (a1 - a0_0)) t450))).bind fun bt457 => (if bt457.2.2 = true then (some (x44_2, (wrap64 (Int.tdiv (wrap64 (a1 - a0_0)) t450)), true)) else (some (0, 0, false)))) else (impl_SlotAt.l0 k2 (wrap64 (Int.tdiv (wrap64 (a1 - a0_0)) t450)) (Int.tmod (wrap64 (a1 - a0_0)) t451) l0_2 (l0_2.length : Int) (wrap64 (x44_2 + 1)) a0_0 a0_1 l0_2))) = some (r1, r2, r3) := H
           have A29 := Aside0.mk A290
           clear A290
           replace H := Option.bind_eq_some_iff.mp H
           obtain ⟨t456, A300, H⟩ := H
           replace H : (if t456 = true then ((impl_Occurrence.f k2 a0_0 a0_1 l0_2 x44_2 (wrap64 (Int.tdiv (wrap64 (a1 - a0_0)) t450))).bind fun bt457 => (if bt457.2.2 = true then (some (x44_2, (wrap64 (Int.tdiv (wrap64 (a1 - a0_0)) t450)), true)) else (some (0, 0, false)))) else (impl_SlotAt.l0 k2 (wrap64 (Int.tdiv (wrap64 (a1 - a0_0)) t450)) (Int.tmod (wrap64 (a1 - a0_0)) t451) l0_2 (l0_2.length : Int) (wrap64 (x44_2 + 1)) a0_0 a0_1 l0_2)) = some (r1, r2, r3) := H
           have A30 := Aside0.mk A300
           clear A300
           by_cases c31 : t456 = true
           ·subst c31
            have H1 : ((impl_Occurrence.f k2 a0_0 a0_1 l0_2 x44_2 (wrap64 (Int.tdiv (wrap64 (a1 - a0_0)) t450))).bind fun bt457 => (if bt457.2.2 = true then (some (x44_2, (wrap64 (Int.tdiv (wrap64 (a1 - a0_0)) t450)), true)) else (some (0, 0, false)))) = some (r1, r2, r3) := by rw [if_pos rfl] at H; exact H
            clear H
            have H := H1
            clear H1
            replace H := Option.bind_eq_some_iff.mp H
            obtain ⟨⟨t457, t458, t459⟩, A320, H⟩ := H
            replace H : (if t459 = true then (some (x44_2, (wrap64 (Int.tdiv (wrap64 (a1 - a0_0)) t450)), true)) else (some (0, 0, false))) = some (r1, r2, r3) := H
            have A32 := Aside0.mk A320
            clear A320
            by_cases c33 : t459 = true
            ·subst c33
             have H1 : (some (x44_2, (wrap64 (Int.tdiv (wrap64 (a1 - a0_0)) t450)), true)) = some (r1, r2, r3) := by rw [if_pos rfl] at H; exact H
             clear H
             have H := H1
             clear H1
             simp only [Option.some.injEq, Prod.mk.injEq] at H
             obtain ⟨rfl, rfl, rfl⟩ := H
             have p452 : 0 ≤ (x44_2 : Int) := of_decide_eq_true (by first | (with_reducible assumption) | assumption)
             have q452 : x44_2 < (l0_2.length : Int) := of_decide_eq_true (by first | (with_reducible assumption) | assumption)
             obtain ⟨ad452, e452, hx452_0, hx452_1⟩ := at_T42 HR0_2.out x44_2 p452 q452
             cases e452
             replace hx452_0 := (HB.out.cell (World.block_lt_of_cell? w _ hx452_0)).trans hx452_0
             replace hx452_1 := (HB.out.cell (World.block_lt_of_cell? w _ hx452_1)).trans hx452_1
             replace p452 := eq_true p452
             replace q452 := eq_true q452
             try go_wp2_with (first | ((with_reducible refine gate_dst (N := 10) rfl ?_); refine be_ (N := 10) (cs := #[.int .i64 0, .int .i64 0]) (t := 42) ?_; intro gb453 hg w34 hbox hb; have BK453 := am_ (hbox); have GW453 := am_ (hy_ hg (hb1_ HB.out GE447.out) : w.heap.size ≤ gb453); have GE453 := GW453; have NB447_453 := am_ (bl_ hg BK447.out : gb447 ≠ gb453); have NB453_447 := nb_ NB447_453; replace BK447 := am_ (bb_ BK447.out hb); replace HB := am_ (below_step (hb1_ HB.out GE447.out) hb); clear hb hbox hg; have hnb35 := NB453_447.out; have hnc35 := NB447_453.out; obtain ⟨hcz36_0, hcz36_1, hfz36_0, hfz36_1⟩ := bc2_ BK453.out))
             have n0_ : Aside0 (((w34.setCell ⟨gb453, 0, none⟩ (.int .i64 ((rd_T42 l0_2 x44_2).f0))).setCell ⟨gb453, 1, none⟩ (.int .i64 ((rd_T42 l0_2 x44_2).f1))).heap[gb447]? = some (.cells #[.int .i64 a0_0, .int .i64 a0_1, .slice (some ad452) l0_2.length c0_2] 30 (0, 0))) := ⟨by (with_reducible repeat (first | refine blk_drewN ?_ _ | refine blk_drew ?_ | refine blk_alloc ?_ _)); refine blk_far ?_ NB447_453.out _; (with_reducible repeat (first | refine blk_drewN ?_ _ | refine blk_drew ?_ | refine blk_alloc ?_ _)); refine blk_far ?_ NB447_453.out _; (with_reducible repeat (first | refine blk_drewN ?_ _ | refine blk_drew ?_ | refine blk_alloc ?_ _)); exact BK447.out⟩
             have n1_ : Aside0 (((w34.setCell ⟨gb453, 0, none⟩ (.int .i64 ((rd_T42 l0_2 x44_2).f0))).setCell ⟨gb453, 1, none⟩ (.int .i64 ((rd_T42 l0_2 x44_2).f1))).heap[gb453]? = some (.cells #[.int .i64 ((rd_T42 l0_2 x44_2).f0), .int .i64 ((rd_T42 l0_2 x44_2).f1)] 42 (0, 0))) := ⟨by (with_reducible repeat (first | refine blk_drewN ?_ _ | refine blk_drew ?_ | refine blk_alloc ?_ _)); refine blk_put (cs := #[.int .i64 ((rd_T42 l0_2 x44_2).f0), .int .i64 0]) ?_ 1 _ rfl; (with_reducible repeat (first | refine blk_drewN ?_ _ | refine blk_drew ?_ | refine blk_alloc ?_ _)); refine blk_put (cs := #[.int .i64 0, .int .i64 0]) ?_ 0 _ rfl; (with_reducible repeat (first | refine blk_drewN ?_ _ | refine blk_drew ?_ | refine blk_alloc ?_ _)); exact BK453.out⟩
             have n2_ : Aside0 (Below w.heap.size w ((w34.setCell ⟨gb453, 0, none⟩ (.int .i64 ((rd_T42 l0_2 x44_2).f0))).setCell ⟨gb453, 1, none⟩ (.int .i64 ((rd_T42 l0_2 x44_2).f1)))) := ⟨hb2_ HB.out GE447.out GE453.out⟩
             (try clear BK447)
             (try clear BK453)
             (try clear HB)
             generalize ((w34.setCell ⟨gb453, 0, none⟩ (.int .i64 ((rd_T42 l0_2 x44_2).f0))).setCell ⟨gb453, 1, none⟩ (.int .i64 ((rd_T42 l0_2 x44_2).f1))) = w37 at n0_ n1_ n2_ ⊢
             have BK447 := n0_
             have BK453 := n1_
             have HB := n2_
             clear n0_ n1_ n2_
             have n0_ := am_ (blk_drew BK447.out)
             have n1_ := am_ (blk_drew BK453.out)
             have n2_ := am_ (below_drew1 HB.out)
             clear BK447
             clear BK453
             clear HB
             have BK447 := n0_
             have BK453 := n1_
             have HB := n2_
             clear n0_ n1_ n2_
             refine start_ (n := 12) (S := fun w' => w'.cell? ⟨gb447, 0, none⟩ = some (.int .i64 a0_0) ∧ w'.cell? ⟨gb447, 1, none⟩ = some (.int .i64 a0_1) ∧ w'.cell? ⟨gb447, 2, none⟩ = some (.slice (some ad452) l0_2.length c0_2) ∧ w'.cell? ⟨gb453, 0, none⟩ = some (.int .i64 ((rd_T42 l0_2 x44_2).f0)) ∧ w'.cell? ⟨gb453, 1, none⟩ = some (.int .i64 ((rd_T42 l0_2 x44_2).f1))) (ds := []) #[false, false, false, false, false, false, false, false, false, false, false, false] (by kernel_rfl) rfl rfl ⟨(blk_cell BK447.out 0).trans rfl, (blk_cell BK447.out 1).trans rfl, (blk_cell BK447.out 2).trans rfl, (blk_cell BK453.out 0).trans rfl, (blk_cell BK453.out 1).trans rfl⟩ (fun hHeld => ?_); refine with_tabW impl_SlotAt.tab7 impl_SlotAt.bits7 (fun HT_ HW_ => ?_)
             generalize w37.drew = w38 at BK447 BK453 HB hHeld ⊢
             refine pure_ (i := 0) (N := some 49) (v := ?_) (a' := ?_) #[true, false, false, false, false, false, false, false, false, false, false, false] rfl rfl (any_of HT_.out (by kernel_rfl)) (fun _ _ _ h => h) (Or.inl ⟨by rfl, ?_⟩) ?_ ?_
             rotate_left
             ·intro w'
              go_simp
              with_reducible rfl
             rotate_left
             ·simp only [Act.put, List.setIfInBounds_toArray, List.set_cons_zero, List.set_cons_succ, i64_w, i32_w]
              rfl
             refine pure_ (i := 2) (N := some 51) (v := ?_) (a' := ?_) #[true, false, true, false, false, false, false, false, false, false, false, false] rfl rfl (any_of HT_.out (by kernel_rfl)) (fun _ _ _ h => h) (Or.inl ⟨by rfl, ?_⟩) ?_ ?_
             rotate_left
             ·intro w'
              go_simp
              with_reducible rfl
             rotate_left
             ·simp only [Act.put, List.setIfInBounds_toArray, List.set_cons_zero, List.set_cons_succ, i64_w, i32_w]
              rfl
             refine pure_ (i := 5) (N := some 54) (v := ?_) (a' := ?_) #[true, false, true, false, false, true, false, false, false, false, false, false] rfl rfl (any_of HT_.out (by kernel_rfl)) (fun _ _ _ h => h) (Or.inl ⟨by rfl, ?_⟩) ?_ ?_
             rotate_left
             ·intro w'
              go_simp
              with_reducible rfl
             rotate_left
             ·simp only [Act.put, List.setIfInBounds_toArray, List.set_cons_zero, List.set_cons_succ, i64_w, i32_w]
              rfl
             refine pure_ (i := 7) (N := some 56) (v := ?_) (a' := ?_) #[true, false, true, false, false, true, false, true, false, false, false, false] rfl rfl (any_of HT_.out (by kernel_rfl)) (fun _ _ _ h => h) (Or.inl ⟨by rfl, ?_⟩) ?_ ?_
             rotate_left
             ·intro w'
              go_simp
              with_reducible rfl
             rotate_left
             ·simp only [Act.put, List.setIfInBounds_toArray, List.set_cons_zero, List.set_cons_succ, i64_w, i32_w]
              rfl
             refine take_ (i := 1) (N := some 50) (v := ?_) (a' := ?_) #[true, true, true, false, false, true, false, true, false, false, false, false] rfl rfl (take_ofW HT_.out HW_.out (by kernel_rfl)) (fun _ _ _ h => h) (Or.inl ⟨by rfl, ?_⟩) hHeld ?_ ?_
             rotate_left
             ·rintro w' ⟨s0, s1, s2, s3, s4⟩
              go_simp
              with_reducible rfl
             rotate_left
             ·simp only [Act.put, List.setIfInBounds_toArray, List.set_cons_zero, List.set_cons_succ, i64_w, i32_w]
              rfl
             refine take_ (i := 4) (N := some 53) (v := ?_) (a' := ?_) #[true, true, true, false, true, true, false, true, false, false, false, false] rfl rfl (take_ofW HT_.out HW_.out (by kernel_rfl)) (fun _ _ _ h => h) (Or.inl ⟨by rfl, ?_⟩) hHeld ?_ ?_
             rotate_left
             ·rintro w' ⟨s0, s1, s2, s3, s4⟩
              go_simp
              with_reducible rfl
             rotate_left
             ·simp only [Act.put, List.setIfInBounds_toArray, List.set_cons_zero, List.set_cons_succ, i64_w, i32_w]
              rfl
             refine take_ (i := 8) (N := some 57) (v := ?_) (a' := ?_) #[true, true, true, false, true, true, false, true, true, false, false, false] rfl rfl (take_ofW HT_.out HW_.out (by kernel_rfl)) (fun _ _ _ h => h) (Or.inl ⟨by rfl, ?_⟩) hHeld ?_ ?_
             rotate_left
             ·rintro w' ⟨s0, s1, s2, s3, s4⟩
              go_simp
              with_reducible rfl
             rotate_left
             ·simp only [Act.put, List.setIfInBounds_toArray, List.set_cons_zero, List.set_cons_succ, i64_w, i32_w]
              rfl
             refine one_ (i := 3) (N := some 52) #[true, true, true, true, true, true, false, true, true, false, false, false] rfl rfl (one_of HT_.out (by kernel_rfl)) (by decide) (fun K hK => ?_)
             refine goes_ Try.func60 (by kernel_rfl) rfl #[.agg #[.int .i64 a0_0, .int .i64 a0_1, .slice (some ad452) l0_2.length c0_2], .int .i64 x44_2] (by rfl) rfl rfl arr_ ?_
             with_reducible refine (impl_Plan_from.calls k2 a0_0 a0_1 _ _ l0_2 x44_2 t454 _ ?side1 ?side2 A28.out).mono ?_
             (case side1 => exact kc_ (Kd.C_below HR0_2.out HB.out))
             (case side2 => exact HC0_2.out)
             rintro e w39 ⟨rfl, hb⟩
             refine ⟨_, rfl, ?_⟩
             have n0_ := am_ (bb_ BK447.out hb)
             have n1_ := am_ (bb_ BK453.out hb)
             have n2_ := am_ (below_step (hb2_ HB.out GE447.out GE453.out) hb)
             clear BK447
             clear BK453
             clear HB
             have BK447 := n0_
             have BK453 := n1_
             have HB := n2_
             clear n0_ n1_ n2_
             (try clear hb)
             (try clear hb2)
             (try clear hk)
             (try clear hi)
             refine hK.out _ _ ⟨(blk_cell BK447.out 0).trans rfl, (blk_cell BK447.out 1).trans rfl, (blk_cell BK447.out 2).trans rfl, (blk_cell BK453.out 0).trans rfl, (blk_cell BK453.out 1).trans rfl⟩ (fun hHeld => ?_)
             clear hK K
             refine norm_ (a' := ?_) ?_ ?_
             rotate_left
             ·show Act.put _ (some 52) _ = _
              simp only [Act.put, List.setIfInBounds_toArray, List.set_cons_zero, List.set_cons_succ, i64_w, i32_w]
              rfl
             refine one_ (i := 6) (N := some 55) #[true, true, true, true, true, true, true, true, true, false, false, false] rfl rfl (one_of HT_.out (by kernel_rfl)) (by decide) (fun K hK => ?_)
             refine goes_ Try.func60 (by kernel_rfl) rfl #[.agg #[.int .i64 a0_0, .int .i64 a0_1, .slice (some ad452) l0_2.length c0_2], .int .i64 x44_2] (by rfl) rfl rfl arr_ ?_
             with_reducible refine (impl_Plan_from.calls k2 a0_0 a0_1 _ _ l0_2 x44_2 t455 _ ?side1 ?side2 A29.out).mono ?_
             (case side1 => exact kc_ (Kd.C_below HR0_2.out HB.out))
             (case side2 => exact HC0_2.out)
             rintro e w40 ⟨rfl, hb⟩
             refine ⟨_, rfl, ?_⟩
             have n0_ := am_ (bb_ BK447.out hb)
             have n1_ := am_ (bb_ BK453.out hb)
             have n2_ := am_ (below_step (hb2_ HB.out GE447.out GE453.out) hb)
             clear BK447
             clear BK453
             clear HB
             have BK447 := n0_
             have BK453 := n1_
             have HB := n2_
             clear n0_ n1_ n2_
             (try clear hb)
             (try clear hb2)
             (try clear hk)
             (try clear hi)
             refine hK.out _ _ ⟨(blk_cell BK447.out 0).trans rfl, (blk_cell BK447.out 1).trans rfl, (blk_cell BK447.out 2).trans rfl, (blk_cell BK453.out 0).trans rfl, (blk_cell BK453.out 1).trans rfl⟩ (fun hHeld => ?_)
             clear hK K
             refine norm_ (a' := ?_) ?_ ?_
             rotate_left
             ·show Act.put _ (some 55) _ = _
              simp only [Act.put, List.setIfInBounds_toArray, List.set_cons_zero, List.set_cons_succ, i64_w, i32_w]
              rfl
             refine pure_ (i := 9) (N := some 58) (v := ?_) (a' := ?_) #[true, true, true, true, true, true, true, true, true, true, false, false] rfl rfl (any_of HT_.out (by kernel_rfl)) (fun _ _ _ h => h) (Or.inl ⟨by rfl, ?_⟩) ?_ ?_
             rotate_left
             ·intro w'
              go_simp
              with_reducible rfl
             rotate_left
             ·simp only [Act.put, List.setIfInBounds_toArray, List.set_cons_zero, List.set_cons_succ, i64_w, i32_w]
              rfl
             refine pure_ (i := 10) (N := some 59) (v := ?_) (a' := ?_) #[true, true, true, true, true, true, true, true, true, true, true, false] rfl rfl (any_of HT_.out (by kernel_rfl)) (fun _ _ _ h => h) (Or.inl ⟨by rfl, ?_⟩) ?_ ?_
             rotate_left
             ·intro w'
              go_simp
              with_reducible rfl
             rotate_left
             ·simp only [Act.put, List.setIfInBounds_toArray, List.set_cons_zero, List.set_cons_succ, i64_w, i32_w]
              rfl
             refine one_ (i := 11) (N := some 60) #[true, true, true, true, true, true, true, true, true, true, true, true] rfl rfl (one_of HT_.out (by kernel_rfl)) (by decide) (fun K hK => ?_)
             refine goes_ Try.func48 (by kernel_rfl) rfl #[.int .i64 (Int.tmod (wrap64 (a1 - a0_0)) t451), .int .i64 t454, .int .i64 (wrap64 ((wrap64 (t455 + ((rd_T42 l0_2 x44_2).f1))) - 1))] (by rfl) rfl rfl arr_ ?_
             with_reducible refine (impl_in.calls (Int.tmod (wrap64 (a1 - a0_0)) t451) t454 (wrap64 ((wrap64 (t455 + ((rd_T42 l0_2 x44_2).f1))) - 1)) true _ A30.out).mono ?_
             rintro e w' ⟨rfl, ⟨nd, rfl⟩⟩
             refine ⟨_, rfl, ?_⟩
             refine hK.out _ _ ⟨(blk_cell BK447.out 0).trans rfl, (blk_cell BK447.out 1).trans rfl, (blk_cell BK447.out 2).trans rfl, (blk_cell BK453.out 0).trans rfl, (blk_cell BK453.out 1).trans rfl⟩ (fun hHeld => ?_)
             clear hK K
             refine norm_ (a' := ?_) ?_ ?_
             rotate_left
             ·show Act.put _ (some 60) _ = _
              simp only [Act.put, List.setIfInBounds_toArray, List.set_cons_zero, List.set_cons_succ, i64_w, i32_w]
              rfl
             refine done_ (done_of HT_.out (by kernel_rfl)) ?_
             have hcz41_0 := bc_ BK447.out 0 (.int .i64 a0_0) rfl
             have hcz41_1 := bc_ BK447.out 1 (.int .i64 a0_1) rfl
             have hcz41_2 : w40.cell? ⟨gb447, 2, none⟩ = some (.slice (some ad452) l0_2.length c0_2) := (blk_cell BK447.out 2).trans rfl
             have hfz41_0 := blk_frozen BK447.out 0
             have hfz41_1 := blk_frozen BK447.out 1
             have hfz41_2 := blk_frozen BK447.out 2
             try go_wp2_with (first | ((with_reducible refine gate_callee (f := 12) rfl ?_); refine gl_ Try.func12 #[.agg #[.int .i64 a0_0, .int .i64 a0_1, .slice (some ad452) l0_2.length c0_2], .int .i64 x44_2, .int .i64 (wrap64 (Int.tdiv (wrap64 (a1 - a0_0)) t450))] ?_; (with_reducible refine (impl_Occurrence.calls k2 a0_0 a0_1 _ _ l0_2 x44_2 (wrap64 (Int.tdiv (wrap64 (a1 - a0_0)) t450)) t457 t458 true _ ?side1 ?side2 A32.out).mono ?_); (case side1 => repeat (first | exact (Kd.C_below HR0_2.out (hb2_ HB.out GE447.out GE453.out)) | (with_reducible refine Kd.C_alloc ?_ _) | (with_reducible refine Kd.C_drewN ?_ _) | (with_reducible refine Kd.C_drew ?_))); (case side2 => exact HC0_2.out); rintro e w42 ⟨rfl, hb⟩; refine ⟨_, rfl, ?_⟩; replace BK447 := am_ (bb_ BK447.out hb); replace BK453 := am_ (bb_ BK453.out hb); replace HB := am_ (below_step (hb2_ HB.out GE447.out GE453.out) hb); (try clear hb); (try clear hb2); (try clear hk); (try clear hi)) | ((with_reducible refine gate_dst (N := 11) rfl ?_); refine be_ (N := 11) (cs := #[.int .i64 0, .int .i64 0]) (t := 25) ?_; intro gb460 hg w43 hbox hb; have BK460 := am_ (hbox); have GW460 := am_ (hy_ hg (hb2_ HB.out GE447.out GE453.out) : w.heap.size ≤ gb460); have GE460 := GW460; have NB447_460 := am_ (bl_ hg BK447.out : gb447 ≠ gb460); have NB460_447 := nb_ NB447_460; have NB453_460 := am_ (bl_ hg BK453.out : gb453 ≠ gb460); have NB460_453 := nb_ NB453_460; replace BK447 := am_ (bb_ BK447.out hb); replace BK453 := am_ (bb_ BK453.out hb); replace HB := am_ (below_step (hb2_ HB.out GE447.out GE453.out) hb); clear hb hbox hg; have hnb44 := NB460_447.out; have hnc44 := NB447_460.out; have hnb45 := NB460_453.out; have hnc45 := NB453_460.out; obtain ⟨hcz46_0, hcz46_1, hfz46_0, hfz46_1⟩ := bc2_ BK460.out))
             go_ret3
             exact ⟨er_, hb3_ HB.out GE447.out GE453.out GE460.out⟩
            ·replace c33 := Bool.eq_false_iff.mpr c33
             subst c33
             have H1 : (some (0, 0, false)) = some (r1, r2, r3) := by rw [if_neg (show ¬ (false = true) by decide)] at H; exact H
             clear H
             have H := H1
             clear H1
             simp only [Option.some.injEq, Prod.mk.injEq] at H
             obtain ⟨rfl, rfl, rfl⟩ := H
             have p452 : 0 ≤ (x44_2 : Int) := of_decide_eq_true (by first | (with_reducible assumption) | assumption)
             have q452 : x44_2 < (l0_2.length : Int) := of_decide_eq_true (by first | (with_reducible assumption) | assumption)
             obtain ⟨ad452, e452, hx452_0, hx452_1⟩ := at_T42 HR0_2.out x44_2 p452 q452
             cases e452
             replace hx452_0 := (HB.out.cell (World.block_lt_of_cell? w _ hx452_0)).trans hx452_0
             replace hx452_1 := (HB.out.cell (World.block_lt_of_cell? w _ hx452_1)).trans hx452_1
             replace p452 := eq_true p452
             replace q452 := eq_true q452
             try go_wp2_with (first | ((with_reducible refine gate_dst (N := 10) rfl ?_); refine be_ (N := 10) (cs := #[.int .i64 0, .int .i64 0]) (t := 42) ?_; intro gb453 hg w47 hbox hb; have BK453 := am_ (hbox); have GW453 := am_ (hy_ hg (hb1_ HB.out GE447.out) : w.heap.size ≤ gb453); have GE453 := GW453; have NB447_453 := am_ (bl_ hg BK447.out : gb447 ≠ gb453); have NB453_447 := nb_ NB447_453; replace BK447 := am_ (bb_ BK447.out hb); replace HB := am_ (below_step (hb1_ HB.out GE447.out) hb); clear hb hbox hg; have hnb48 := NB453_447.out; have hnc48 := NB447_453.out; obtain ⟨hcz49_0, hcz49_1, hfz49_0, hfz49_1⟩ := bc2_ BK453.out))
             have n0_ : Aside0 (((w47.setCell ⟨gb453, 0, none⟩ (.int .i64 ((rd_T42 l0_2 x44_2).f0))).setCell ⟨gb453, 1, none⟩ (.int .i64 ((rd_T42 l0_2 x44_2).f1))).heap[gb447]? = some (.cells #[.int .i64 a0_0, .int .i64 a0_1, .slice (some ad452) l0_2.length c0_2] 30 (0, 0))) := ⟨by (with_reducible repeat (first | refine blk_drewN ?_ _ | refine blk_drew ?_ | refine blk_alloc ?_ _)); refine blk_far ?_ NB447_453.out _; (with_reducible repeat (first | refine blk_drewN ?_ _ | refine blk_drew ?_ | refine blk_alloc ?_ _)); refine blk_far ?_ NB447_453.out _; (with_reducible repeat (first | refine blk_drewN ?_ _ | refine blk_drew ?_ | refine blk_alloc ?_ _)); exact BK447.out⟩
             have n1_ : Aside0 (((w47.setCell ⟨gb453, 0, none⟩ (.int .i64 ((rd_T42 l0_2 x44_2).f0))).setCell ⟨gb453, 1, none⟩ (.int .i64 ((rd_T42 l0_2 x44_2).f1))).heap[gb453]? = some (.cells #[.int .i64 ((rd_T42 l0_2 x44_2).f0), .int .i64 ((rd_T42 l0_2 x44_2).f1)] 42 (0, 0))) := ⟨by (with_reducible repeat (first | refine blk_drewN ?_ _ | refine blk_drew ?_ | refine blk_alloc ?_ _)); refine blk_put (cs := #[.int .i64 ((rd_T42 l0_2 x44_2).f0), .int .i64 0]) ?_ 1 _ rfl; (with_reducible repeat (first | refine blk_drewN ?_ _ | refine blk_drew ?_ | refine blk_alloc ?_ _)); refine blk_put (cs := #[.int .i64 0, .int .i64 0]) ?_ 0 _ rfl; (with_reducible repeat (first | refine blk_drewN ?_ _ | refine blk_drew ?_ | refine blk_alloc ?_ _)); exact BK453.out⟩
             have n2_ : Aside0 (Below w.heap.size w ((w47.setCell ⟨gb453, 0, none⟩ (.int .i64 ((rd_T42 l0_2 x44_2).f0))).setCell ⟨gb453, 1, none⟩ (.int .i64 ((rd_T42 l0_2 x44_2).f1)))) := ⟨hb2_ HB.out GE447.out GE453.out⟩
             (try clear BK447)
             (try clear BK453)
             (try clear HB)
             generalize ((w47.setCell ⟨gb453, 0, none⟩ (.int .i64 ((rd_T42 l0_2 x44_2).f0))).setCell ⟨gb453, 1, none⟩ (.int .i64 ((rd_T42 l0_2 x44_2).f1))) = w50 at n0_ n1_ n2_ ⊢
             have BK447 := n0_
             have BK453 := n1_
             have HB := n2_
             clear n0_ n1_ n2_
             have n0_ := am_ (blk_drew BK447.out)
             have n1_ := am_ (blk_drew BK453.out)
             have n2_ := am_ (below_drew1 HB.out)
             clear BK447
             clear BK453
             clear HB
             have BK447 := n0_
             have BK453 := n1_
             have HB := n2_
             clear n0_ n1_ n2_
             refine start_ (n := 12) (S := fun w' => w'.cell? ⟨gb447, 0, none⟩ = some (.int .i64 a0_0) ∧ w'.cell? ⟨gb447, 1, none⟩ = some (.int .i64 a0_1) ∧ w'.cell? ⟨gb447, 2, none⟩ = some (.slice (some ad452) l0_2.length c0_2) ∧ w'.cell? ⟨gb453, 0, none⟩ = some (.int .i64 ((rd_T42 l0_2 x44_2).f0)) ∧ w'.cell? ⟨gb453, 1, none⟩ = some (.int .i64 ((rd_T42 l0_2 x44_2).f1))) (ds := []) #[false, false, false, false, false, false, false, false, false, false, false, false] (by kernel_rfl) rfl rfl ⟨(blk_cell BK447.out 0).trans rfl, (blk_cell BK447.out 1).trans rfl, (blk_cell BK447.out 2).trans rfl, (blk_cell BK453.out 0).trans rfl, (blk_cell BK453.out 1).trans rfl⟩ (fun hHeld => ?_); refine with_tabW impl_SlotAt.tab7 impl_SlotAt.bits7 (fun HT_ HW_ => ?_)
             generalize w50.drew = w51 at BK447 BK453 HB hHeld ⊢
             refine pure_ (i := 0) (N := some 49) (v := ?_) (a' := ?_) #[true, false, false, false, false, false, false, false, false, false, false, false] rfl rfl (any_of HT_.out (by kernel_rfl)) (fun _ _ _ h => h) (Or.inl ⟨by rfl, ?_⟩) ?_ ?_
             rotate_left
             ·intro w'
              go_simp
              with_reducible rfl
             rotate_left
             ·simp only [Act.put, List.setIfInBounds_toArray, List.set_cons_zero, List.set_cons_succ, i64_w, i32_w]
              rfl
             refine pure_ (i := 2) (N := some 51) (v := ?_) (a' := ?_) #[true, false, true, false, false, false, false, false, false, false, false, false] rfl rfl (any_of HT_.out (by kernel_rfl)) (fun _ _ _ h => h) (Or.inl ⟨by rfl, ?_⟩) ?_ ?_
             rotate_left
             ·intro w'
              go_simp
              with_reducible rfl
             rotate_left
             ·simp only [Act.put, List.setIfInBounds_toArray, List.set_cons_zero, List.set_cons_succ, i64_w, i32_w]
              rfl
             refine pure_ (i := 5) (N := some 54) (v := ?_) (a' := ?_) #[true, false, true, false, false, true, false, false, false, false, false, false] rfl rfl (any_of HT_.out (by kernel_rfl)) (fun _ _ _ h => h) (Or.inl ⟨by rfl, ?_⟩) ?_ ?_
             rotate_left
             ·intro w'
              go_simp
              with_reducible rfl
             rotate_left
             ·simp only [Act.put, List.setIfInBounds_toArray, List.set_cons_zero, List.set_cons_succ, i64_w, i32_w]
              rfl
             refine pure_ (i := 7) (N := some 56) (v := ?_) (a' := ?_) #[true, false, true, false, false, true, false, true, false, false, false, false] rfl rfl (any_of HT_.out (by kernel_rfl)) (fun _ _ _ h => h) (Or.inl ⟨by rfl, ?_⟩) ?_ ?_
             rotate_left
             ·intro w'
              go_simp
              with_reducible rfl
             rotate_left
             ·simp only [Act.put, List.setIfInBounds_toArray, List.set_cons_zero, List.set_cons_succ, i64_w, i32_w]
              rfl
             refine take_ (i := 1) (N := some 50) (v := ?_) (a' := ?_) #[true, true, true, false, false, true, false, true, false, false, false, false] rfl rfl (take_ofW HT_.out HW_.out (by kernel_rfl)) (fun _ _ _ h => h) (Or.inl ⟨by rfl, ?_⟩) hHeld ?_ ?_
             rotate_left
             ·rintro w' ⟨s0, s1, s2, s3, s4⟩
              go_simp
              with_reducible rfl
             rotate_left
             ·simp only [Act.put, List.setIfInBounds_toArray, List.set_cons_zero, List.set_cons_succ, i64_w, i32_w]
              rfl
             refine take_ (i := 4) (N := some 53) (v := ?_) (a' := ?_) #[true, true, true, false, true, true, false, true, false, false, false, false] rfl rfl (take_ofW HT_.out HW_.out (by kernel_rfl)) (fun _ _ _ h => h) (Or.inl ⟨by rfl, ?_⟩) hHeld ?_ ?_
             rotate_left
             ·rintro w' ⟨s0, s1, s2, s3, s4⟩
              go_simp
              with_reducible rfl
             rotate_left
             ·simp only [Act.put, List.setIfInBounds_toArray, List.set_cons_zero, List.set_cons_succ, i64_w, i32_w]
              rfl
             refine take_ (i := 8) (N := some 57) (v := ?_) (a' := ?_) #[true, true, true, false, true, true, false, true, true, false, false, false] rfl rfl (take_ofW HT_.out HW_.out (by kernel_rfl)) (fun _ _ _ h => h) (Or.inl ⟨by rfl, ?_⟩) hHeld ?_ ?_
             rotate_left
             ·rintro w' ⟨s0, s1, s2, s3, s4⟩
              go_simp
              with_reducible rfl
             rotate_left
             ·simp only [Act.put, List.setIfInBounds_toArray, List.set_cons_zero, List.set_cons_succ, i64_w, i32_w]
              rfl
             refine one_ (i := 3) (N := some 52) #[true, true, true, true, true, true, false, true, true, false, false, false] rfl rfl (one_of HT_.out (by kernel_rfl)) (by decide) (fun K hK => ?_)
             refine goes_ Try.func60 (by kernel_rfl) rfl #[.agg #[.int .i64 a0_0, .int .i64 a0_1, .slice (some ad452) l0_2.length c0_2], .int .i64 x44_2] (by rfl) rfl rfl arr_ ?_
             with_reducible refine (impl_Plan_from.calls k2 a0_0 a0_1 _ _ l0_2 x44_2 t454 _ ?side1 ?side2 A28.out).mono ?_
             (case side1 => exact kc_ (Kd.C_below HR0_2.out HB.out))
             (case side2 => exact HC0_2.out)
             rintro e w52 ⟨rfl, hb⟩
             refine ⟨_, rfl, ?_⟩
             have n0_ := am_ (bb_ BK447.out hb)
             have n1_ := am_ (bb_ BK453.out hb)
             have n2_ := am_ (below_step (hb2_ HB.out GE447.out GE453.out) hb)
             clear BK447
             clear BK453
             clear HB
             have BK447 := n0_
             have BK453 := n1_
             have HB := n2_
             clear n0_ n1_ n2_
             (try clear hb)
             (try clear hb2)
             (try clear hk)
             (try clear hi)
             refine hK.out _ _ ⟨(blk_cell BK447.out 0).trans rfl, (blk_cell BK447.out 1).trans rfl, (blk_cell BK447.out 2).trans rfl, (blk_cell BK453.out 0).trans rfl, (blk_cell BK453.out 1).trans rfl⟩ (fun hHeld => ?_)
             clear hK K
             refine norm_ (a' := ?_) ?_ ?_
             rotate_left
             ·show Act.put _ (some 52) _ = _
              simp only [Act.put, List.setIfInBounds_toArray, List.set_cons_zero, List.set_cons_succ, i64_w, i32_w]
              rfl
             refine one_ (i := 6) (N := some 55) #[true, true, true, true, true, true, true, true, true, false, false, false] rfl rfl (one_of HT_.out (by kernel_rfl)) (by decide) (fun K hK => ?_)
             refine goes_ Try.func60 (by kernel_rfl) rfl #[.agg #[.int .i64 a0_0, .int .i64 a0_1, .slice (some ad452) l0_2.length c0_2], .int .i64 x44_2] (by rfl) rfl rfl arr_ ?_
             with_reducible refine (impl_Plan_from.calls k2 a0_0 a0_1 _ _ l0_2 x44_2 t455 _ ?side1 ?side2 A29.out).mono ?_
             (case side1 => exact kc_ (Kd.C_below HR0_2.out HB.out))
             (case side2 => exact HC0_2.out)
             rintro e w53 ⟨rfl, hb⟩
             refine ⟨_, rfl, ?_⟩
             have n0_ := am_ (bb_ BK447.out hb)
             have n1_ := am_ (bb_ BK453.out hb)
             have n2_ := am_ (below_step (hb2_ HB.out GE447.out GE453.out) hb)
             clear BK447
             clear BK453
             clear HB
             have BK447 := n0_
             have BK453 := n1_
             have HB := n2_
             clear n0_ n1_ n2_
             (try clear hb)
             (try clear hb2)
             (try clear hk)
             (try clear hi)
             refine hK.out _ _ ⟨(blk_cell BK447.out 0).trans rfl, (blk_cell BK447.out 1).trans rfl, (blk_cell BK447.out 2).trans rfl, (blk_cell BK453.out 0).trans rfl, (blk_cell BK453.out 1).trans rfl⟩ (fun hHeld => ?_)
             clear hK K
             refine norm_ (a' := ?_) ?_ ?_
             rotate_left
             ·show Act.put _ (some 55) _ = _
              simp only [Act.put, List.setIfInBounds_toArray, List.set_cons_zero, List.set_cons_succ, i64_w, i32_w]
              rfl
             refine pure_ (i := 9) (N := some 58) (v := ?_) (a' := ?_) #[true, true, true, true, true, true, true, true, true, true, false, false] rfl rfl (any_of HT_.out (by kernel_rfl)) (fun _ _ _ h => h) (Or.inl ⟨by rfl, ?_⟩) ?_ ?_
             rotate_left
             ·intro w'
              go_simp
              with_reducible rfl
             rotate_left
             ·simp only [Act.put, List.setIfInBounds_toArray, List.set_cons_zero, List.set_cons_succ, i64_w, i32_w]
              rfl
             refine pure_ (i := 10) (N := some 59) (v := ?_) (a' := ?_) #[true, true, true, true, true, true, true, true, true, true, true, false] rfl rfl (any_of HT_.out (by kernel_rfl)) (fun _ _ _ h => h) (Or.inl ⟨by rfl, ?_⟩) ?_ ?_
             rotate_left
             ·intro w'
              go_simp
              with_reducible rfl
             rotate_left
             ·simp only [Act.put, List.setIfInBounds_toArray, List.set_cons_zero, List.set_cons_succ, i64_w, i32_w]
              rfl
             refine one_ (i := 11) (N := some 60) #[true, true, true, true, true, true, true, true, true, true, true, true] rfl rfl (one_of HT_.out (by kernel_rfl)) (by decide) (fun K hK => ?_)
             refine goes_ Try.func48 (by kernel_rfl) rfl #[.int .i64 (Int.tmod (wrap64 (a1 - a0_0)) t451), .int .i64 t454, .int .i64 (wrap64 ((wrap64 (t455 + ((rd_T42 l0_2 x44_2).f1))) - 1))] (by rfl) rfl rfl arr_ ?_
             with_reducible refine (impl_in.calls (Int.tmod (wrap64 (a1 - a0_0)) t451) t454 (wrap64 ((wrap64 (t455 + ((rd_T42 l0_2 x44_2).f1))) - 1)) true _ A30.out).mono ?_
             rintro e w' ⟨rfl, ⟨nd, rfl⟩⟩
             refine ⟨_, rfl, ?_⟩
             refine hK.out _ _ ⟨(blk_cell BK447.out 0).trans rfl, (blk_cell BK447.out 1).trans rfl, (blk_cell BK447.out 2).trans rfl, (blk_cell BK453.out 0).trans rfl, (blk_cell BK453.out 1).trans rfl⟩ (fun hHeld => ?_)
             clear hK K
             refine norm_ (a' := ?_) ?_ ?_
             rotate_left
             ·show Act.put _ (some 60) _ = _
              simp only [Act.put, List.setIfInBounds_toArray, List.set_cons_zero, List.set_cons_succ, i64_w, i32_w]
              rfl
             refine done_ (done_of HT_.out (by kernel_rfl)) ?_
             have hcz54_0 := bc_ BK447.out 0 (.int .i64 a0_0) rfl
             have hcz54_1 := bc_ BK447.out 1 (.int .i64 a0_1) rfl
             have hcz54_2 : w53.cell? ⟨gb447, 2, none⟩ = some (.slice (some ad452) l0_2.length c0_2) := (blk_cell BK447.out 2).trans rfl
             have hfz54_0 := blk_frozen BK447.out 0
             have hfz54_1 := blk_frozen BK447.out 1
             have hfz54_2 := blk_frozen BK447.out 2
             try go_wp2_with (first | ((with_reducible refine gate_callee (f := 12) rfl ?_); refine gl_ Try.func12 #[.agg #[.int .i64 a0_0, .int .i64 a0_1, .slice (some ad452) l0_2.length c0_2], .int .i64 x44_2, .int .i64 (wrap64 (Int.tdiv (wrap64 (a1 - a0_0)) t450))] ?_; (with_reducible refine (impl_Occurrence.calls k2 a0_0 a0_1 _ _ l0_2 x44_2 (wrap64 (Int.tdiv (wrap64 (a1 - a0_0)) t450)) t457 t458 false _ ?side1 ?side2 A32.out).mono ?_); (case side1 => repeat (first | exact (Kd.C_below HR0_2.out (hb2_ HB.out GE447.out GE453.out)) | (with_reducible refine Kd.C_alloc ?_ _) | (with_reducible refine Kd.C_drewN ?_ _) | (with_reducible refine Kd.C_drew ?_))); (case side2 => exact HC0_2.out); rintro e w55 ⟨rfl, hb⟩; refine ⟨_, rfl, ?_⟩; replace BK447 := am_ (bb_ BK447.out hb); replace BK453 := am_ (bb_ BK453.out hb); replace HB := am_ (below_step (hb2_ HB.out GE447.out GE453.out) hb); (try clear hb); (try clear hb2); (try clear hk); (try clear hi)) | ((with_reducible refine gate_dst (N := 11) rfl ?_); refine be_ (N := 11) (cs := #[.int .i64 0, .int .i64 0]) (t := 25) ?_; intro gb460 hg w56 hbox hb; have BK460 := am_ (hbox); have GW460 := am_ (hy_ hg (hb2_ HB.out GE447.out GE453.out) : w.heap.size ≤ gb460); have GE460 := GW460; have NB447_460 := am_ (bl_ hg BK447.out : gb447 ≠ gb460); have NB460_447 := nb_ NB447_460; have NB453_460 := am_ (bl_ hg BK453.out : gb453 ≠ gb460); have NB460_453 := nb_ NB453_460; replace BK447 := am_ (bb_ BK447.out hb); replace BK453 := am_ (bb_ BK453.out hb); replace HB := am_ (below_step (hb2_ HB.out GE447.out GE453.out) hb); clear hb hbox hg; have hnb57 := NB460_447.out; have hnc57 := NB447_460.out; have hnb58 := NB460_453.out; have hnc58 := NB453_460.out; obtain ⟨hcz59_0, hcz59_1, hfz59_0, hfz59_1⟩ := bc2_ BK460.out))
             go_ret3
             exact ⟨er_, hb3_ HB.out GE447.out GE453.out GE460.out⟩
           ·replace c31 := Bool.eq_false_iff.mpr c31
            subst c31
            have H1 : (impl_SlotAt.l0 k2 (wrap64 (Int.tdiv (wrap64 (a1 - a0_0)) t450)) (Int.tmod (wrap64 (a1 - a0_0)) t451) l0_2 (l0_2.length : Int) (wrap64 (x44_2 + 1)) a0_0 a0_1 l0_2) = some (r1, r2, r3) := by rw [if_neg (show ¬ (false = true) by decide)] at H; exact H
            clear H
            have H := H1
            clear H1
            have H' := Aside0.mk H
            clear H
            have p452 : 0 ≤ (x44_2 : Int) := of_decide_eq_true (by first | (with_reducible assumption) | assumption)
            have q452 : x44_2 < (l0_2.length : Int) := of_decide_eq_true (by first | (with_reducible assumption) | assumption)
            obtain ⟨ad452, e452, hx452_0, hx452_1⟩ := at_T42 HR0_2.out x44_2 p452 q452
            cases e452
            replace hx452_0 := (HB.out.cell (World.block_lt_of_cell? w _ hx452_0)).trans hx452_0
            replace hx452_1 := (HB.out.cell (World.block_lt_of_cell? w _ hx452_1)).trans hx452_1
            replace p452 := eq_true p452
            replace q452 := eq_true q452
            try go_wp2_with (first | ((with_reducible refine gate_dst (N := 10) rfl ?_); refine be_ (N := 10) (cs := #[.int .i64 0, .int .i64 0]) (t := 42) ?_; intro gb453 hg w60 hbox hb; have BK453 := am_ (hbox); have GW453 := am_ (hy_ hg (hb1_ HB.out GE447.out) : w.heap.size ≤ gb453); have GE453 := GW453; have NB447_453 := am_ (bl_ hg BK447.out : gb447 ≠ gb453); have NB453_447 := nb_ NB447_453; replace BK447 := am_ (bb_ BK447.out hb); replace HB := am_ (below_step (hb1_ HB.out GE447.out) hb); clear hb hbox hg; have hnb61 := NB453_447.out; have hnc61 := NB447_453.out; obtain ⟨hcz62_0, hcz62_1, hfz62_0, hfz62_1⟩ := bc2_ BK453.out))
            have n0_ : Aside0 (((w60.setCell ⟨gb453, 0, none⟩ (.int .i64 ((rd_T42 l0_2 x44_2).f0))).setCell ⟨gb453, 1, none⟩ (.int .i64 ((rd_T42 l0_2 x44_2).f1))).heap[gb447]? = some (.cells #[.int .i64 a0_0, .int .i64 a0_1, .slice (some ad452) l0_2.length c0_2] 30 (0, 0))) := ⟨by (with_reducible repeat (first | refine blk_drewN ?_ _ | refine blk_drew ?_ | refine blk_alloc ?_ _)); refine blk_far ?_ NB447_453.out _; (with_reducible repeat (first | refine blk_drewN ?_ _ | refine blk_drew ?_ | refine blk_alloc ?_ _)); refine blk_far ?_ NB447_453.out _; (with_reducible repeat (first | refine blk_drewN ?_ _ | refine blk_drew ?_ | refine blk_alloc ?_ _)); exact BK447.out⟩
            have n1_ : Aside0 (((w60.setCell ⟨gb453, 0, none⟩ (.int .i64 ((rd_T42 l0_2 x44_2).f0))).setCell ⟨gb453, 1, none⟩ (.int .i64 ((rd_T42 l0_2 x44_2).f1))).heap[gb453]? = some (.cells #[.int .i64 ((rd_T42 l0_2 x44_2).f0), .int .i64 ((rd_T42 l0_2 x44_2).f1)] 42 (0, 0))) := ⟨by (with_reducible repeat (first | refine blk_drewN ?_ _ | refine blk_drew ?_ | refine blk_alloc ?_ _)); refine blk_put (cs := #[.int .i64 ((rd_T42 l0_2 x44_2).f0), .int .i64 0]) ?_ 1 _ rfl; (with_reducible repeat (first | refine blk_drewN ?_ _ | refine blk_drew ?_ | refine blk_alloc ?_ _)); refine blk_put (cs := #[.int .i64 0, .int .i64 0]) ?_ 0 _ rfl; (with_reducible repeat (first | refine blk_drewN ?_ _ | refine blk_drew ?_ | refine blk_alloc ?_ _)); exact BK453.out⟩
            have n2_ : Aside0 (Below w.heap.size w ((w60.setCell ⟨gb453, 0, none⟩ (.int .i64 ((rd_T42 l0_2 x44_2).f0))).setCell ⟨gb453, 1, none⟩ (.int .i64 ((rd_T42 l0_2 x44_2).f1)))) := ⟨hb2_ HB.out GE447.out GE453.out⟩
            (try clear BK447)
            (try clear BK453)
            (try clear HB)
            generalize ((w60.setCell ⟨gb453, 0, none⟩ (.int .i64 ((rd_T42 l0_2 x44_2).f0))).setCell ⟨gb453, 1, none⟩ (.int .i64 ((rd_T42 l0_2 x44_2).f1))) = w63 at n0_ n1_ n2_ ⊢
            have BK447 := n0_
            have BK453 := n1_
            have HB := n2_
            clear n0_ n1_ n2_
            have n0_ := am_ (blk_drew BK447.out)
            have n1_ := am_ (blk_drew BK453.out)
            have n2_ := am_ (below_drew1 HB.out)
            clear BK447
            clear BK453
            clear HB
            have BK447 := n0_
            have BK453 := n1_
            have HB := n2_
            clear n0_ n1_ n2_
            refine start_ (n := 12) (S := fun w' => w'.cell? ⟨gb447, 0, none⟩ = some (.int .i64 a0_0) ∧ w'.cell? ⟨gb447, 1, none⟩ = some (.int .i64 a0_1) ∧ w'.cell? ⟨gb447, 2, none⟩ = some (.slice (some ad452) l0_2.length c0_2) ∧ w'.cell? ⟨gb453, 0, none⟩ = some (.int .i64 ((rd_T42 l0_2 x44_2).f0)) ∧ w'.cell? ⟨gb453, 1, none⟩ = some (.int .i64 ((rd_T42 l0_2 x44_2).f1))) (ds := []) #[false, false, false, false, false, false, false, false, false, false, false, false] (by kernel_rfl) rfl rfl ⟨(blk_cell BK447.out 0).trans rfl, (blk_cell BK447.out 1).trans rfl, (blk_cell BK447.out 2).trans rfl, (blk_cell BK453.out 0).trans rfl, (blk_cell BK453.out 1).trans rfl⟩ (fun hHeld => ?_); refine with_tabW impl_SlotAt.tab7 impl_SlotAt.bits7 (fun HT_ HW_ => ?_)
            generalize w63.drew = w64 at BK447 BK453 HB hHeld ⊢
            refine pure_ (i := 0) (N := some 49) (v := ?_) (a' := ?_) #[true, false, false, false, false, false, false, false, false, false, false, false] rfl rfl (any_of HT_.out (by kernel_rfl)) (fun _ _ _ h => h) (Or.inl ⟨by rfl, ?_⟩) ?_ ?_
            rotate_left
            ·intro w'
             go_simp
             with_reducible rfl
            rotate_left
            ·simp only [Act.put, List.setIfInBounds_toArray, List.set_cons_zero, List.set_cons_succ, i64_w, i32_w]
             rfl
            refine pure_ (i := 2) (N := some 51) (v := ?_) (a' := ?_) #[true, false, true, false, false, false, false, false, false, false, false, false] rfl rfl (any_of HT_.out (by kernel_rfl)) (fun _ _ _ h => h) (Or.inl ⟨by rfl, ?_⟩) ?_ ?_
            rotate_left
            ·intro w'
             go_simp
             with_reducible rfl
            rotate_left
            ·simp only [Act.put, List.setIfInBounds_toArray, List.set_cons_zero, List.set_cons_succ, i64_w, i32_w]
             rfl
            refine pure_ (i := 5) (N := some 54) (v := ?_) (a' := ?_) #[true, false, true, false, false, true, false, false, false, false, false, false] rfl rfl (any_of HT_.out (by kernel_rfl)) (fun _ _ _ h => h) (Or.inl ⟨by rfl, ?_⟩) ?_ ?_
            rotate_left
            ·intro w'
             go_simp
             with_reducible rfl
            rotate_left
            ·simp only [Act.put, List.setIfInBounds_toArray, List.set_cons_zero, List.set_cons_succ, i64_w, i32_w]
             rfl
            refine pure_ (i := 7) (N := some 56) (v := ?_) (a' := ?_) #[true, false, true, false, false, true, false, true, false, false, false, false] rfl rfl (any_of HT_.out (by kernel_rfl)) (fun _ _ _ h => h) (Or.inl ⟨by rfl, ?_⟩) ?_ ?_
            rotate_left
            ·intro w'
             go_simp
             with_reducible rfl
            rotate_left
            ·simp only [Act.put, List.setIfInBounds_toArray, List.set_cons_zero, List.set_cons_succ, i64_w, i32_w]
             rfl
            refine take_ (i := 1) (N := some 50) (v := ?_) (a' := ?_) #[true, true, true, false, false, true, false, true, false, false, false, false] rfl rfl (take_ofW HT_.out HW_.out (by kernel_rfl)) (fun _ _ _ h => h) (Or.inl ⟨by rfl, ?_⟩) hHeld ?_ ?_
            rotate_left
            ·rintro w' ⟨s0, s1, s2, s3, s4⟩
             go_simp
             with_reducible rfl
            rotate_left
            ·simp only [Act.put, List.setIfInBounds_toArray, List.set_cons_zero, List.set_cons_succ, i64_w, i32_w]
             rfl
            refine take_ (i := 4) (N := some 53) (v := ?_) (a' := ?_) #[true, true, true, false, true, true, false, true, false, false, false, false] rfl rfl (take_ofW HT_.out HW_.out (by kernel_rfl)) (fun _ _ _ h => h) (Or.inl ⟨by rfl, ?_⟩) hHeld ?_ ?_
            rotate_left
            ·rintro w' ⟨s0, s1, s2, s3, s4⟩
             go_simp
             with_reducible rfl
            rotate_left
            ·simp only [Act.put, List.setIfInBounds_toArray, List.set_cons_zero, List.set_cons_succ, i64_w, i32_w]
             rfl
            refine take_ (i := 8) (N := some 57) (v := ?_) (a' := ?_) #[true, true, true, false, true, true, false, true, true, false, false, false] rfl rfl (take_ofW HT_.out HW_.out (by kernel_rfl)) (fun _ _ _ h => h) (Or.inl ⟨by rfl, ?_⟩) hHeld ?_ ?_
            rotate_left
            ·rintro w' ⟨s0, s1, s2, s3, s4⟩
             go_simp
             with_reducible rfl
            rotate_left
            ·simp only [Act.put, List.setIfInBounds_toArray, List.set_cons_zero, List.set_cons_succ, i64_w, i32_w]
             rfl
            refine one_ (i := 3) (N := some 52) #[true, true, true, true, true, true, false, true, true, false, false, false] rfl rfl (one_of HT_.out (by kernel_rfl)) (by decide) (fun K hK => ?_)
            refine goes_ Try.func60 (by kernel_rfl) rfl #[.agg #[.int .i64 a0_0, .int .i64 a0_1, .slice (some ad452) l0_2.length c0_2], .int .i64 x44_2] (by rfl) rfl rfl arr_ ?_
            with_reducible refine (impl_Plan_from.calls k2 a0_0 a0_1 _ _ l0_2 x44_2 t454 _ ?side1 ?side2 A28.out).mono ?_
            (case side1 => exact kc_ (Kd.C_below HR0_2.out HB.out))
            (case side2 => exact HC0_2.out)
            rintro e w65 ⟨rfl, hb⟩
            refine ⟨_, rfl, ?_⟩
            have n0_ := am_ (bb_ BK447.out hb)
            have n1_ := am_ (bb_ BK453.out hb)
            have n2_ := am_ (below_step (hb2_ HB.out GE447.out GE453.out) hb)
            clear BK447
            clear BK453
            clear HB
            have BK447 := n0_
            have BK453 := n1_
            have HB := n2_
            clear n0_ n1_ n2_
            (try clear hb)
            (try clear hb2)
            (try clear hk)
            (try clear hi)
            refine hK.out _ _ ⟨(blk_cell BK447.out 0).trans rfl, (blk_cell BK447.out 1).trans rfl, (blk_cell BK447.out 2).trans rfl, (blk_cell BK453.out 0).trans rfl, (blk_cell BK453.out 1).trans rfl⟩ (fun hHeld => ?_)
            clear hK K
            refine norm_ (a' := ?_) ?_ ?_
            rotate_left
            ·show Act.put _ (some 52) _ = _
             simp only [Act.put, List.setIfInBounds_toArray, List.set_cons_zero, List.set_cons_succ, i64_w, i32_w]
             rfl
            refine one_ (i := 6) (N := some 55) #[true, true, true, true, true, true, true, true, true, false, false, false] rfl rfl (one_of HT_.out (by kernel_rfl)) (by decide) (fun K hK => ?_)
            refine goes_ Try.func60 (by kernel_rfl) rfl #[.agg #[.int .i64 a0_0, .int .i64 a0_1, .slice (some ad452) l0_2.length c0_2], .int .i64 x44_2] (by rfl) rfl rfl arr_ ?_
            with_reducible refine (impl_Plan_from.calls k2 a0_0 a0_1 _ _ l0_2 x44_2 t455 _ ?side1 ?side2 A29.out).mono ?_
            (case side1 => exact kc_ (Kd.C_below HR0_2.out HB.out))
            (case side2 => exact HC0_2.out)
            rintro e w66 ⟨rfl, hb⟩
            refine ⟨_, rfl, ?_⟩
            have n0_ := am_ (bb_ BK447.out hb)
            have n1_ := am_ (bb_ BK453.out hb)
            have n2_ := am_ (below_step (hb2_ HB.out GE447.out GE453.out) hb)
            clear BK447
            clear BK453
            clear HB
            have BK447 := n0_
            have BK453 := n1_
            have HB := n2_
            clear n0_ n1_ n2_
            (try clear hb)
            (try clear hb2)
            (try clear hk)
            (try clear hi)
            refine hK.out _ _ ⟨(blk_cell BK447.out 0).trans rfl, (blk_cell BK447.out 1).trans rfl, (blk_cell BK447.out 2).trans rfl, (blk_cell BK453.out 0).trans rfl, (blk_cell BK453.out 1).trans rfl⟩ (fun hHeld => ?_)
            clear hK K
            refine norm_ (a' := ?_) ?_ ?_
            rotate_left
            ·show Act.put _ (some 55) _ = _
             simp only [Act.put, List.setIfInBounds_toArray, List.set_cons_zero, List.set_cons_succ, i64_w, i32_w]
             rfl
            refine pure_ (i := 9) (N := some 58) (v := ?_) (a' := ?_) #[true, true, true, true, true, true, true, true, true, true, false, false] rfl rfl (any_of HT_.out (by kernel_rfl)) (fun _ _ _ h => h) (Or.inl ⟨by rfl, ?_⟩) ?_ ?_
            rotate_left
            ·intro w'
             go_simp
             with_reducible rfl
            rotate_left
            ·simp only [Act.put, List.setIfInBounds_toArray, List.set_cons_zero, List.set_cons_succ, i64_w, i32_w]
             rfl
            refine pure_ (i := 10) (N := some 59) (v := ?_) (a' := ?_) #[true, true, true, true, true, true, true, true, true, true, true, false] rfl rfl (any_of HT_.out (by kernel_rfl)) (fun _ _ _ h => h) (Or.inl ⟨by rfl, ?_⟩) ?_ ?_
            rotate_left
            ·intro w'
             go_simp
             with_reducible rfl
            rotate_left
            ·simp only [Act.put, List.setIfInBounds_toArray, List.set_cons_zero, List.set_cons_succ, i64_w, i32_w]
             rfl
            refine one_ (i := 11) (N := some 60) #[true, true, true, true, true, true, true, true, true, true, true, true] rfl rfl (one_of HT_.out (by kernel_rfl)) (by decide) (fun K hK => ?_)
            refine goes_ Try.func48 (by kernel_rfl) rfl #[.int .i64 (Int.tmod (wrap64 (a1 - a0_0)) t451), .int .i64 t454, .int .i64 (wrap64 ((wrap64 (t455 + ((rd_T42 l0_2 x44_2).f1))) - 1))] (by rfl) rfl rfl arr_ ?_
            with_reducible refine (impl_in.calls (Int.tmod (wrap64 (a1 - a0_0)) t451) t454 (wrap64 ((wrap64 (t455 + ((rd_T42 l0_2 x44_2).f1))) - 1)) false _ A30.out).mono ?_
            rintro e w' ⟨rfl, ⟨nd, rfl⟩⟩
            refine ⟨_, rfl, ?_⟩
            refine hK.out _ _ ⟨(blk_cell BK447.out 0).trans rfl, (blk_cell BK447.out 1).trans rfl, (blk_cell BK447.out 2).trans rfl, (blk_cell BK453.out 0).trans rfl, (blk_cell BK453.out 1).trans rfl⟩ (fun hHeld => ?_)
            clear hK K
            refine norm_ (a' := ?_) ?_ ?_
            rotate_left
            ·show Act.put _ (some 60) _ = _
             simp only [Act.put, List.setIfInBounds_toArray, List.set_cons_zero, List.set_cons_succ, i64_w, i32_w]
             rfl
            refine done_ (done_of HT_.out (by kernel_rfl)) ?_
            try go_wp2
            go_roundg k2
            case measure => have := HJ2.out; have := HK2.out; omega
            case rel => exact ⟨(wrap64 (x44_2 + 1)), (by first | rfl | (simp; done) | (simp [*]; done)), H', ⟨by have := HJ2.out; have := HK2.out; omega⟩, ⟨bk_ BK447.out⟩, ⟨hb2_ HB.out GE447.out GE453.out⟩⟩
          ·rw [if_neg c27] at H
           exact absurd H (by simp)
         ·rw [if_neg c26] at H
          exact absurd H (by simp)
        ·rw [if_neg c25] at H
         have c25b0 : decide (x44_2 < (l0_2.length : Int)) = false := decide_eq_false c25
         clear c25
         simp only [Option.some.injEq, Prod.mk.injEq] at H
         obtain ⟨rfl, rfl, rfl⟩ := H
         go_wp2
         go_ret3
         exact ⟨er_, hb1_ HB.out GE447.out⟩
end Go.Proofs.Ytllpmpfchidhoaa.P

namespace Go.Proofs.Ytllpmpfchidhoaa.P
open Go.RowKit Go.Proofs.YtllpmpfchidhoaaW.PrintWords Go.Proofs.YtllpmpfchidhoaaW.PrintLast Go.Proofs.YtllpmpfchidhoaaW.PrintMore
attribute [local go_sem] max2_int min2_int max_two min_two max_three min_three max_four min_four
set_option linter.unusedVariables false
set_option linter.unusedSimpArgs false
def impl_SlotFrom.f (k : Nat) (a0_0 : Int) (a0_1 : Int) (l0_2 : List (S42)) (a1 : Int) : Option (Int × Bool) := (impl_isSlot.f k a0_0 a0_1 l0_2 a1).bind fun t957 => (if t957 = true then ((impl_Plan_from.f k a0_0 a0_1 l0_2 a1).bind fun t958 => (some (t958, true))) else (some (0, false)))
set_option maxHeartbeats 8000000 in
set_option maxRecDepth 100000 in
theorem impl_SlotFrom.calls (k : Nat) (a0_0 : Int) (a0_1 : Int) (A0_2 : Option Addr) (c0_2 : Nat) (l0_2 : List (S42)) (a1 : Int) (r1 : Int) (r2 : Bool) (w : World) (hr0_2 : Kd.C k42 w A0_2 l0_2.length l0_2) (hc0_2 : l0_2.length ≤ c0_2) (h : impl_SlotFrom.f k a0_0 a0_1 l0_2 a1 = some (r1, r2)) :
  Calls Try.prog 30 #[.agg #[.int .i64 a0_0, .int .i64 a0_1, .slice A0_2 l0_2.length c0_2], .int .i64 a1] w fun e w' => e = .returned (.tuple #[.int .i64 r1, .bool r2]) ∧ Below w.heap.size w w' := by
 have hu30 := Try.underlying30
 have HR0_2 := Aside0.mk hr0_2
 have HC0_2 := Aside0.mk hc0_2
 clear hr0_2 hc0_2
 have HB := am_ (Below.refl w.heap.size w)
 have H : ((impl_isSlot.f k a0_0 a0_1 l0_2 a1).bind fun t957 => (if t957 = true then ((impl_Plan_from.f k a0_0 a0_1 l0_2 a1).bind fun t958 => (some (t958, true))) else (some (0, false)))) = some (r1, r2) := h
 clear h
 replace H := Option.bind_eq_some_iff.mp H
 obtain ⟨t957, A30, H⟩ := H
 replace H : (if t957 = true then ((impl_Plan_from.f k a0_0 a0_1 l0_2 a1).bind fun t958 => (some (t958, true))) else (some (0, false))) = some (r1, r2) := H
 have A3 := Aside0.mk A30
 clear A30
 by_cases c4 : t957 = true
 ·subst c4
  have H1 : ((impl_Plan_from.f k a0_0 a0_1 l0_2 a1).bind fun t958 => (some (t958, true))) = some (r1, r2) := by rw [if_pos rfl] at H; exact H
  clear H
  have H := H1
  clear H1
  replace H := Option.bind_eq_some_iff.mp H
  obtain ⟨t958, A50, H⟩ := H
  replace H : (some (t958, true)) = some (r1, r2) := H
  have A5 := Aside0.mk A50
  clear A50
  simp only [Option.some.injEq, Prod.mk.injEq] at H
  obtain ⟨rfl, rfl⟩ := H
  go_enter Try.func30, Try.ntmps30
  go_wp2_with (first | ((with_reducible refine gate_dst (N := 2) rfl ?_); refine be_ (N := 2) (cs := #[.int .i64 a0_0, .int .i64 a0_1, .slice A0_2 l0_2.length c0_2]) (t := 30) ?_; intro gb956 hg w6 hbox hb; have BK956 := am_ (hbox); have GW956 := am_ (hy_ hg (hb_ HB.out) : w.heap.size ≤ gb956); have GE956 := GW956; replace HB := am_ (below_step (hb_ HB.out) hb); clear hb hbox hg; obtain ⟨hcz7_0, hcz7_1, hcz7_2, hfz7_0, hfz7_1, hfz7_2⟩ := bc3_ BK956.out) | ((with_reducible refine gate_callee (f := 58) rfl ?_); refine gl_ Try.func58 #[.agg #[.int .i64 a0_0, .int .i64 a0_1, .slice A0_2 l0_2.length c0_2], .int .i64 a1] ?_; (with_reducible refine (impl_isSlot.calls k a0_0 a0_1 _ _ l0_2 a1 true _ ?side1 ?side2 A3.out).mono ?_); (case side1 => exact kc_ (Kd.C_below HR0_2.out HB.out)); (case side2 => exact HC0_2.out); rintro e w8 ⟨rfl, hb⟩; refine ⟨_, rfl, ?_⟩; replace BK956 := am_ (bb_ BK956.out hb); replace HB := am_ (below_step (hb1_ HB.out GE956.out) hb); (try clear hb); (try clear hb2); (try clear hk); (try clear hi); obtain ⟨hcz9_0, hcz9_1, hcz9_2, hfz9_0, hfz9_1, hfz9_2⟩ := bc3_ BK956.out) | ((with_reducible refine gate_callee (f := 60) rfl ?_); refine gl_ Try.func60 #[.agg #[.int .i64 a0_0, .int .i64 a0_1, .slice A0_2 l0_2.length c0_2], .int .i64 a1] ?_; (with_reducible refine (impl_Plan_from.calls k a0_0 a0_1 _ _ l0_2 a1 t958 _ ?side1 ?side2 A5.out).mono ?_); (case side1 => exact kc_ (Kd.C_below HR0_2.out HB.out)); (case side2 => exact HC0_2.out); rintro e w10 ⟨rfl, hb⟩; refine ⟨_, rfl, ?_⟩; replace BK956 := am_ (bb_ BK956.out hb); replace HB := am_ (below_step (hb1_ HB.out GE956.out) hb); (try clear hb); (try clear hb2); (try clear hk); (try clear hi)))
  go_ret2
  exact ⟨er_, hb1_ HB.out GE956.out⟩
 ·replace c4 := Bool.eq_false_iff.mpr c4
  subst c4
  have H1 : (some (0, false)) = some (r1, r2) := by rw [if_neg (show ¬ (false = true) by decide)] at H; exact H
  clear H
  have H := H1
  clear H1
  simp only [Option.some.injEq, Prod.mk.injEq] at H
  obtain ⟨rfl, rfl⟩ := H
  go_enter Try.func30, Try.ntmps30
  go_wp2_with (first | ((with_reducible refine gate_dst (N := 2) rfl ?_); refine be_ (N := 2) (cs := #[.int .i64 a0_0, .int .i64 a0_1, .slice A0_2 l0_2.length c0_2]) (t := 30) ?_; intro gb956 hg w11 hbox hb; have BK956 := am_ (hbox); have GW956 := am_ (hy_ hg (hb_ HB.out) : w.heap.size ≤ gb956); have GE956 := GW956; replace HB := am_ (below_step (hb_ HB.out) hb); clear hb hbox hg; obtain ⟨hcz12_0, hcz12_1, hcz12_2, hfz12_0, hfz12_1, hfz12_2⟩ := bc3_ BK956.out) | ((with_reducible refine gate_callee (f := 58) rfl ?_); refine gl_ Try.func58 #[.agg #[.int .i64 a0_0, .int .i64 a0_1, .slice A0_2 l0_2.length c0_2], .int .i64 a1] ?_; (with_reducible refine (impl_isSlot.calls k a0_0 a0_1 _ _ l0_2 a1 false _ ?side1 ?side2 A3.out).mono ?_); (case side1 => exact kc_ (Kd.C_below HR0_2.out HB.out)); (case side2 => exact HC0_2.out); rintro e w13 ⟨rfl, hb⟩; refine ⟨_, rfl, ?_⟩; replace BK956 := am_ (bb_ BK956.out hb); replace HB := am_ (below_step (hb1_ HB.out GE956.out) hb); (try clear hb); (try clear hb2); (try clear hk); (try clear hi)))
  go_ret2
  exact ⟨er_, hb1_ HB.out GE956.out⟩
end Go.Proofs.Ytllpmpfchidhoaa.P
