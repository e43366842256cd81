/- Texts of the seat's proofs, part 5: functions of the program told as plain functions, with their contracts, and what is shown of them. No condition. -/
import Derived.Test.YtllpmpfchidhoaaUKFGT
import Derived.Test.YtllpmpfchidhoaaKFGT1
import Derived.Test.YtllpmpfchidhoaaKFGT2
import Derived.Test.YtllpmpfchidhoaaKFGT3
import Derived.Test.YtllpmpfchidhoaaKFGT4
set_option linter.unusedVariables false
set_option linter.unusedSimpArgs false
namespace Go.Proofs.Ytllpmpfchidhoaa.P
open Go.RowKit Go.Proofs.YtllpmpfchidhoaaW.PrintWords Go.Proofs.YtllpmpfchidhoaaW.PrintLast Go.Proofs.YtllpmpfchidhoaaW.PrintMore
attribute [local go_sem] max2_int min2_int max_two min_two max_three min_three max_four min_four
set_option linter.unusedVariables false
set_option linter.unusedSimpArgs false
mutual
def spec_DrawGateAsk.j0 : Nat → Int → Int → Bool → List Int → Int → Int → Int → Int → List (S42) → Int → Int → Int → Int → Option (Int × Int × Bool × Int × Int × Int × Int × Int × (List (S42)) × Int)
 | 0, _, _, _, _, _, _, _, _, _, _, _, _, _ => none
 | k + 1, x13, x14, x47, x336000, x336001, x336002, x344000, x344001, x344002, x349000, x349001, x357000, x357001 => if x47 = true then (if 0 ≤ x14 then (if x14 < (x344002.length : Int) then (spec_DrawGateAsk.j1 k ((rd_T42 x344002 x14).f0) x336000 x336001 x336002 x344000 x344001 x344002 x349000 x349001 x357000 x357001) else (none)) else (none)) else (spec_DrawGateAsk.j1 k x13 x336000 x336001 x336002 x344000 x344001 x344002 x349000 x349001 x357000 x357001)
def spec_DrawGateAsk.j1 : Nat → Int → List Int → Int → Int → Int → Int → List (S42) → Int → Int → Int → Int → Option (Int × Int × Bool × Int × Int × Int × Int × Int × (List (S42)) × Int)
 | 0, _, _, _, _, _, _, _, _, _, _, _ => none
 | k + 1, x13, x336000, x336001, x336002, x344000, x344001, x344002, x349000, x349001, x357000, x357001 => (spec_l1Once.f x336000 x336001 x336002 25).bind fun bt367 => (if bt367.1 = true then ((spec_l1PickInt.f x336000 bt367.2.1 bt367.2.2 (([(-1), 8] : List Int))).bind fun bt373 => ((spec_l1Once.f x336000 bt373.2.1 bt373.2.2 9).bind fun bt376 => ((spec_l14DrawLong.f x336000 bt376.2.1 bt376.2.2).bind fun bt379 => (some (x357000, x357001, !bt376.1, x349000, x349001, bt379.1, x344000, x344001, x344002, bt373.1))))) else ((spec_l1Once.f x336000 bt367.2.1 bt367.2.2 9).bind fun bt382 => ((spec_l14DrawLong.f x336000 bt382.2.1 bt382.2.2).bind fun bt385 => (some (x357000, x357001, !bt382.1, x349000, x349001, bt385.1, x344000, x344001, x344002, x13)))))
end
def spec_DrawGateAsk.f (k : Nat) (l0 : List Int) : Option (Int × Int × Bool × Int × Int × Int × Int × Int × (List (S42)) × Int) := (spec_l1New.f k l0).bind fun bt332 => ((spec_l13DrawAny.f k bt332.1 bt332.2.1 bt332.2.2).bind fun bt336 => ((spec_l6DrawDrift.f bt332.1 bt336.2.2.2.1 bt336.2.2.2.2).bind fun bt344 => ((spec_l13DrawTime.f k bt332.1 bt344.2.2.1 bt344.2.2.2 bt336.1 bt336.2.1 bt336.2.2.1).bind fun bt349 => ((spec_l1Min.f bt349.1 1000000000000).bind fun t352 => ((spec_l1Below.f bt332.1 bt349.2.1 bt349.2.2 12).bind fun bt353 => ((spec_l1Below.f bt332.1 bt353.2.1 bt353.2.2 4).bind fun bt357 => ((spec_SlotAt.f k bt336.1 bt336.2.1 bt336.2.2.1 bt349.1).bind fun bt360 => (if bt360.2.2 = true then ((spec_l1Once.f bt332.1 bt357.2.1 bt357.2.2 6).bind fun bt363 => (spec_DrawGateAsk.j0 k bt357.1 bt360.1 (!bt363.1) bt332.1 bt363.2.1 bt363.2.2 bt336.1 bt336.2.1 bt336.2.2.1 bt344.1 bt344.2.1 bt349.1 (wrap64 (t352 + bt353.1)))) else (spec_DrawGateAsk.j0 k bt357.1 bt360.1 false bt332.1 bt357.2.1 bt357.2.2 bt336.1 bt336.2.1 bt336.2.2.1 bt344.1 bt344.2.1 bt349.1 (wrap64 (t352 + bt353.1)))))))))))
def spec_DrawGateAsk.T12 : Bool × List (List Nat × List Nat) := (true, [([], []), ([], []), ([1], [1]), ([2], [2]), ([], []), ([], []), ([5, 2], [5]), ([], []), ([], []), ([0, 6, 0], [0]), ([3, 9, 0, 1, 2, 3, 9], [3]), ([4, 10, 0, 1, 2, 3, 4, 9, 10], [4]), ([6, 11, 0, 1, 2, 3, 4, 5, 6, 9, 10, 11], [6]), ([7, 12, 0, 1, 2, 3, 4, 5, 6, 7, 9, 10, 11, 12], [7]), ([8, 13, 0, 1, 2, 3, 4, 5, 6, 7, 8, 9, 10, 11, 12, 13], [8])])
def spec_DrawGateAsk.B12 : List Nat := [0, 0, 2, 6, 0, 0, 38, 0, 0, 103, 623, 1663, 3711, 7935, 16383]
theorem spec_DrawGateAsk.tab12 : rtab .any (opsOf Try.f9 12) = spec_DrawGateAsk.T12 := by kernel_rfl
theorem spec_DrawGateAsk.bits12 : waitsOk spec_DrawGateAsk.T12.2 spec_DrawGateAsk.B12 = true := by kernel_rfl
set_option maxHeartbeats 8000000 in
set_option maxRecDepth 100000 in
theorem spec_DrawGateAsk.calls (k : Nat) (A0 : Option Addr) (c0 : Nat) (l0 : List Int) (r1 : Int) (r2 : Int) (r3 : Bool) (r4 : Int) (r5 : Int) (r6 : Int) (r7 : Int) (r8 : Int) (r9 : List (S42)) (r10 : Int) (w : World) (hr0 : Kd.C (Kd.int .u8) w A0 l0.length l0) (hc0 : l0.length ≤ c0) (h : spec_DrawGateAsk.f k l0 = some (r1, r2, r3, r4, r5, r6, r7, r8, r9, r10)) :
  Calls Try.prog 9 #[.slice A0 l0.length c0] w fun e w' => ∃ v8_ : Value, e = .returned (.tuple #[.agg #[.int .i64 r1, .int .i64 r2], .bool r3, .agg #[.int .i64 r4, .int .i64 r5], .int .i64 r6, .agg #[.int .i64 r7, .int .i64 r8, v8_], .int .i64 r10]) ∧ Kd.R k42 42 w' w.heap.size (fun _ => True) v8_ r9 ∧ Below w.heap.size w w' := by
 have hu25 := Try.underlying25
 have hu27 := Try.underlying27
 have hu30 := Try.underlying30
 have HR0 := Aside0.mk hr0
 have HC0 := Aside0.mk hc0
 clear hr0 hc0
 have HB := am_ (Below.refl w.heap.size w)
 have H : ((spec_l1New.f k l0).bind fun bt332 => ((spec_l13DrawAny.f k bt332.1 bt332.2.1 bt332.2.2).bind fun bt336 => ((spec_l6DrawDrift.f bt332.1 bt336.2.2.2.1 bt336.2.2.2.2).bind fun bt344 => ((spec_l13DrawTime.f k bt332.1 bt344.2.2.1 bt344.2.2.2 bt336.1 bt336.2.1 bt336.2.2.1).bind fun bt349 => ((spec_l1Min.f bt349.1 1000000000000).bind fun t352 => ((spec_l1Below.f bt332.1 bt349.2.1 bt349.2.2 12).bind fun bt353 => ((spec_l1Below.f bt332.1 bt353.2.1 bt353.2.2 4).bind fun bt357 => ((spec_SlotAt.f k bt336.1 bt336.2.1 bt336.2.2.1 bt349.1).bind fun bt360 => (if bt360.2.2 = true then ((spec_l1Once.f bt332.1 bt357.2.1 bt357.2.2 6).bind fun bt363 => (spec_DrawGateAsk.j0 k bt357.1 bt360.1 (!bt363.1) bt332.1 bt363.2.1 bt363.2.2 bt336.1 bt336.2.1 bt336.2.2.1 bt344.1 bt344.2.1 bt349.1 (wrap64 (t352 + bt353.1)))) else (spec_DrawGateAsk.j0 k bt357.1 bt360.1 false bt332.1 bt357.2.1 bt357.2.2 bt336.1 bt336.2.1 bt336.2.2.1 bt344.1 bt344.2.1 bt349.1 (wrap64 (t352 + bt353.1)))))))))))) = some (r1, r2, r3, r4, r5, r6, r7, r8, r9, r10) := h
 clear h
 replace H := Option.bind_eq_some_iff.mp H
 obtain ⟨⟨t332, t333, t334⟩, A20, H⟩ := H
 replace H : ((spec_l13DrawAny.f k t332 t333 t334).bind fun bt336 => ((spec_l6DrawDrift.f t332 bt336.2.2.2.1 bt336.2.2.2.2).bind fun bt344 => ((spec_l13DrawTime.f k t332 bt344.2.2.1 bt344.2.2.2 bt336.1 bt336.2.1 bt336.2.2.1).bind fun bt349 => ((spec_l1Min.f bt349.1 1000000000000).bind fun t352 => ((spec_l1Below.f t332 bt349.2.1 bt349.2.2 12).bind fun bt353 => ((spec_l1Below.f t332 bt353.2.1 bt353.2.2 4).bind fun bt357 => ((spec_SlotAt.f k bt336.1 bt336.2.1 bt336.2.2.1 bt349.1).bind fun bt360 => (if bt360.2.2 = true then ((spec_l1Once.f t332 bt357.2.1 bt357.2.2 6).bind fun bt363 => (spec_DrawGateAsk.j0 k bt357.1 bt360.1 (!bt363.1) t332 bt363.2.1 bt363.2.2 bt336.1 bt336.2.1 bt336.2.2.1 bt344.1 bt344.2.1 bt349.1 (wrap64 (t352 + bt353.1)))) else (spec_DrawGateAsk.j0 k bt357.1 bt360.1 false t332 bt357.2.1 bt357.2.2 bt336.1 bt336.2.1 bt336.2.2.1 bt344.1 bt344.2.1 bt349.1 (wrap64 (t352 + bt353.1))))))))))) = some (r1, r2, r3, r4, r5, r6, r7, r8, r9, r10) := H
 have A2 := Aside0.mk A20
 clear A20
 replace H := Option.bind_eq_some_iff.mp H
 obtain ⟨⟨t336, t337, t338, t341, t342⟩, A30, H⟩ := H
 replace H : ((spec_l6DrawDrift.f t332 t341 t342).bind fun bt344 => ((spec_l13DrawTime.f k t332 bt344.2.2.1 bt344.2.2.2 t336 t337 t338).bind fun bt349 => ((spec_l1Min.f bt349.1 1000000000000).bind fun t352 => ((spec_l1Below.f t332 bt349.2.1 bt349.2.2 12).bind fun bt353 => ((spec_l1Below.f t332 bt353.2.1 bt353.2.2 4).bind fun bt357 => ((spec_SlotAt.f k t336 t337 t338 bt349.1).bind fun bt360 => (if bt360.2.2 = true then ((spec_l1Once.f t332 bt357.2.1 bt357.2.2 6).bind fun bt363 => (spec_DrawGateAsk.j0 k bt357.1 bt360.1 (!bt363.1) t332 bt363.2.1 bt363.2.2 t336 t337 t338 bt344.1 bt344.2.1 bt349.1 (wrap64 (t352 + bt353.1)))) else (spec_DrawGateAsk.j0 k bt357.1 bt360.1 false t332 bt357.2.1 bt357.2.2 t336 t337 t338 bt344.1 bt344.2.1 bt349.1 (wrap64 (t352 + bt353.1)))))))))) = some (r1, r2, r3, r4, r5, r6, r7, r8, r9, r10) := H
 have A3 := Aside0.mk A30
 clear A30
 replace H := Option.bind_eq_some_iff.mp H
 obtain ⟨⟨t344, t345, t346, t347⟩, A40, H⟩ := H
 replace H : ((spec_l13DrawTime.f k t332 t346 t347 t336 t337 t338).bind fun bt349 => ((spec_l1Min.f bt349.1 1000000000000).bind fun t352 => ((spec_l1Below.f t332 bt349.2.1 bt349.2.2 12).bind fun bt353 => ((spec_l1Below.f t332 bt353.2.1 bt353.2.2 4).bind fun bt357 => ((spec_SlotAt.f k t336 t337 t338 bt349.1).bind fun bt360 => (if bt360.2.2 = true then ((spec_l1Once.f t332 bt357.2.1 bt357.2.2 6).bind fun bt363 => (spec_DrawGateAsk.j0 k bt357.1 bt360.1 (!bt363.1) t332 bt363.2.1 bt363.2.2 t336 t337 t338 t344 t345 bt349.1 (wrap64 (t352 + bt353.1)))) else (spec_DrawGateAsk.j0 k bt357.1 bt360.1 false t332 bt357.2.1 bt357.2.2 t336 t337 t338 t344 t345 bt349.1 (wrap64 (t352 + bt353.1))))))))) = some (r1, r2, r3, r4, r5, r6, r7, r8, r9, r10) := H
 have A4 := Aside0.mk A40
 clear A40
 replace H := Option.bind_eq_some_iff.mp H
 obtain ⟨⟨t349, t350, t351⟩, A50, H⟩ := H
 replace H : ((spec_l1Min.f t349 1000000000000).bind fun t352 => ((spec_l1Below.f t332 t350 t351 12).bind fun bt353 => ((spec_l1Below.f t332 bt353.2.1 bt353.2.2 4).bind fun bt357 => ((spec_SlotAt.f k t336 t337 t338 t349).bind fun bt360 => (if bt360.2.2 = true then ((spec_l1Once.f t332 bt357.2.1 bt357.2.2 6).bind fun bt363 => (spec_DrawGateAsk.j0 k bt357.1 bt360.1 (!bt363.1) t332 bt363.2.1 bt363.2.2 t336 t337 t338 t344 t345 t349 (wrap64 (t352 + bt353.1)))) else (spec_DrawGateAsk.j0 k bt357.1 bt360.1 false t332 bt357.2.1 bt357.2.2 t336 t337 t338 t344 t345 t349 (wrap64 (t352 + bt353.1)))))))) = some (r1, r2, r3, r4, r5, r6, r7, r8, r9, r10) := H
 have A5 := Aside0.mk A50
 clear A50
 replace H := Option.bind_eq_some_iff.mp H
 obtain ⟨t352, A60, H⟩ := H
 replace H : ((spec_l1Below.f t332 t350 t351 12).bind fun bt353 => ((spec_l1Below.f t332 bt353.2.1 bt353.2.2 4).bind fun bt357 => ((spec_SlotAt.f k t336 t337 t338 t349).bind fun bt360 => (if bt360.2.2 = true then ((spec_l1Once.f t332 bt357.2.1 bt357.2.2 6).bind fun bt363 => (spec_DrawGateAsk.j0 k bt357.1 bt360.1 (!bt363.1) t332 bt363.2.1 bt363.2.2 t336 t337 t338 t344 t345 t349 (wrap64 (t352 + bt353.1)))) else (spec_DrawGateAsk.j0 k bt357.1 bt360.1 false t332 bt357.2.1 bt357.2.2 t336 t337 t338 t344 t345 t349 (wrap64 (t352 + bt353.1))))))) = some (r1, r2, r3, r4, r5, r6, r7, r8, r9, r10) := H
 have A6 := Aside0.mk A60
 clear A60
 replace H := Option.bind_eq_some_iff.mp H
 obtain ⟨⟨t353, t354, t355⟩, A70, H⟩ := H
 replace H : ((spec_l1Below.f t332 t354 t355 4).bind fun bt357 => ((spec_SlotAt.f k t336 t337 t338 t349).bind fun bt360 => (if bt360.2.2 = true then ((spec_l1Once.f t332 bt357.2.1 bt357.2.2 6).bind fun bt363 => (spec_DrawGateAsk.j0 k bt357.1 bt360.1 (!bt363.1) t332 bt363.2.1 bt363.2.2 t336 t337 t338 t344 t345 t349 (wrap64 (t352 + t353)))) else (spec_DrawGateAsk.j0 k bt357.1 bt360.1 false t332 bt357.2.1 bt357.2.2 t336 t337 t338 t344 t345 t349 (wrap64 (t352 + t353)))))) = some (r1, r2, r3, r4, r5, r6, r7, r8, r9, r10) := H
 have A7 := Aside0.mk A70
 clear A70
 replace H := Option.bind_eq_some_iff.mp H
 obtain ⟨⟨t357, t358, t359⟩, A80, H⟩ := H
 replace H : ((spec_SlotAt.f k t336 t337 t338 t349).bind fun bt360 => (if bt360.2.2 = true then ((spec_l1Once.f t332 t358 t359 6).bind fun bt363 => (spec_DrawGateAsk.j0 k t357 bt360.1 (!bt363.1) t332 bt363.2.1 bt363.2.2 t336 t337 t338 t344 t345 t349 (wrap64 (t352 + t353)))) else (spec_DrawGateAsk.j0 k t357 bt360.1 false t332 t358 t359 t336 t337 t338 t344 t345 t349 (wrap64 (t352 + t353))))) = some (r1, r2, r3, r4, r5, r6, r7, r8, r9, r10) := H
 have A8 := Aside0.mk A80
 clear A80
 replace H := Option.bind_eq_some_iff.mp H
 obtain ⟨⟨t360, t361, t362⟩, A90, H⟩ := H
 replace H : (if t362 = true then ((spec_l1Once.f t332 t358 t359 6).bind fun bt363 => (spec_DrawGateAsk.j0 k t357 t360 (!bt363.1) t332 bt363.2.1 bt363.2.2 t336 t337 t338 t344 t345 t349 (wrap64 (t352 + t353)))) else (spec_DrawGateAsk.j0 k t357 t360 false t332 t358 t359 t336 t337 t338 t344 t345 t349 (wrap64 (t352 + t353)))) = some (r1, r2, r3, r4, r5, r6, r7, r8, r9, r10) := H
 have A9 := Aside0.mk A90
 clear A90
 have HC10 := Aside0.mk H
 clear H
 go_enter Try.func9, Try.ntmps9
 go_upto_region 8 with (first | ((with_reducible refine gate_dst (N := 2) rfl ?_); refine be_ (N := 2) (cs := #[.int .i64 0, .int .i64 0]) (t := 25) ?_; intro gb329 hg w11 hbox hb; have BK329 := am_ (hbox); have GW329 := am_ (hy_ hg (hb_ HB.out) : w.heap.size ≤ gb329); have GE329 := GW329; replace HB := am_ (below_step (hb_ HB.out) hb); clear hb hbox hg) | ((with_reducible refine gate_dst (N := 4) rfl ?_); refine be_ (N := 4) (cs := #[.int .i64 0, .int .i64 0]) (t := 27) ?_; intro gb330 hg w12 hbox hb; have BK330 := am_ (hbox); have GW330 := am_ (hy_ hg (hb1_ HB.out GE329.out) : w.heap.size ≤ gb330); have GE330 := GW330; have NB329_330 := am_ (bl_ hg BK329.out : gb329 ≠ gb330); have NB330_329 := nb_ NB329_330; replace BK329 := am_ (bb_ BK329.out hb); replace HB := am_ (below_step (hb1_ HB.out GE329.out) hb); clear hb hbox hg) | ((with_reducible refine gate_dst (N := 6) rfl ?_); refine be_ (N := 6) (cs := #[.int .i64 0, .int .i64 0, .slice none 0 0]) (t := 30) ?_; intro gb331 hg w13 hbox hb; have BK331 := am_ (hbox); have GW331 := am_ (hy_ hg (hb2_ HB.out GE329.out GE330.out) : w.heap.size ≤ gb331); have GE331 := GW331; have NB329_331 := am_ (bl_ hg BK329.out : gb329 ≠ gb331); have NB331_329 := nb_ NB329_331; have NB330_331 := am_ (bl_ hg BK330.out : gb330 ≠ gb331); have NB331_330 := nb_ NB330_331; replace BK329 := am_ (bb_ BK329.out hb); replace BK330 := am_ (bb_ BK330.out hb); replace HB := am_ (below_step (hb2_ HB.out GE329.out GE330.out) hb); clear hb hbox hg) | ((with_reducible refine gate_callee (f := 36) rfl ?_); refine gl_ Try.func36 #[.slice A0 l0.length c0] ?_; (with_reducible refine (spec_l1New.calls k _ _ l0 t332 t333 t334 w _ ?side1 ?side2 ?side3 A2.out).mono ?_); (case side1 => exact hb3_ HB.out GE329.out GE330.out GE331.out); (case side2 => exact HR0.out); (case side3 => exact HC0.out); rintro e w14 ⟨g335, rfl, hi, hb, hb2⟩; refine ⟨_, rfl, ?_⟩; have HI335 := am_ (hi); have NB335_329 := am_ (IsS94.ne_blk hi (blk_below (g := gb329) (o := .cells #[.int .i64 0, .int .i64 0] 25 (0, 0)) (bk_ BK329.out) hb2) (by decide)); have NB329_335 := am_ (Ne.symm (IsS94.ne_blk hi (blk_below (g := gb329) (o := .cells #[.int .i64 0, .int .i64 0] 25 (0, 0)) (bk_ BK329.out) hb2) (by decide))); have NB335_330 := am_ (IsS94.ne_blk hi (blk_below (g := gb330) (o := .cells #[.int .i64 0, .int .i64 0] 27 (0, 0)) (bk_ BK330.out) hb2) (by decide)); have NB330_335 := am_ (Ne.symm (IsS94.ne_blk hi (blk_below (g := gb330) (o := .cells #[.int .i64 0, .int .i64 0] 27 (0, 0)) (bk_ BK330.out) hb2) (by decide))); have NB335_331 := am_ (IsS94.ne_blk hi (blk_below (g := gb331) (o := .cells #[.int .i64 0, .int .i64 0, .slice none 0 0] 30 (0, 0)) (bk_ BK331.out) hb2) (by decide)); have NB331_335 := am_ (Ne.symm (IsS94.ne_blk hi (blk_below (g := gb331) (o := .cells #[.int .i64 0, .int .i64 0, .slice none 0 0] 30 (0, 0)) (bk_ BK331.out) hb2) (by decide))); replace BK329 := am_ (blk_below (g := gb329) (o := .cells #[.int .i64 0, .int .i64 0] 25 (0, 0)) (bk_ BK329.out) hb2); replace BK330 := am_ (blk_below (g := gb330) (o := .cells #[.int .i64 0, .int .i64 0] 27 (0, 0)) (bk_ BK330.out) hb2); replace BK331 := am_ (blk_below (g := gb331) (o := .cells #[.int .i64 0, .int .i64 0, .slice none 0 0] 30 (0, 0)) (bk_ BK331.out) hb2); replace HB := am_ (hb); (try clear hb); (try clear hb2); (try clear hk); (try clear hi)) | ((with_reducible refine gate_callee (f := 37) rfl ?_); refine gl_ Try.func37 #[.pointer (some ⟨g335, 0, none⟩)] ?_; (with_reducible refine (spec_l13DrawAny.calls k g335 t332 t333 t334 t336 t337 t338 t341 t342 w _ ?side1 ?side2 A3.out).mono ?_); (case side1 => repeat (first | (with_reducible first | exact HI335.out | apply IsS94.alloc | apply IsS94.drewN | apply IsS94.drew | apply IsS94.set_1 | apply IsS94.set_2 | refine IsS94.far ?_ NB335_329.out _ | refine IsS94.far ?_ NB335_330.out _ | refine IsS94.far ?_ NB335_331.out _) | exact HI335.out)); (case side2 => exact hb4_ HB.out (IsS94.ge HI335.out) GE329.out GE330.out GE331.out); rintro e w15 ⟨v339, rfl, ho0, hi, hb, hk⟩; refine ⟨_, rfl, ?_⟩; have HO340 := am_ (Kd.R_lower ho0 (below_size (hb4_ HB.out (IsS94.ge HI335.out) GE329.out GE330.out GE331.out))); replace BK329 := am_ (KeepBut.blk hk (g' := gb329) (o := .cells #[.int .i64 0, .int .i64 0] 25 (0, 0)) (bk_ BK329.out) NB329_335.out (by simp)); replace BK330 := am_ (KeepBut.blk hk (g' := gb330) (o := .cells #[.int .i64 0, .int .i64 0] 27 (0, 0)) (bk_ BK330.out) NB330_335.out (by simp)); replace BK331 := am_ (KeepBut.blk hk (g' := gb331) (o := .cells #[.int .i64 0, .int .i64 0, .slice none 0 0] 30 (0, 0)) (bk_ BK331.out) NB331_335.out (by simp)); replace HI335 := am_ (hi); replace HB := am_ (hb); (try clear hb); (try clear hb2); (try clear hk); (try clear hi); (try clear ho0)) | ((with_reducible refine gate_dst (N := 9) rfl ?_); refine be_ (N := 9) (cs := #[.int .i64 0, .int .i64 0, .slice none 0 0]) (t := 30) ?_; intro gb343 hg w16 hbox hb; have n0_ := am_ (Kd.R_below (by (with_reducible repeat (first | apply Kd.R_alloc | apply Kd.R_drewN | apply Kd.R_drew)); exact HO340.out) hb); have n1_ := am_ (bb_ BK329.out hb); have n2_ := am_ (bb_ BK330.out hb); have n3_ := am_ (bb_ BK331.out hb); have n4_ := am_ (IsS94.below (by repeat (first | (with_reducible first | exact HI335.out | apply IsS94.alloc | apply IsS94.drewN | apply IsS94.drew | apply IsS94.set_1 | apply IsS94.set_2 | refine IsS94.far ?_ NB335_329.out _ | refine IsS94.far ?_ NB335_330.out _ | refine IsS94.far ?_ NB335_331.out _) | exact HI335.out)) hb); have n5_ := am_ (below_step (hb4_ HB.out (IsS94.ge HI335.out) GE329.out GE330.out GE331.out) hb); have n6_ := am_ (hbox); have n7_ := am_ ((by rw [hg]; exact (below_size (hb4_ HB.out (IsS94.ge HI335.out) GE329.out GE330.out GE331.out)) : w.heap.size ≤ gb343)); have n8_ := am_ ((by rw [hg]; exact (below_size (hb4_ HB.out (IsS94.ge HI335.out) GE329.out GE330.out GE331.out)) : w.heap.size ≤ gb343)); have n9_ := am_ ((bl_ hg BK329.out : gb329 ≠ gb343)); have n10_ := am_ ((bg_ hg BK329.out : gb343 ≠ gb329)); have n11_ := am_ ((bl_ hg BK330.out : gb330 ≠ gb343)); have n12_ := am_ ((bg_ hg BK330.out : gb343 ≠ gb330)); have n13_ := am_ ((bl_ hg BK331.out : gb331 ≠ gb343)); have n14_ := am_ ((bg_ hg BK331.out : gb343 ≠ gb331)); have n15_ := am_ ((by rw [hg]; exact Nat.ne_of_lt (IsS94.lt (show IsS94 w _ g335 t332 t341 t342 from by repeat (first | (with_reducible first | exact HI335.out | apply IsS94.alloc | apply IsS94.drewN | apply IsS94.drew | apply IsS94.set_1 | apply IsS94.set_2 | refine IsS94.far ?_ NB335_329.out _ | refine IsS94.far ?_ NB335_330.out _ | refine IsS94.far ?_ NB335_331.out _) | exact HI335.out))) : g335 ≠ gb343)); have n16_ := am_ ((by rw [hg]; exact Nat.ne_of_gt (IsS94.lt (show IsS94 w _ g335 t332 t341 t342 from by repeat (first | (with_reducible first | exact HI335.out | apply IsS94.alloc | apply IsS94.drewN | apply IsS94.drew | apply IsS94.set_1 | apply IsS94.set_2 | refine IsS94.far ?_ NB335_329.out _ | refine IsS94.far ?_ NB335_330.out _ | refine IsS94.far ?_ NB335_331.out _) | exact HI335.out))) : gb343 ≠ g335)); clear HO340; clear BK329; clear BK330; clear BK331; clear HI335; clear HB; have HO340 := n0_; have BK329 := n1_; have BK330 := n2_; have BK331 := n3_; have HI335 := n4_; have HB := n5_; have BK343 := n6_; have GW343 := n7_; have GE343 := n8_; have NB329_343 := n9_; have NB343_329 := n10_; have NB330_343 := n11_; have NB343_330 := n12_; have NB331_343 := n13_; have NB343_331 := n14_; have NB335_343 := n15_; have NB343_335 := n16_; clear n0_ n1_ n2_ n3_ n4_ n5_ n6_ n7_ n8_ n9_ n10_ n11_ n12_ n13_ n14_ n15_ n16_; clear hb hbox hg; have hnb17 := NB343_329.out; have hnc17 := NB329_343.out; have hnb18 := NB343_330.out; have hnc18 := NB330_343.out; have hnb19 := NB343_331.out; have hnc19 := NB331_343.out; have hnb20 := NB343_335.out; have hnc20 := NB335_343.out; obtain ⟨hcz21_0, hcz21_1, hcz21_2, hfz21_0, hfz21_1, hfz21_2⟩ := bc3_ BK343.out; obtain ⟨Ao22, co22, eo22⟩ := Kd.R_slice HO340.out; subst eo22) | ((with_reducible refine gate_callee (f := 38) rfl ?_); refine gl_ Try.func38 #[.pointer (some ⟨g335, 0, none⟩)] ?_; (with_reducible refine (spec_l6DrawDrift.calls g335 t332 t341 t342 t344 t345 t346 t347 w _ ?side1 ?side2 A4.out).mono ?_); (case side1 => repeat (first | (with_reducible first | exact HI335.out | apply IsS94.alloc | apply IsS94.drewN | apply IsS94.drew | apply IsS94.set_1 | apply IsS94.set_2 | refine IsS94.far ?_ NB335_329.out _ | refine IsS94.far ?_ NB335_330.out _ | refine IsS94.far ?_ NB335_331.out _ | refine IsS94.far ?_ NB335_343.out _) | exact HI335.out)); (case side2 => exact hb5_ HB.out (IsS94.ge HI335.out) GE329.out GE330.out GE331.out GE343.out); rintro e w23 ⟨rfl, hi, hb, hk⟩; refine ⟨_, rfl, ?_⟩; replace BK329 := am_ (KeepBut.blk hk (g' := gb329) (o := .cells #[.int .i64 0, .int .i64 0] 25 (0, 0)) (by (with_reducible repeat (first | refine blk_drewN ?_ _ | refine blk_drew ?_ | refine blk_alloc ?_ _)); refine blk_far ?_ NB329_343.out _; (with_reducible repeat (first | refine blk_drewN ?_ _ | refine blk_drew ?_ | refine blk_alloc ?_ _)); refine blk_far ?_ NB329_343.out _; (with_reducible repeat (first | refine blk_drewN ?_ _ | refine blk_drew ?_ | refine blk_alloc ?_ _)); refine blk_far ?_ NB329_343.out _; (with_reducible repeat (first | refine blk_drewN ?_ _ | refine blk_drew ?_ | refine blk_alloc ?_ _)); exact BK329.out) NB329_335.out (by simp)); replace BK330 := am_ (KeepBut.blk hk (g' := gb330) (o := .cells #[.int .i64 0, .int .i64 0] 27 (0, 0)) (by (with_reducible repeat (first | refine blk_drewN ?_ _ | refine blk_drew ?_ | refine blk_alloc ?_ _)); refine blk_far ?_ NB330_343.out _; (with_reducible repeat (first | refine blk_drewN ?_ _ | refine blk_drew ?_ | refine blk_alloc ?_ _)); refine blk_far ?_ NB330_343.out _; (with_reducible repeat (first | refine blk_drewN ?_ _ | refine blk_drew ?_ | refine blk_alloc ?_ _)); refine blk_far ?_ NB330_343.out _; (with_reducible repeat (first | refine blk_drewN ?_ _ | refine blk_drew ?_ | refine blk_alloc ?_ _)); exact BK330.out) NB330_335.out (by simp)); replace BK331 := am_ (KeepBut.blk hk (g' := gb331) (o := .cells #[.int .i64 0, .int .i64 0, .slice none 0 0] 30 (0, 0)) (by (with_reducible repeat (first | refine blk_drewN ?_ _ | refine blk_drew ?_ | refine blk_alloc ?_ _)); refine blk_far ?_ NB331_343.out _; (with_reducible repeat (first | refine blk_drewN ?_ _ | refine blk_drew ?_ | refine blk_alloc ?_ _)); refine blk_far ?_ NB331_343.out _; (with_reducible repeat (first | refine blk_drewN ?_ _ | refine blk_drew ?_ | refine blk_alloc ?_ _)); refine blk_far ?_ NB331_343.out _; (with_reducible repeat (first | refine blk_drewN ?_ _ | refine blk_drew ?_ | refine blk_alloc ?_ _)); exact BK331.out) NB331_335.out (by simp)); replace HO340 := am_ (Kd.R_mono (Kd.R_keep (IsS94.apart (show IsS94 w _ g335 t332 t341 t342 from by repeat (first | (with_reducible first | exact HI335.out | apply IsS94.alloc | apply IsS94.drewN | apply IsS94.drew | apply IsS94.set_1 | apply IsS94.set_2 | refine IsS94.far ?_ NB335_329.out _ | refine IsS94.far ?_ NB335_330.out _ | refine IsS94.far ?_ NB335_331.out _ | refine IsS94.far ?_ NB335_343.out _) | exact HI335.out)) (by (with_reducible repeat (first | apply Kd.R_alloc | apply Kd.R_drewN | apply Kd.R_drew)); exact (Kd.R_mono (Kd.R_far (p := ⟨gb343, 2, none⟩) (Kd.R_far (p := ⟨gb343, 1, none⟩) (Kd.R_far (p := ⟨gb343, 0, none⟩) (Kd.R_types HO340.out BK343.out (by decide)) (fun _ hk => hk.2) (.int .i64 t336)) (fun _ hk => hk.2) (.int .i64 t337)) (fun _ hk => hk.2) (.slice Ao22 t338.length co22)) (fun _ h_ => h_.1))) (by decide)) hk (fun _ h => h.2)) (fun _ h => h.1)); replace BK343 := am_ (KeepBut.blk hk (g' := gb343) (o := .cells #[.int .i64 t336, .int .i64 t337, .slice Ao22 t338.length co22] 30 (0, 0)) (by (with_reducible repeat (first | refine blk_drewN ?_ _ | refine blk_drew ?_ | refine blk_alloc ?_ _)); refine blk_put (cs := #[.int .i64 t336, .int .i64 t337, .slice none 0 0]) ?_ 2 _ rfl; (with_reducible repeat (first | refine blk_drewN ?_ _ | refine blk_drew ?_ | refine blk_alloc ?_ _)); refine blk_put (cs := #[.int .i64 t336, .int .i64 0, .slice none 0 0]) ?_ 1 _ rfl; (with_reducible repeat (first | refine blk_drewN ?_ _ | refine blk_drew ?_ | refine blk_alloc ?_ _)); refine blk_put (cs := #[.int .i64 0, .int .i64 0, .slice none 0 0]) ?_ 0 _ rfl; (with_reducible repeat (first | refine blk_drewN ?_ _ | refine blk_drew ?_ | refine blk_alloc ?_ _)); exact BK343.out) NB343_335.out (by simp)); replace HI335 := am_ (hi); replace HB := am_ (hb); (try clear hb); (try clear hb2); (try clear hk); (try clear hi)) | ((with_reducible refine gate_dst (N := 10) rfl ?_); refine be_ (N := 10) (cs := #[.int .i64 0, .int .i64 0]) (t := 27) ?_; intro gb348 hg w24 hbox hb; have n0_ := am_ (Kd.R_below (by (with_reducible repeat (first | apply Kd.R_alloc | apply Kd.R_drewN | apply Kd.R_drew)); exact HO340.out) hb); have n1_ := am_ (bb_ BK329.out hb); have n2_ := am_ (bb_ BK330.out hb); have n3_ := am_ (bb_ BK331.out hb); have n4_ := am_ (IsS94.below (by repeat (first | (with_reducible first | exact HI335.out | apply IsS94.alloc | apply IsS94.drewN | apply IsS94.drew | apply IsS94.set_1 | apply IsS94.set_2 | refine IsS94.far ?_ NB335_329.out _ | refine IsS94.far ?_ NB335_330.out _ | refine IsS94.far ?_ NB335_331.out _ | refine IsS94.far ?_ NB335_343.out _) | exact HI335.out)) hb); have n5_ := am_ (bb_ BK343.out hb); have n6_ := am_ (below_step (hb5_ HB.out (IsS94.ge HI335.out) GE329.out GE330.out GE331.out GE343.out) hb); have n7_ := am_ (hbox); have n8_ := am_ ((by rw [hg]; exact (below_size (hb5_ HB.out (IsS94.ge HI335.out) GE329.out GE330.out GE331.out GE343.out)) : w.heap.size ≤ gb348)); have n9_ := am_ ((by rw [hg]; exact (below_size (hb5_ HB.out (IsS94.ge HI335.out) GE329.out GE330.out GE331.out GE343.out)) : w.heap.size ≤ gb348)); have n10_ := am_ ((bl_ hg BK329.out : gb329 ≠ gb348)); have n11_ := am_ ((bg_ hg BK329.out : gb348 ≠ gb329)); have n12_ := am_ ((bl_ hg BK330.out : gb330 ≠ gb348)); have n13_ := am_ ((bg_ hg BK330.out : gb348 ≠ gb330)); have n14_ := am_ ((bl_ hg BK331.out : gb331 ≠ gb348)); have n15_ := am_ ((bg_ hg BK331.out : gb348 ≠ gb331)); have n16_ := am_ ((bl_ hg BK343.out : gb343 ≠ gb348)); have n17_ := am_ ((bg_ hg BK343.out : gb348 ≠ gb343)); have n18_ := am_ ((by rw [hg]; exact Nat.ne_of_lt (IsS94.lt (show IsS94 w _ g335 t332 t346 t347 from by repeat (first | (with_reducible first | exact HI335.out | apply IsS94.alloc | apply IsS94.drewN | apply IsS94.drew | apply IsS94.set_1 | apply IsS94.set_2 | refine IsS94.far ?_ NB335_329.out _ | refine IsS94.far ?_ NB335_330.out _ | refine IsS94.far ?_ NB335_331.out _ | refine IsS94.far ?_ NB335_343.out _) | exact HI335.out))) : g335 ≠ gb348)); have n19_ := am_ ((by rw [hg]; exact Nat.ne_of_gt (IsS94.lt (show IsS94 w _ g335 t332 t346 t347 from by repeat (first | (with_reducible first | exact HI335.out | apply IsS94.alloc | apply IsS94.drewN | apply IsS94.drew | apply IsS94.set_1 | apply IsS94.set_2 | refine IsS94.far ?_ NB335_329.out _ | refine IsS94.far ?_ NB335_330.out _ | refine IsS94.far ?_ NB335_331.out _ | refine IsS94.far ?_ NB335_343.out _) | exact HI335.out))) : gb348 ≠ g335)); clear HO340; clear BK329; clear BK330; clear BK331; clear HI335; clear BK343; clear HB; have HO340 := n0_; have BK329 := n1_; have BK330 := n2_; have BK331 := n3_; have HI335 := n4_; have BK343 := n5_; have HB := n6_; have BK348 := n7_; have GW348 := n8_; have GE348 := n9_; have NB329_348 := n10_; have NB348_329 := n11_; have NB330_348 := n12_; have NB348_330 := n13_; have NB331_348 := n14_; have NB348_331 := n15_; have NB343_348 := n16_; have NB348_343 := n17_; have NB335_348 := n18_; have NB348_335 := n19_; clear n0_ n1_ n2_ n3_ n4_ n5_ n6_ n7_ n8_ n9_ n10_ n11_ n12_ n13_ n14_ n15_ n16_ n17_ n18_ n19_; clear hb hbox hg; have hnb25 := NB348_329.out; have hnc25 := NB329_348.out; have hnb26 := NB348_330.out; have hnc26 := NB330_348.out; have hnb27 := NB348_331.out; have hnc27 := NB331_348.out; have hnb28 := NB348_343.out; have hnc28 := NB343_348.out; have hnb29 := NB348_335.out; have hnc29 := NB335_348.out; obtain ⟨hcz30_0, hcz30_1, hfz30_0, hfz30_1⟩ := bc2_ BK348.out; obtain ⟨hcz31_0, hcz31_1, hcz31_2, hfz31_0, hfz31_1, hfz31_2⟩ := bc3_ BK343.out) | ((with_reducible refine gate_callee (f := 39) rfl ?_); refine gl_ Try.func39 #[.pointer (some ⟨g335, 0, none⟩), .agg #[.int .i64 t336, .int .i64 t337, .slice Ao22 t338.length co22]] ?_; (with_reducible refine (spec_l13DrawTime.calls k g335 t332 t346 t347 t336 t337 _ _ t338 t349 t350 t351 w _ ?side1 ?side2 ?side3 ?side4 A5.out).mono ?_); (case side1 => repeat (first | (with_reducible first | exact HI335.out | apply IsS94.alloc | apply IsS94.drewN | apply IsS94.drew | apply IsS94.set_1 | apply IsS94.set_2 | refine IsS94.far ?_ NB335_329.out _ | refine IsS94.far ?_ NB335_330.out _ | refine IsS94.far ?_ NB335_331.out _ | refine IsS94.far ?_ NB335_343.out _ | refine IsS94.far ?_ NB335_348.out _) | exact HI335.out)); (case side2 => exact hb6_ HB.out (IsS94.ge HI335.out) GE329.out GE330.out GE331.out GE343.out GE348.out); (case side3 => exact Kd.C_foot_own (IsS94.apart (show IsS94 w _ g335 t332 t346 t347 from by repeat (first | (with_reducible first | exact HI335.out | apply IsS94.alloc | apply IsS94.drewN | apply IsS94.drew | apply IsS94.set_1 | apply IsS94.set_2 | refine IsS94.far ?_ NB335_329.out _ | refine IsS94.far ?_ NB335_330.out _ | refine IsS94.far ?_ NB335_331.out _ | refine IsS94.far ?_ NB335_343.out _ | refine IsS94.far ?_ NB335_348.out _) | exact HI335.out)) (by (with_reducible repeat (first | apply Kd.R_alloc | apply Kd.R_drewN | apply Kd.R_drew)); exact (Kd.R_mono (Kd.R_far (p := ⟨gb348, 1, none⟩) (Kd.R_far (p := ⟨gb348, 0, none⟩) (Kd.R_types HO340.out BK348.out (by decide)) (fun _ hk => hk.2) (.int .i64 t344)) (fun _ hk => hk.2) (.int .i64 t345)) (fun _ h_ => h_.1))) (by decide)) (fun _ h_ => h_.2)); (case side4 => exact (Kd.R_reads' HO340.out).2.1); rintro e w32 ⟨rfl, hi, hb, hk⟩; refine ⟨_, rfl, ?_⟩; replace BK329 := am_ (KeepBut.blk hk (g' := gb329) (o := .cells #[.int .i64 0, .int .i64 0] 25 (0, 0)) (by (with_reducible repeat (first | refine blk_drewN ?_ _ | refine blk_drew ?_ | refine blk_alloc ?_ _)); refine blk_far ?_ NB329_348.out _; (with_reducible repeat (first | refine blk_drewN ?_ _ | refine blk_drew ?_ | refine blk_alloc ?_ _)); refine blk_far ?_ NB329_348.out _; (with_reducible repeat (first | refine blk_drewN ?_ _ | refine blk_drew ?_ | refine blk_alloc ?_ _)); exact BK329.out) NB329_335.out (by simp)); replace BK330 := am_ (KeepBut.blk hk (g' := gb330) (o := .cells #[.int .i64 0, .int .i64 0] 27 (0, 0)) (by (with_reducible repeat (first | refine blk_drewN ?_ _ | refine blk_drew ?_ | refine blk_alloc ?_ _)); refine blk_far ?_ NB330_348.out _; (with_reducible repeat (first | refine blk_drewN ?_ _ | refine blk_drew ?_ | refine blk_alloc ?_ _)); refine blk_far ?_ NB330_348.out _; (with_reducible repeat (first | refine blk_drewN ?_ _ | refine blk_drew ?_ | refine blk_alloc ?_ _)); exact BK330.out) NB330_335.out (by simp)); replace BK331 := am_ (KeepBut.blk hk (g' := gb331) (o := .cells #[.int .i64 0, .int .i64 0, .slice none 0 0] 30 (0, 0)) (by (with_reducible repeat (first | refine blk_drewN ?_ _ | refine blk_drew ?_ | refine blk_alloc ?_ _)); refine blk_far ?_ NB331_348.out _; (with_reducible repeat (first | refine blk_drewN ?_ _ | refine blk_drew ?_ | refine blk_alloc ?_ _)); refine blk_far ?_ NB331_348.out _; (with_reducible repeat (first | refine blk_drewN ?_ _ | refine blk_drew ?_ | refine blk_alloc ?_ _)); exact BK331.out) NB331_335.out (by simp)); replace HO340 := am_ (Kd.R_mono (Kd.R_keep (IsS94.apart (show IsS94 w _ g335 t332 t346 t347 from by repeat (first | (with_reducible first | exact HI335.out | apply IsS94.alloc | apply IsS94.drewN | apply IsS94.drew | apply IsS94.set_1 | apply IsS94.set_2 | refine IsS94.far ?_ NB335_329.out _ | refine IsS94.far ?_ NB335_330.out _ | refine IsS94.far ?_ NB335_331.out _ | refine IsS94.far ?_ NB335_343.out _ | refine IsS94.far ?_ NB335_348.out _) | exact HI335.out)) (by (with_reducible repeat (first | apply Kd.R_alloc | apply Kd.R_drewN | apply Kd.R_drew)); exact (Kd.R_mono (Kd.R_far (p := ⟨gb348, 1, none⟩) (Kd.R_far (p := ⟨gb348, 0, none⟩) (Kd.R_types HO340.out BK348.out (by decide)) (fun _ hk => hk.2) (.int .i64 t344)) (fun _ hk => hk.2) (.int .i64 t345)) (fun _ h_ => h_.1))) (by decide)) hk (fun _ h => h.2)) (fun _ h => h.1)); replace BK343 := am_ (KeepBut.blk hk (g' := gb343) (o := .cells #[.int .i64 t336, .int .i64 t337, .slice Ao22 t338.length co22] 30 (0, 0)) (by (with_reducible repeat (first | refine blk_drewN ?_ _ | refine blk_drew ?_ | refine blk_alloc ?_ _)); refine blk_far ?_ NB343_348.out _; (with_reducible repeat (first | refine blk_drewN ?_ _ | refine blk_drew ?_ | refine blk_alloc ?_ _)); refine blk_far ?_ NB343_348.out _; (with_reducible repeat (first | refine blk_drewN ?_ _ | refine blk_drew ?_ | refine blk_alloc ?_ _)); exact BK343.out) NB343_335.out (by simp)); replace BK348 := am_ (KeepBut.blk hk (g' := gb348) (o := .cells #[.int .i64 t344, .int .i64 t345] 27 (0, 0)) (by (with_reducible repeat (first | refine blk_drewN ?_ _ | refine blk_drew ?_ | refine blk_alloc ?_ _)); refine blk_put (cs := #[.int .i64 t344, .int .i64 0]) ?_ 1 _ rfl; (with_reducible repeat (first | refine blk_drewN ?_ _ | refine blk_drew ?_ | refine blk_alloc ?_ _)); refine blk_put (cs := #[.int .i64 0, .int .i64 0]) ?_ 0 _ rfl; (with_reducible repeat (first | refine blk_drewN ?_ _ | refine blk_drew ?_ | refine blk_alloc ?_ _)); exact BK348.out) NB348_335.out (by simp)); replace HI335 := am_ (hi); replace HB := am_ (hb); (try clear hb); (try clear hb2); (try clear hk); (try clear hi)) | ((with_reducible refine gate_callee (f := 40) rfl ?_); refine gl_ Try.func40 #[.int .i64 t349, .int .i64 1000000000000] ?_; (with_reducible refine (spec_l1Min.calls t349 1000000000000 t352 _ A6.out).mono ?_); rintro e w' ⟨rfl, ⟨nd, rfl⟩⟩; refine ⟨_, rfl, ?_⟩; (try (rw [drewN_self w32]; generalize hq_ : World.drewN w32 _ = w32; have n0_ : Aside0 (Kd.R k42 42 w32 w.heap.size (fun _ => True) (.slice Ao22 t338.length co22) t338) := ⟨by rw [← hq_]; exact (by (with_reducible repeat (first | apply Kd.R_alloc | apply Kd.R_drewN | apply Kd.R_drew)); exact HO340.out)⟩; have n1_ : Aside0 (w32.heap[gb329]? = some (.cells #[.int .i64 0, .int .i64 0] 25 (0, 0))) := ⟨by rw [← hq_]; exact (bk_ BK329.out)⟩; have n2_ : Aside0 (w32.heap[gb330]? = some (.cells #[.int .i64 0, .int .i64 0] 27 (0, 0))) := ⟨by rw [← hq_]; exact (bk_ BK330.out)⟩; have n3_ : Aside0 (w32.heap[gb331]? = some (.cells #[.int .i64 0, .int .i64 0, .slice none 0 0] 30 (0, 0))) := ⟨by rw [← hq_]; exact (bk_ BK331.out)⟩; have n4_ : Aside0 (w32.heap[gb343]? = some (.cells #[.int .i64 t336, .int .i64 t337, .slice Ao22 t338.length co22] 30 (0, 0))) := ⟨by rw [← hq_]; exact (bk_ BK343.out)⟩; have n5_ : Aside0 (w32.heap[gb348]? = some (.cells #[.int .i64 t344, .int .i64 t345] 27 (0, 0))) := ⟨by rw [← hq_]; exact (bk_ BK348.out)⟩; have n6_ : Aside0 (IsS94 w w32 g335 t332 t350 t351) := ⟨by rw [← hq_]; exact (by repeat (first | (with_reducible first | exact HI335.out | apply IsS94.alloc | apply IsS94.drewN | apply IsS94.drew | apply IsS94.set_1 | apply IsS94.set_2 | refine IsS94.far ?_ NB335_329.out _ | refine IsS94.far ?_ NB335_330.out _ | refine IsS94.far ?_ NB335_331.out _ | refine IsS94.far ?_ NB335_343.out _ | refine IsS94.far ?_ NB335_348.out _) | exact HI335.out))⟩; have n7_ : Aside0 (Below w.heap.size w w32) := ⟨by rw [← hq_]; exact (hb6_ HB.out (IsS94.ge HI335.out) GE329.out GE330.out GE331.out GE343.out GE348.out)⟩; clear HO340 BK329 BK330 BK331 BK343 BK348 HI335 HB hq_; have HO340 := n0_; have BK329 := n1_; have BK330 := n2_; have BK331 := n3_; have BK343 := n4_; have BK348 := n5_; have HI335 := n6_; have HB := n7_; clear n0_ n1_ n2_ n3_ n4_ n5_ n6_ n7_))) | ((with_reducible refine gate_callee (f := 41) rfl ?_); refine gl_ Try.func41 #[.pointer (some ⟨g335, 0, none⟩), .int .i64 12] ?_; (with_reducible refine (spec_l1Below.calls g335 t332 t350 t351 12 t353 t354 t355 w _ ?side1 ?side2 A7.out).mono ?_); (case side1 => repeat (first | (with_reducible first | exact HI335.out | apply IsS94.alloc | apply IsS94.drewN | apply IsS94.drew | apply IsS94.set_1 | apply IsS94.set_2 | refine IsS94.far ?_ NB335_329.out _ | refine IsS94.far ?_ NB335_330.out _ | refine IsS94.far ?_ NB335_331.out _ | refine IsS94.far ?_ NB335_343.out _ | refine IsS94.far ?_ NB335_348.out _) | exact HI335.out)); (case side2 => exact hb6_ HB.out (IsS94.ge HI335.out) GE329.out GE330.out GE331.out GE343.out GE348.out); rintro e w33 ⟨rfl, hi, hb, hk⟩; refine ⟨_, rfl, ?_⟩; replace BK329 := am_ (KeepBut.blk hk (g' := gb329) (o := .cells #[.int .i64 0, .int .i64 0] 25 (0, 0)) (bk_ BK329.out) NB329_335.out (by simp)); replace BK330 := am_ (KeepBut.blk hk (g' := gb330) (o := .cells #[.int .i64 0, .int .i64 0] 27 (0, 0)) (bk_ BK330.out) NB330_335.out (by simp)); replace BK331 := am_ (KeepBut.blk hk (g' := gb331) (o := .cells #[.int .i64 0, .int .i64 0, .slice none 0 0] 30 (0, 0)) (bk_ BK331.out) NB331_335.out (by simp)); replace HO340 := am_ (Kd.R_mono (Kd.R_keep (IsS94.apart (show IsS94 w _ g335 t332 t350 t351 from by repeat (first | (with_reducible first | exact HI335.out | apply IsS94.alloc | apply IsS94.drewN | apply IsS94.drew | apply IsS94.set_1 | apply IsS94.set_2 | refine IsS94.far ?_ NB335_329.out _ | refine IsS94.far ?_ NB335_330.out _ | refine IsS94.far ?_ NB335_331.out _ | refine IsS94.far ?_ NB335_343.out _ | refine IsS94.far ?_ NB335_348.out _) | exact HI335.out)) (by (with_reducible repeat (first | apply Kd.R_alloc | apply Kd.R_drewN | apply Kd.R_drew)); exact HO340.out) (by decide)) hk (fun _ h => h.2)) (fun _ h => h.1)); replace BK343 := am_ (KeepBut.blk hk (g' := gb343) (o := .cells #[.int .i64 t336, .int .i64 t337, .slice Ao22 t338.length co22] 30 (0, 0)) (bk_ BK343.out) NB343_335.out (by simp)); replace BK348 := am_ (KeepBut.blk hk (g' := gb348) (o := .cells #[.int .i64 t344, .int .i64 t345] 27 (0, 0)) (bk_ BK348.out) NB348_335.out (by simp)); replace HI335 := am_ (hi); replace HB := am_ (hb); (try clear hb); (try clear hb2); (try clear hk); (try clear hi)) | ((with_reducible refine gate_dst (N := 12) rfl ?_); refine be_ (N := 12) (cs := #[.int .i64 0, .int .i64 0]) (t := 25) ?_; intro gb356 hg w34 hbox hb; have n0_ := am_ (Kd.R_below (by (with_reducible repeat (first | apply Kd.R_alloc | apply Kd.R_drewN | apply Kd.R_drew)); exact HO340.out) hb); have n1_ := am_ (bb_ BK329.out hb); have n2_ := am_ (bb_ BK330.out hb); have n3_ := am_ (bb_ BK331.out hb); have n4_ := am_ (IsS94.below (by repeat (first | (with_reducible first | exact HI335.out | apply IsS94.alloc | apply IsS94.drewN | apply IsS94.drew | apply IsS94.set_1 | apply IsS94.set_2 | refine IsS94.far ?_ NB335_329.out _ | refine IsS94.far ?_ NB335_330.out _ | refine IsS94.far ?_ NB335_331.out _ | refine IsS94.far ?_ NB335_343.out _ | refine IsS94.far ?_ NB335_348.out _) | exact HI335.out)) hb); have n5_ := am_ (bb_ BK343.out hb); have n6_ := am_ (bb_ BK348.out hb); have n7_ := am_ (below_step (hb6_ HB.out (IsS94.ge HI335.out) GE329.out GE330.out GE331.out GE343.out GE348.out) hb); have n8_ := am_ (hbox); have n9_ := am_ ((by rw [hg]; exact (below_size (hb6_ HB.out (IsS94.ge HI335.out) GE329.out GE330.out GE331.out GE343.out GE348.out)) : w.heap.size ≤ gb356)); have n10_ := am_ ((by rw [hg]; exact (below_size (hb6_ HB.out (IsS94.ge HI335.out) GE329.out GE330.out GE331.out GE343.out GE348.out)) : w.heap.size ≤ gb356)); have n11_ := am_ ((bl_ hg BK329.out : gb329 ≠ gb356)); have n12_ := am_ ((bg_ hg BK329.out : gb356 ≠ gb329)); have n13_ := am_ ((bl_ hg BK330.out : gb330 ≠ gb356)); have n14_ := am_ ((bg_ hg BK330.out : gb356 ≠ gb330)); have n15_ := am_ ((bl_ hg BK331.out : gb331 ≠ gb356)); have n16_ := am_ ((bg_ hg BK331.out : gb356 ≠ gb331)); have n17_ := am_ ((bl_ hg BK343.out : gb343 ≠ gb356)); have n18_ := am_ ((bg_ hg BK343.out : gb356 ≠ gb343)); have n19_ := am_ ((bl_ hg BK348.out : gb348 ≠ gb356)); have n20_ := am_ ((bg_ hg BK348.out : gb356 ≠ gb348)); have n21_ := am_ ((by rw [hg]; exact Nat.ne_of_lt (IsS94.lt (show IsS94 w _ g335 t332 t354 t355 from by repeat (first | (with_reducible first | exact HI335.out | apply IsS94.alloc | apply IsS94.drewN | apply IsS94.drew | apply IsS94.set_1 | apply IsS94.set_2 | refine IsS94.far ?_ NB335_329.out _ | refine IsS94.far ?_ NB335_330.out _ | refine IsS94.far ?_ NB335_331.out _ | refine IsS94.far ?_ NB335_343.out _ | refine IsS94.far ?_ NB335_348.out _) | exact HI335.out))) : g335 ≠ gb356)); have n22_ := am_ ((by rw [hg]; exact Nat.ne_of_gt (IsS94.lt (show IsS94 w _ g335 t332 t354 t355 from by repeat (first | (with_reducible first | exact HI335.out | apply IsS94.alloc | apply IsS94.drewN | apply IsS94.drew | apply IsS94.set_1 | apply IsS94.set_2 | refine IsS94.far ?_ NB335_329.out _ | refine IsS94.far ?_ NB335_330.out _ | refine IsS94.far ?_ NB335_331.out _ | refine IsS94.far ?_ NB335_343.out _ | refine IsS94.far ?_ NB335_348.out _) | exact HI335.out))) : gb356 ≠ g335)); clear HO340; clear BK329; clear BK330; clear BK331; clear HI335; clear BK343; clear BK348; clear HB; have HO340 := n0_; have BK329 := n1_; have BK330 := n2_; have BK331 := n3_; have HI335 := n4_; have BK343 := n5_; have BK348 := n6_; have HB := n7_; have BK356 := n8_; have GW356 := n9_; have GE356 := n10_; have NB329_356 := n11_; have NB356_329 := n12_; have NB330_356 := n13_; have NB356_330 := n14_; have NB331_356 := n15_; have NB356_331 := n16_; have NB343_356 := n17_; have NB356_343 := n18_; have NB348_356 := n19_; have NB356_348 := n20_; have NB335_356 := n21_; have NB356_335 := n22_; clear n0_ n1_ n2_ n3_ n4_ n5_ n6_ n7_ n8_ n9_ n10_ n11_ n12_ n13_ n14_ n15_ n16_ n17_ n18_ n19_ n20_ n21_ n22_; clear hb hbox hg; have hnb35 := NB356_329.out; have hnc35 := NB329_356.out; have hnb36 := NB356_330.out; have hnc36 := NB330_356.out; have hnb37 := NB356_331.out; have hnc37 := NB331_356.out; have hnb38 := NB356_343.out; have hnc38 := NB343_356.out; have hnb39 := NB356_348.out; have hnc39 := NB348_356.out; have hnb40 := NB356_335.out; have hnc40 := NB335_356.out; obtain ⟨hcz41_0, hcz41_1, hfz41_0, hfz41_1⟩ := bc2_ BK356.out) | ((with_reducible refine gate_callee (f := 41) rfl ?_); refine gl_ Try.func41 #[.pointer (some ⟨g335, 0, none⟩), .int .i64 4] ?_; (with_reducible refine (spec_l1Below.calls g335 t332 t354 t355 4 t357 t358 t359 w _ ?side1 ?side2 A8.out).mono ?_); (case side1 => repeat (first | (with_reducible first | exact HI335.out | apply IsS94.alloc | apply IsS94.drewN | apply IsS94.drew | apply IsS94.set_1 | apply IsS94.set_2 | refine IsS94.far ?_ NB335_329.out _ | refine IsS94.far ?_ NB335_330.out _ | refine IsS94.far ?_ NB335_331.out _ | refine IsS94.far ?_ NB335_343.out _ | refine IsS94.far ?_ NB335_348.out _ | refine IsS94.far ?_ NB335_356.out _) | exact HI335.out)); (case side2 => exact hb7_ HB.out (IsS94.ge HI335.out) GE329.out GE330.out GE331.out GE343.out GE348.out GE356.out); rintro e w42 ⟨rfl, hi, hb, hk⟩; refine ⟨_, rfl, ?_⟩; replace BK329 := am_ (KeepBut.blk hk (g' := gb329) (o := .cells #[.int .i64 0, .int .i64 0] 25 (0, 0)) (by (with_reducible repeat (first | refine blk_drewN ?_ _ | refine blk_drew ?_ | refine blk_alloc ?_ _)); refine blk_far ?_ NB329_356.out _; (with_reducible repeat (first | refine blk_drewN ?_ _ | refine blk_drew ?_ | refine blk_alloc ?_ _)); refine blk_far ?_ NB329_356.out _; (with_reducible repeat (first | refine blk_drewN ?_ _ | refine blk_drew ?_ | refine blk_alloc ?_ _)); exact BK329.out) NB329_335.out (by simp)); replace BK330 := am_ (KeepBut.blk hk (g' := gb330) (o := .cells #[.int .i64 0, .int .i64 0] 27 (0, 0)) (by (with_reducible repeat (first | refine blk_drewN ?_ _ | refine blk_drew ?_ | refine blk_alloc ?_ _)); refine blk_far ?_ NB330_356.out _; (with_reducible repeat (first | refine blk_drewN ?_ _ | refine blk_drew ?_ | refine blk_alloc ?_ _)); refine blk_far ?_ NB330_356.out _; (with_reducible repeat (first | refine blk_drewN ?_ _ | refine blk_drew ?_ | refine blk_alloc ?_ _)); exact BK330.out) NB330_335.out (by simp)); replace BK331 := am_ (KeepBut.blk hk (g' := gb331) (o := .cells #[.int .i64 0, .int .i64 0, .slice none 0 0] 30 (0, 0)) (by (with_reducible repeat (first | refine blk_drewN ?_ _ | refine blk_drew ?_ | refine blk_alloc ?_ _)); refine blk_far ?_ NB331_356.out _; (with_reducible repeat (first | refine blk_drewN ?_ _ | refine blk_drew ?_ | refine blk_alloc ?_ _)); refine blk_far ?_ NB331_356.out _; (with_reducible repeat (first | refine blk_drewN ?_ _ | refine blk_drew ?_ | refine blk_alloc ?_ _)); exact BK331.out) NB331_335.out (by simp)); replace HO340 := am_ (Kd.R_mono (Kd.R_keep (IsS94.apart (show IsS94 w _ g335 t332 t354 t355 from by repeat (first | (with_reducible first | exact HI335.out | apply IsS94.alloc | apply IsS94.drewN | apply IsS94.drew | apply IsS94.set_1 | apply IsS94.set_2 | refine IsS94.far ?_ NB335_329.out _ | refine IsS94.far ?_ NB335_330.out _ | refine IsS94.far ?_ NB335_331.out _ | refine IsS94.far ?_ NB335_343.out _ | refine IsS94.far ?_ NB335_348.out _ | refine IsS94.far ?_ NB335_356.out _) | exact HI335.out)) (by (with_reducible repeat (first | apply Kd.R_alloc | apply Kd.R_drewN | apply Kd.R_drew)); exact (Kd.R_mono (Kd.R_far (p := ⟨gb356, 1, none⟩) (Kd.R_far (p := ⟨gb356, 0, none⟩) (Kd.R_types HO340.out BK356.out (by decide)) (fun _ hk => hk.2) (.int .i64 t349)) (fun _ hk => hk.2) (.int .i64 (wrap64 (t352 + t353)))) (fun _ h_ => h_.1))) (by decide)) hk (fun _ h => h.2)) (fun _ h => h.1)); replace BK343 := am_ (KeepBut.blk hk (g' := gb343) (o := .cells #[.int .i64 t336, .int .i64 t337, .slice Ao22 t338.length co22] 30 (0, 0)) (by (with_reducible repeat (first | refine blk_drewN ?_ _ | refine blk_drew ?_ | refine blk_alloc ?_ _)); refine blk_far ?_ NB343_356.out _; (with_reducible repeat (first | refine blk_drewN ?_ _ | refine blk_drew ?_ | refine blk_alloc ?_ _)); refine blk_far ?_ NB343_356.out _; (with_reducible repeat (first | refine blk_drewN ?_ _ | refine blk_drew ?_ | refine blk_alloc ?_ _)); exact BK343.out) NB343_335.out (by simp)); replace BK348 := am_ (KeepBut.blk hk (g' := gb348) (o := .cells #[.int .i64 t344, .int .i64 t345] 27 (0, 0)) (by (with_reducible repeat (first | refine blk_drewN ?_ _ | refine blk_drew ?_ | refine blk_alloc ?_ _)); refine blk_far ?_ NB348_356.out _; (with_reducible repeat (first | refine blk_drewN ?_ _ | refine blk_drew ?_ | refine blk_alloc ?_ _)); refine blk_far ?_ NB348_356.out _; (with_reducible repeat (first | refine blk_drewN ?_ _ | refine blk_drew ?_ | refine blk_alloc ?_ _)); exact BK348.out) NB348_335.out (by simp)); replace BK356 := am_ (KeepBut.blk hk (g' := gb356) (o := .cells #[.int .i64 t349, .int .i64 (wrap64 (t352 + t353))] 25 (0, 0)) (by (with_reducible repeat (first | refine blk_drewN ?_ _ | refine blk_drew ?_ | refine blk_alloc ?_ _)); refine blk_put (cs := #[.int .i64 t349, .int .i64 0]) ?_ 1 _ rfl; (with_reducible repeat (first | refine blk_drewN ?_ _ | refine blk_drew ?_ | refine blk_alloc ?_ _)); refine blk_put (cs := #[.int .i64 0, .int .i64 0]) ?_ 0 _ rfl; (with_reducible repeat (first | refine blk_drewN ?_ _ | refine blk_drew ?_ | refine blk_alloc ?_ _)); exact BK356.out) NB356_335.out (by simp)); replace HI335 := am_ (hi); replace HB := am_ (hb); (try clear hb); (try clear hb2); (try clear hk); (try clear hi); obtain ⟨hcz43_0, hcz43_1, hcz43_2, hfz43_0, hfz43_1, hfz43_2⟩ := bc3_ BK343.out) | ((with_reducible refine gate_callee (f := 42) rfl ?_); refine gl_ Try.func42 #[.agg #[.int .i64 t336, .int .i64 t337, .slice Ao22 t338.length co22], .int .i64 t349] ?_; (with_reducible refine (spec_SlotAt.calls k t336 t337 _ _ t338 t349 t360 t361 t362 _ ?side1 ?side2 A9.out).mono ?_); (case side1 => repeat (first | exact (Kd.R_reads' HO340.out).2.2 | (with_reducible refine Kd.C_alloc ?_ _) | (with_reducible refine Kd.C_drewN ?_ _) | (with_reducible refine Kd.C_drew ?_))); (case side2 => exact (Kd.R_reads' HO340.out).2.1); rintro e w44 ⟨rfl, hb⟩; refine ⟨_, rfl, ?_⟩; have n0_ := am_ (Kd.R_below (by (with_reducible repeat (first | apply Kd.R_alloc | apply Kd.R_drewN | apply Kd.R_drew)); exact HO340.out) hb); have n1_ := am_ (bb_ BK329.out hb); have n2_ := am_ (bb_ BK330.out hb); have n3_ := am_ (bb_ BK331.out hb); have n4_ := am_ (IsS94.below (by repeat (first | (with_reducible first | exact HI335.out | apply IsS94.alloc | apply IsS94.drewN | apply IsS94.drew | apply IsS94.set_1 | apply IsS94.set_2 | refine IsS94.far ?_ NB335_329.out _ | refine IsS94.far ?_ NB335_330.out _ | refine IsS94.far ?_ NB335_331.out _ | refine IsS94.far ?_ NB335_343.out _ | refine IsS94.far ?_ NB335_348.out _ | refine IsS94.far ?_ NB335_356.out _) | exact HI335.out)) hb); have n5_ := am_ (bb_ BK343.out hb); have n6_ := am_ (bb_ BK348.out hb); have n7_ := am_ (bb_ BK356.out hb); have n8_ := am_ (below_step (hb7_ HB.out (IsS94.ge HI335.out) GE329.out GE330.out GE331.out GE343.out GE348.out GE356.out) hb); clear HO340; clear BK329; clear BK330; clear BK331; clear HI335; clear BK343; clear BK348; clear BK356; clear HB; have HO340 := n0_; have BK329 := n1_; have BK330 := n2_; have BK331 := n3_; have HI335 := n4_; have BK343 := n5_; have BK348 := n6_; have BK356 := n7_; have HB := n8_; clear n0_ n1_ n2_ n3_ n4_ n5_ n6_ n7_ n8_; (try clear hb); (try clear hb2); (try clear hk); (try clear hi)))
 (try simp only [Act.put, List.setIfInBounds_toArray, List.set_cons_zero, List.set_cons_succ])
 go_cut [47] (fun v47 wc => ∃ (kq : Nat) (x47_9 : Bool) (x336001_9 : Int) (x336002_9 : Int), v47 = .bool x47_9 ∧ Aside0 (spec_DrawGateAsk.j0 kq t357 t360 x47_9 t332 x336001_9 x336002_9 t336 t337 t338 t344 t345 t349 (wrap64 (t352 + t353)) = some (r1, r2, r3, r4, r5, r6, r7, r8, r9, r10)) ∧ Aside0 (kq ≤ k) ∧ Aside0 (Kd.R k42 42 wc w.heap.size (fun _ => True) (.slice Ao22 t338.length co22) t338) ∧ Aside0 (wc.heap[gb329]? = some (.cells #[.int .i64 0, .int .i64 0] 25 (0, 0))) ∧ Aside0 (wc.heap[gb330]? = some (.cells #[.int .i64 0, .int .i64 0] 27 (0, 0))) ∧ Aside0 (wc.heap[gb331]? = some (.cells #[.int .i64 0, .int .i64 0, (.slice none 0 0)] 30 (0, 0))) ∧ Aside0 (wc.heap[gb343]? = some (.cells #[.int .i64 t336, .int .i64 t337, (.slice Ao22 t338.length co22)] 30 (0, 0))) ∧ Aside0 (wc.heap[gb348]? = some (.cells #[.int .i64 t344, .int .i64 t345] 27 (0, 0))) ∧ Aside0 (wc.heap[gb356]? = some (.cells #[.int .i64 t349, .int .i64 (wrap64 (t352 + t353))] 25 (0, 0))) ∧ Aside0 (IsS94 w wc g335 t332 x336001_9 x336002_9) ∧ Aside0 (Below w.heap.size w wc))
 case first =>
  have H := HC10.out
  clear HC10
  by_cases c45 : t362 = true
  ·subst c45
   have H1 : ((spec_l1Once.f t332 t358 t359 6).bind fun bt363 => (spec_DrawGateAsk.j0 k t357 t360 (!bt363.1) t332 bt363.2.1 bt363.2.2 t336 t337 t338 t344 t345 t349 (wrap64 (t352 + t353)))) = some (r1, r2, r3, r4, r5, r6, r7, r8, r9, r10) := by rw [if_pos rfl] at H; exact H
   clear H
   have H := H1
   clear H1
   replace H := Option.bind_eq_some_iff.mp H
   obtain ⟨⟨t363, t364, t365⟩, A460, H⟩ := H
   replace H : (spec_DrawGateAsk.j0 k t357 t360 (!t363) t332 t364 t365 t336 t337 t338 t344 t345 t349 (wrap64 (t352 + t353))) = some (r1, r2, r3, r4, r5, r6, r7, r8, r9, r10) := H
   have A46 := Aside0.mk A460
   clear A460
   have H' := Aside0.mk H
   clear H
   go_wp2_with (first | (go_at_call 43; (with_reducible refine (spec_l1Once.calls g335 t332 t358 t359 6 t363 t364 t365 w _ ?side1 ?side2 A46.out).mono ?_); (case side1 => repeat (first | (with_reducible first | exact HI335.out | apply IsS94.alloc | apply IsS94.drewN | apply IsS94.drew | apply IsS94.set_1 | apply IsS94.set_2 | refine IsS94.far ?_ NB335_329.out _ | refine IsS94.far ?_ NB335_330.out _ | refine IsS94.far ?_ NB335_331.out _ | refine IsS94.far ?_ NB335_343.out _ | refine IsS94.far ?_ NB335_348.out _ | refine IsS94.far ?_ NB335_356.out _) | exact HI335.out)); (case side2 => exact hb7_ HB.out (IsS94.ge HI335.out) GE329.out GE330.out GE331.out GE343.out GE348.out GE356.out); rintro e w47 ⟨rfl, hi, hb, hk⟩; replace BK329 := am_ (KeepBut.blk hk (g' := gb329) (o := .cells #[.int .i64 0, .int .i64 0] 25 (0, 0)) (bk_ BK329.out) NB329_335.out (by simp)); replace BK330 := am_ (KeepBut.blk hk (g' := gb330) (o := .cells #[.int .i64 0, .int .i64 0] 27 (0, 0)) (bk_ BK330.out) NB330_335.out (by simp)); replace BK331 := am_ (KeepBut.blk hk (g' := gb331) (o := .cells #[.int .i64 0, .int .i64 0, .slice none 0 0] 30 (0, 0)) (bk_ BK331.out) NB331_335.out (by simp)); replace HO340 := am_ (Kd.R_mono (Kd.R_keep (IsS94.apart (show IsS94 w _ g335 t332 t358 t359 from by repeat (first | (with_reducible first | exact HI335.out | apply IsS94.alloc | apply IsS94.drewN | apply IsS94.drew | apply IsS94.set_1 | apply IsS94.set_2 | refine IsS94.far ?_ NB335_329.out _ | refine IsS94.far ?_ NB335_330.out _ | refine IsS94.far ?_ NB335_331.out _ | refine IsS94.far ?_ NB335_343.out _ | refine IsS94.far ?_ NB335_348.out _ | refine IsS94.far ?_ NB335_356.out _) | exact HI335.out)) (by (with_reducible repeat (first | apply Kd.R_alloc | apply Kd.R_drewN | apply Kd.R_drew)); exact HO340.out) (by decide)) hk (fun _ h => h.2)) (fun _ h => h.1)); replace BK343 := am_ (KeepBut.blk hk (g' := gb343) (o := .cells #[.int .i64 t336, .int .i64 t337, .slice Ao22 t338.length co22] 30 (0, 0)) (bk_ BK343.out) NB343_335.out (by simp)); replace BK348 := am_ (KeepBut.blk hk (g' := gb348) (o := .cells #[.int .i64 t344, .int .i64 t345] 27 (0, 0)) (bk_ BK348.out) NB348_335.out (by simp)); replace BK356 := am_ (KeepBut.blk hk (g' := gb356) (o := .cells #[.int .i64 t349, .int .i64 (wrap64 (t352 + t353))] 25 (0, 0)) (bk_ BK356.out) NB356_335.out (by simp)); replace HI335 := am_ (hi); replace HB := am_ (hb); (try clear hb); (try clear hb2); (try clear hk); (try clear hi)))
   go_meet
   case rel => exact ⟨_, (!t363), (t364), (t365), (by first | rfl | (simp; done) | (simp [*]; done)), H', ⟨by first | omega | exact Nat.le_refl _⟩, ⟨by (with_reducible repeat (first | apply Kd.R_alloc | apply Kd.R_drewN | apply Kd.R_drew)); exact HO340.out⟩, ⟨bk_ BK329.out⟩, ⟨bk_ BK330.out⟩, ⟨bk_ BK331.out⟩, ⟨bk_ BK343.out⟩, ⟨bk_ BK348.out⟩, ⟨bk_ BK356.out⟩, ⟨by repeat (first | (with_reducible first | exact HI335.out | apply IsS94.alloc | apply IsS94.drewN | apply IsS94.drew | apply IsS94.set_1 | apply IsS94.set_2 | refine IsS94.far ?_ NB335_329.out _ | refine IsS94.far ?_ NB335_330.out _ | refine IsS94.far ?_ NB335_331.out _ | refine IsS94.far ?_ NB335_343.out _ | refine IsS94.far ?_ NB335_348.out _ | refine IsS94.far ?_ NB335_356.out _) | exact HI335.out)⟩, ⟨hb7_ HB.out (IsS94.ge HI335.out) GE329.out GE330.out GE331.out GE343.out GE348.out GE356.out⟩⟩
  ·replace c45 := Bool.eq_false_iff.mpr c45
   subst c45
   have H1 : (spec_DrawGateAsk.j0 k t357 t360 false t332 t358 t359 t336 t337 t338 t344 t345 t349 (wrap64 (t352 + t353))) = some (r1, r2, r3, r4, r5, r6, r7, r8, r9, r10) := by rw [if_neg (show ¬ (false = true) by decide)] at H; exact H
   clear H
   have H := H1
   clear H1
   have H' := Aside0.mk H
   clear H
   go_wp2
   go_meet
   case rel => exact ⟨_, (false), (t358), (t359), (by first | rfl | (simp; done) | (simp [*]; done)), H', ⟨by first | omega | exact Nat.le_refl _⟩, ⟨by (with_reducible repeat (first | apply Kd.R_alloc | apply Kd.R_drewN | apply Kd.R_drew)); exact HO340.out⟩, ⟨bk_ BK329.out⟩, ⟨bk_ BK330.out⟩, ⟨bk_ BK331.out⟩, ⟨bk_ BK343.out⟩, ⟨bk_ BK348.out⟩, ⟨bk_ BK356.out⟩, ⟨by repeat (first | (with_reducible first | exact HI335.out | apply IsS94.alloc | apply IsS94.drewN | apply IsS94.drew | apply IsS94.set_1 | apply IsS94.set_2 | refine IsS94.far ?_ NB335_329.out _ | refine IsS94.far ?_ NB335_330.out _ | refine IsS94.far ?_ NB335_331.out _ | refine IsS94.far ?_ NB335_343.out _ | refine IsS94.far ?_ NB335_348.out _ | refine IsS94.far ?_ NB335_356.out _) | exact HI335.out)⟩, ⟨hb7_ HB.out (IsS94.ge HI335.out) GE329.out GE330.out GE331.out GE343.out GE348.out GE356.out⟩⟩
 case rest =>
  clear HC10
  try clear c1
  try clear c2
  try clear p2
  try clear c3
  try clear c4
  try clear p6
  try clear c9
  try clear c17
  try clear c18
  try clear c19
  try clear c20
  try clear c25
  try clear c26
  try clear c27
  try clear c28
  try clear c29
  try clear c35
  try clear c36
  try clear c37
  try clear c38
  try clear c39
  try clear c40
  try clear c41
  try clear c42
  try clear c45
  try clear hcz21_0
  try clear hcz21_1
  try clear hcz21_2
  try clear hcz30_0
  try clear hcz30_1
  try clear hcz31_0
  try clear hcz31_1
  try clear hcz31_2
  try clear hcz41_0
  try clear hcz41_1
  try clear hcz43_0
  try clear hcz43_1
  try clear hcz43_2
  try clear hfz21_0
  try clear hfz21_1
  try clear hfz21_2
  try clear hfz30_0
  try clear hfz30_1
  try clear hfz31_0
  try clear hfz31_1
  try clear hfz31_2
  try clear hfz41_0
  try clear hfz41_1
  try clear hfz43_0
  try clear hfz43_1
  try clear hfz43_2
  obtain ⟨kq, x47_9, x336001_9, x336002_9, rfl, HA, HJ9, HO_344002, BK329, BK330, BK331, BK343, BK348, BK356, HI335, HB⟩ := hcut
  cases kq with
  | zero => exact absurd HA.out (by simp [spec_DrawGateAsk.j0])
  | succ kj9 =>
   have H := HA.out
   clear HA
   simp only [spec_DrawGateAsk.j0] at H
   have HC48 := Aside0.mk H
   clear H
   go_upto_if 47 with (fail)
   go_cut [13] (fun v13 wc => ∃ (kq : Nat) (x13_47 : Int), v13 = .int .i64 x13_47 ∧ Aside0 (spec_DrawGateAsk.j1 kq x13_47 t332 x336001_9 x336002_9 t336 t337 t338 t344 t345 t349 (wrap64 (t352 + t353)) = some (r1, r2, r3, r4, r5, r6, r7, r8, r9, r10)) ∧ Aside0 (kq ≤ kj9) ∧ Aside0 (Kd.R k42 42 wc w.heap.size (fun _ => True) (.slice Ao22 t338.length co22) t338) ∧ Aside0 (wc.heap[gb329]? = some (.cells #[.int .i64 0, .int .i64 0] 25 (0, 0))) ∧ Aside0 (wc.heap[gb330]? = some (.cells #[.int .i64 0, .int .i64 0] 27 (0, 0))) ∧ Aside0 (wc.heap[gb331]? = some (.cells #[.int .i64 0, .int .i64 0, (.slice none 0 0)] 30 (0, 0))) ∧ Aside0 (wc.heap[gb343]? = some (.cells #[.int .i64 t336, .int .i64 t337, (.slice Ao22 t338.length co22)] 30 (0, 0))) ∧ Aside0 (wc.heap[gb348]? = some (.cells #[.int .i64 t344, .int .i64 t345] 27 (0, 0))) ∧ Aside0 (wc.heap[gb356]? = some (.cells #[.int .i64 t349, .int .i64 (wrap64 (t352 + t353))] 25 (0, 0))) ∧ Aside0 (IsS94 w wc g335 t332 x336001_9 x336002_9) ∧ Aside0 (Below w.heap.size w wc))
   case first =>
    have H := HC48.out
    clear HC48
    by_cases c49 : x47_9 = true
    ·subst c49
     have H1 : (if 0 ≤ t360 then (if t360 < (t338.length : Int) then (spec_DrawGateAsk.j1 kj9 ((rd_T42 t338 t360).f0) t332 x336001_9 x336002_9 t336 t337 t338 t344 t345 t349 (wrap64 (t352 + t353))) else (none)) else (none)) = some (r1, r2, r3, r4, r5, r6, r7, r8, r9, r10) := by rw [if_pos rfl] at H; exact H
     clear H
     have H := H1
     clear H1
     by_cases c50 : 0 ≤ t360
     ·rw [if_pos c50] at H
      have c50b0 : decide (0 ≤ t360) = true := decide_eq_true c50
      clear c50
      (first | rw [c50b0] | (simp only [i64_w, i32_w]; rw [c50b0]) | skip)
      by_cases c51 : t360 < (t338.length : Int)
      ·rw [if_pos c51] at H
       have c51b0 : decide (t360 < (t338.length : Int)) = true := decide_eq_true c51
       clear c51
       have H' := Aside0.mk H
       clear H
       have hnb52 := NB343_329.out
       have hnc52 := NB329_343.out
       have hnb53 := NB343_330.out
       have hnc53 := NB330_343.out
       have hnb54 := NB343_331.out
       have hnc54 := NB331_343.out
       have hnb55 := NB343_348.out
       have hnc55 := NB348_343.out
       have hnb56 := NB343_356.out
       have hnc56 := NB356_343.out
       have hnb57 := NB343_335.out
       have hnc57 := NB335_343.out
       have hcz58_0 := bc_ BK343.out 0 (.int .i64 t336) rfl
       have hcz58_1 := bc_ BK343.out 1 (.int .i64 t337) rfl
       have hcz58_2 := bc_ BK343.out 2 (.slice Ao22 t338.length co22) rfl
       have hfz58_0 := blk_frozen BK343.out 0
       have hfz58_1 := blk_frozen BK343.out 1
       have hfz58_2 := blk_frozen BK343.out 2
       have p366 : 0 ≤ (t360 : Int) := of_decide_eq_true (by first | (with_reducible assumption) | assumption)
       have q366 : t360 < (t338.length : Int) := of_decide_eq_true (by first | (with_reducible assumption) | assumption)
       obtain ⟨ad366, e366, hx366_0, hx366_1⟩ := at_T42 (Kd.R_reads' HO_344002.out).2.2 t360 p366 q366
       cases e366
       replace p366 := eq_true p366
       replace q366 := eq_true q366
       go_wp2
       go_meet
       case rel => exact ⟨_, ((rd_T42 t338 t360).f0), (by first | rfl | (simp; done) | (simp [*]; done)), H', ⟨by have := HJ9.out; first | omega | exact Nat.le_refl _⟩, ⟨by (with_reducible repeat (first | apply Kd.R_alloc | apply Kd.R_drewN | apply Kd.R_drew)); exact HO_344002.out⟩, ⟨bk_ BK329.out⟩, ⟨bk_ BK330.out⟩, ⟨bk_ BK331.out⟩, ⟨bk_ BK343.out⟩, ⟨bk_ BK348.out⟩, ⟨bk_ BK356.out⟩, ⟨by repeat (first | (with_reducible first | exact HI335.out | apply IsS94.alloc | apply IsS94.drewN | apply IsS94.drew | apply IsS94.set_1 | apply IsS94.set_2 | refine IsS94.far ?_ NB335_329.out _ | refine IsS94.far ?_ NB335_330.out _ | refine IsS94.far ?_ NB335_331.out _ | refine IsS94.far ?_ NB335_343.out _ | refine IsS94.far ?_ NB335_348.out _ | refine IsS94.far ?_ NB335_356.out _) | exact HI335.out)⟩, ⟨hb7_ HB.out (IsS94.ge HI335.out) GE329.out GE330.out GE331.out GE343.out GE348.out GE356.out⟩⟩
      ·rw [if_neg c51] at H
       exact absurd H (by simp)
     ·rw [if_neg c50] at H
      exact absurd H (by simp)
    ·replace c49 := Bool.eq_false_iff.mpr c49
     subst c49
     have H1 : (spec_DrawGateAsk.j1 kj9 t357 t332 x336001_9 x336002_9 t336 t337 t338 t344 t345 t349 (wrap64 (t352 + t353))) = some (r1, r2, r3, r4, r5, r6, r7, r8, r9, r10) := by rw [if_neg (show ¬ (false = true) by decide)] at H; exact H
     clear H
     have H := H1
     clear H1
     have H' := Aside0.mk H
     clear H
     go_wp2
     go_meet
     case rel => exact ⟨_, (t357), (by first | rfl | (simp; done) | (simp [*]; done)), H', ⟨by have := HJ9.out; first | omega | exact Nat.le_refl _⟩, ⟨by (with_reducible repeat (first | apply Kd.R_alloc | apply Kd.R_drewN | apply Kd.R_drew)); exact HO_344002.out⟩, ⟨bk_ BK329.out⟩, ⟨bk_ BK330.out⟩, ⟨bk_ BK331.out⟩, ⟨bk_ BK343.out⟩, ⟨bk_ BK348.out⟩, ⟨bk_ BK356.out⟩, ⟨by repeat (first | (with_reducible first | exact HI335.out | apply IsS94.alloc | apply IsS94.drewN | apply IsS94.drew | apply IsS94.set_1 | apply IsS94.set_2 | refine IsS94.far ?_ NB335_329.out _ | refine IsS94.far ?_ NB335_330.out _ | refine IsS94.far ?_ NB335_331.out _ | refine IsS94.far ?_ NB335_343.out _ | refine IsS94.far ?_ NB335_348.out _ | refine IsS94.far ?_ NB335_356.out _) | exact HI335.out)⟩, ⟨hb7_ HB.out (IsS94.ge HI335.out) GE329.out GE330.out GE331.out GE343.out GE348.out GE356.out⟩⟩
   case rest =>
    clear HC48
    try clear c1
    try clear c2
    try clear p2
    try clear c3
    try clear p3
    try clear q3
    try clear hx3
    try clear c4
    try clear c5
    try clear p6
    try clear c9
    try clear c17
    try clear c18
    try clear c19
    try clear c20
    try clear c25
    try clear c26
    try clear c27
    try clear c28
    try clear c29
    try clear c35
    try clear c36
    try clear p36
    try clear q36
    try clear hx36
    try clear c37
    try clear c38
    try clear c39
    try clear c40
    try clear c41
    try clear c42
    try clear c45
    try clear c49
    try clear c50
    try clear c50b0
    try clear c51
    try clear c51b0
    try clear c52
    try clear c53
    try clear c54
    try clear c55
    try clear c56
    try clear c57
    try clear hcz21_0
    try clear hcz21_1
    try clear hcz21_2
    try clear hcz30_0
    try clear hcz30_1
    try clear hcz31_0
    try clear hcz31_1
    try clear hcz31_2
    try clear hcz41_0
    try clear hcz41_1
    try clear hcz43_0
    try clear hcz43_1
    try clear hcz43_2
    try clear hcz58_0
    try clear hcz58_1
    try clear hcz58_2
    try clear hfz21_0
    try clear hfz21_1
    try clear hfz21_2
    try clear hfz30_0
    try clear hfz30_1
    try clear hfz31_0
    try clear hfz31_1
    try clear hfz31_2
    try clear hfz41_0
    try clear hfz41_1
    try clear hfz43_0
    try clear hfz43_1
    try clear hfz43_2
    try clear hfz58_0
    try clear hfz58_1
    try clear hfz58_2
    try clear hx366_0
    try clear hx366_1
    try clear p2
    try clear p366
    try clear p6
    try clear q366
    obtain ⟨kq, x13_47, rfl, HA, HJ47, HO_344002, BK329, BK330, BK331, BK343, BK348, BK356, HI335, HB⟩ := hcut
    cases kq with
    | zero => exact absurd HA.out (by simp [spec_DrawGateAsk.j1])
    | succ kj47 =>
     have H := HA.out
     clear HA
     simp only [spec_DrawGateAsk.j1] at H
     replace H := Option.bind_eq_some_iff.mp H
     obtain ⟨⟨t367, t368, t369⟩, A590, H⟩ := H
     replace H : (if t367 = true then ((spec_l1PickInt.f t332 t368 t369 (([(-1), 8] : List Int))).bind fun bt373 => ((spec_l1Once.f t332 bt373.2.1 bt373.2.2 9).bind fun bt376 => ((spec_l14DrawLong.f t332 bt376.2.1 bt376.2.2).bind fun bt379 => (some (t349, (wrap64 (t352 + t353)), !bt376.1, t344, t345, bt379.1, t336, t337, t338, bt373.1))))) else ((spec_l1Once.f t332 t368 t369 9).bind fun bt382 => ((spec_l14DrawLong.f t332 bt382.2.1 bt382.2.2).bind fun bt385 => (some (t349, (wrap64 (t352 + t353)), !bt382.1, t344, t345, bt385.1, t336, t337, t338, x13_47))))) = some (r1, r2, r3, r4, r5, r6, r7, r8, r9, r10) := H
     have A59 := Aside0.mk A590
     clear A590
     by_cases c60 : t367 = true
     ·subst c60
      have H1 : ((spec_l1PickInt.f t332 t368 t369 (([(-1), 8] : List Int))).bind fun bt373 => ((spec_l1Once.f t332 bt373.2.1 bt373.2.2 9).bind fun bt376 => ((spec_l14DrawLong.f t332 bt376.2.1 bt376.2.2).bind fun bt379 => (some (t349, (wrap64 (t352 + t353)), !bt376.1, t344, t345, bt379.1, t336, t337, t338, bt373.1))))) = some (r1, r2, r3, r4, r5, r6, r7, r8, r9, r10) := by rw [if_pos rfl] at H; exact H
      clear H
      have H := H1
      clear H1
      obtain ⟨y370, hy370⟩ : ∃ y_ : List Int, y_ = (([(-1), 8] : List Int)) := ⟨_, rfl⟩
      replace H : ((spec_l1PickInt.f t332 t368 t369 y370).bind fun bt373 => ((spec_l1Once.f t332 bt373.2.1 bt373.2.2 9).bind fun bt376 => ((spec_l14DrawLong.f t332 bt376.2.1 bt376.2.2).bind fun bt379 => (some (t349, (wrap64 (t352 + t353)), !bt376.1, t344, t345, bt379.1, t336, t337, t338, bt373.1))))) = some (r1, r2, r3, r4, r5, r6, r7, r8, r9, r10) := by first | (rw [hy370]; with_reducible exact H) | (have H2_ := (Option.bind_some _ _).symm.trans H; rw [hy370]; with_reducible exact H2_) | (have H2_ := (Option.bind_some _ _).symm.trans H; with_reducible exact H2_) | with_reducible exact H | (rw [hy370]; exact H) | exact H
      have Ny370 := Aside0.mk hy370
      clear hy370
      replace H := Option.bind_eq_some_iff.mp H
      obtain ⟨⟨t373, t374, t375⟩, A610, H⟩ := H
      replace H : ((spec_l1Once.f t332 t374 t375 9).bind fun bt376 => ((spec_l14DrawLong.f t332 bt376.2.1 bt376.2.2).bind fun bt379 => (some (t349, (wrap64 (t352 + t353)), !bt376.1, t344, t345, bt379.1, t336, t337, t338, t373)))) = some (r1, r2, r3, r4, r5, r6, r7, r8, r9, r10) := H
      have A61 := Aside0.mk A610
      clear A610
      replace H := Option.bind_eq_some_iff.mp H
      obtain ⟨⟨t376, t377, t378⟩, A620, H⟩ := H
      replace H : ((spec_l14DrawLong.f t332 t377 t378).bind fun bt379 => (some (t349, (wrap64 (t352 + t353)), !t376, t344, t345, bt379.1, t336, t337, t338, t373))) = some (r1, r2, r3, r4, r5, r6, r7, r8, r9, r10) := H
      have A62 := Aside0.mk A620
      clear A620
      replace H := Option.bind_eq_some_iff.mp H
      obtain ⟨⟨t379, t380, t381⟩, A630, H⟩ := H
      replace H : (some (t349, (wrap64 (t352 + t353)), !t376, t344, t345, t379, t336, t337, t338, t373)) = some (r1, r2, r3, r4, r5, r6, r7, r8, r9, r10) := H
      have A63 := Aside0.mk A630
      clear A630
      simp only [Option.some.injEq, Prod.mk.injEq] at H
      obtain ⟨rfl, rfl, rfl, rfl, rfl, rfl, rfl, rfl, rfl, rfl⟩ := H
      try go_wp2_with (first | ((with_reducible refine gate_callee (f := 43) rfl ?_); refine gl_ Try.func43 #[.pointer (some ⟨g335, 0, none⟩), .int .i64 25] ?_; (with_reducible refine (spec_l1Once.calls g335 t332 x336001_9 x336002_9 25 true t368 t369 w _ ?side1 ?side2 A59.out).mono ?_); (case side1 => repeat (first | (with_reducible first | exact HI335.out | apply IsS94.alloc | apply IsS94.drewN | apply IsS94.drew | apply IsS94.set_1 | apply IsS94.set_2 | refine IsS94.far ?_ NB335_329.out _ | refine IsS94.far ?_ NB335_330.out _ | refine IsS94.far ?_ NB335_331.out _ | refine IsS94.far ?_ NB335_343.out _ | refine IsS94.far ?_ NB335_348.out _ | refine IsS94.far ?_ NB335_356.out _) | exact HI335.out)); (case side2 => exact hb7_ HB.out (IsS94.ge HI335.out) GE329.out GE330.out GE331.out GE343.out GE348.out GE356.out); rintro e w64 ⟨rfl, hi, hb, hk⟩; refine ⟨_, rfl, ?_⟩; replace HO_344002 := am_ (Kd.R_mono (Kd.R_keep (IsS94.apart (show IsS94 w _ g335 t332 x336001_9 x336002_9 from by repeat (first | (with_reducible first | exact HI335.out | apply IsS94.alloc | apply IsS94.drewN | apply IsS94.drew | apply IsS94.set_1 | apply IsS94.set_2 | refine IsS94.far ?_ NB335_329.out _ | refine IsS94.far ?_ NB335_330.out _ | refine IsS94.far ?_ NB335_331.out _ | refine IsS94.far ?_ NB335_343.out _ | refine IsS94.far ?_ NB335_348.out _ | refine IsS94.far ?_ NB335_356.out _) | exact HI335.out)) (by (with_reducible repeat (first | apply Kd.R_alloc | apply Kd.R_drewN | apply Kd.R_drew)); exact HO_344002.out) (by decide)) hk (fun _ h => h.2)) (fun _ h => h.1)); replace BK329 := am_ (KeepBut.blk hk (g' := gb329) (o := .cells #[.int .i64 0, .int .i64 0] 25 (0, 0)) (bk_ BK329.out) NB329_335.out (by simp)); replace BK330 := am_ (KeepBut.blk hk (g' := gb330) (o := .cells #[.int .i64 0, .int .i64 0] 27 (0, 0)) (bk_ BK330.out) NB330_335.out (by simp)); replace BK331 := am_ (KeepBut.blk hk (g' := gb331) (o := .cells #[.int .i64 0, .int .i64 0, .slice none 0 0] 30 (0, 0)) (bk_ BK331.out) NB331_335.out (by simp)); replace BK343 := am_ (KeepBut.blk hk (g' := gb343) (o := .cells #[.int .i64 t336, .int .i64 t337, .slice Ao22 t338.length co22] 30 (0, 0)) (bk_ BK343.out) NB343_335.out (by simp)); replace BK348 := am_ (KeepBut.blk hk (g' := gb348) (o := .cells #[.int .i64 t344, .int .i64 t345] 27 (0, 0)) (bk_ BK348.out) NB348_335.out (by simp)); replace BK356 := am_ (KeepBut.blk hk (g' := gb356) (o := .cells #[.int .i64 t349, .int .i64 (wrap64 (t352 + t353))] 25 (0, 0)) (bk_ BK356.out) NB356_335.out (by simp)); replace HI335 := am_ (hi); replace HB := am_ (hb); (try clear hb); (try clear hb2); (try clear hk); (try clear hi)) | ((with_reducible refine gate_dst (N := 57) rfl ?_); refine Kd.R_lit (Kd.int .i64) _ 3 ?hg (N := 57) ?hd (xs := ([(-1), 8] : List Int)) (inner := [.int .i64 (-1), .int .i64 8]) (ok := fun _ => True) (okp := fun _ => True) ?hr ?hp (fun _ hk => hk) trivial (Below.refl _ _) (Nat.le_refl _) (by simp) ?_; (case hd => rfl); (case hg => rfl); (case hr => first|(go_simp;done)|(go_simp;rfl)); (case hp => exact (Reps.one (show Kd.M (Kd.int .i64) _ _ _ (-1) [.int .i64 (-1)] from rfl) (Reps.one (show Kd.M (Kd.int .i64) _ _ _ 8 [.int .i64 8] from rfl) (Reps.none _ _)))); intro v371 w65 ho66 hb hg_ hnew_; clear hg_ hnew_; (first | rw [← Ny370.out] at ho66 | (simp only [Int.reduceToNat] at ho66; rw [← Ny370.out] at ho66)); have n0_ := am_ (Kd.R_below (by (with_reducible repeat (first | apply Kd.R_alloc | apply Kd.R_drewN | apply Kd.R_drew)); exact HO_344002.out) hb); have n1_ := am_ (Kd.R_lower ho66 (below_size (hb7_ HB.out (IsS94.ge HI335.out) GE329.out GE330.out GE331.out GE343.out GE348.out GE356.out))); have n2_ := am_ (bb_ BK329.out hb); have n3_ := am_ (bb_ BK330.out hb); have n4_ := am_ (bb_ BK331.out hb); have n5_ := am_ (bb_ BK343.out hb); have n6_ := am_ (bb_ BK348.out hb); have n7_ := am_ (bb_ BK356.out hb); have n8_ := am_ (IsS94.below (by repeat (first | (with_reducible first | exact HI335.out | apply IsS94.alloc | apply IsS94.drewN | apply IsS94.drew | apply IsS94.set_1 | apply IsS94.set_2 | refine IsS94.far ?_ NB335_329.out _ | refine IsS94.far ?_ NB335_330.out _ | refine IsS94.far ?_ NB335_331.out _ | refine IsS94.far ?_ NB335_343.out _ | refine IsS94.far ?_ NB335_348.out _ | refine IsS94.far ?_ NB335_356.out _) | exact HI335.out)) hb); have n9_ := am_ (below_step (hb7_ HB.out (IsS94.ge HI335.out) GE329.out GE330.out GE331.out GE343.out GE348.out GE356.out) hb); clear HO_344002; clear BK329; clear BK330; clear BK331; clear BK343; clear BK348; clear BK356; clear HI335; clear HB; have HO_344002 := n0_; have HO372 := n1_; have BK329 := n2_; have BK330 := n3_; have BK331 := n4_; have BK343 := n5_; have BK348 := n6_; have BK356 := n7_; have HI335 := n8_; have HB := n9_; clear n0_ n1_ n2_ n3_ n4_ n5_ n6_ n7_ n8_ n9_; clear hb ho66; obtain ⟨Ao67, co67, eo67⟩ := Kd.R_slice HO372.out; subst eo67) | ((with_reducible refine gate_callee (f := 44) rfl ?_); refine gl_ Try.func44 #[.pointer (some ⟨g335, 0, none⟩), .slice Ao67 y370.length co67] ?_; (with_reducible refine (spec_l1PickInt.calls g335 t332 t368 t369 _ _ y370 t373 t374 t375 w _ ?side1 ?side2 ?side3 ?side4 ?side5 A61.out).mono ?_); (case side1 => repeat (first | (with_reducible first | exact HI335.out | apply IsS94.alloc | apply IsS94.drewN | apply IsS94.drew | apply IsS94.set_1 | apply IsS94.set_2 | refine IsS94.far ?_ NB335_329.out _ | refine IsS94.far ?_ NB335_330.out _ | refine IsS94.far ?_ NB335_331.out _ | refine IsS94.far ?_ NB335_343.out _ | refine IsS94.far ?_ NB335_348.out _ | refine IsS94.far ?_ NB335_356.out _) | exact HI335.out)); (case side2 => exact hb7_ HB.out (IsS94.ge HI335.out) GE329.out GE330.out GE331.out GE343.out GE348.out GE356.out); (case side3 => repeat (first | exact (Kd.R_reads' HO372.out).2.2 | (with_reducible refine Kd.C_alloc ?_ _) | (with_reducible refine Kd.C_drewN ?_ _) | (with_reducible refine Kd.C_drew ?_))); (case side4 => exact (Kd.R_reads' HO372.out).2.1); (case side5 => exact far_slice (IsS94.own_ne HI335.out HO372.out (by decide))); rintro e w68 ⟨rfl, hi, hb, hk⟩; refine ⟨_, rfl, ?_⟩; replace HO_344002 := am_ (Kd.R_mono (Kd.R_keep (IsS94.apart (show IsS94 w _ g335 t332 t368 t369 from by repeat (first | (with_reducible first | exact HI335.out | apply IsS94.alloc | apply IsS94.drewN | apply IsS94.drew | apply IsS94.set_1 | apply IsS94.set_2 | refine IsS94.far ?_ NB335_329.out _ | refine IsS94.far ?_ NB335_330.out _ | refine IsS94.far ?_ NB335_331.out _ | refine IsS94.far ?_ NB335_343.out _ | refine IsS94.far ?_ NB335_348.out _ | refine IsS94.far ?_ NB335_356.out _) | exact HI335.out)) (by (with_reducible repeat (first | apply Kd.R_alloc | apply Kd.R_drewN | apply Kd.R_drew)); exact HO_344002.out) (by decide)) hk (fun _ h => h.2)) (fun _ h => h.1)); replace BK329 := am_ (KeepBut.blk hk (g' := gb329) (o := .cells #[.int .i64 0, .int .i64 0] 25 (0, 0)) (bk_ BK329.out) NB329_335.out (by simp)); replace BK330 := am_ (KeepBut.blk hk (g' := gb330) (o := .cells #[.int .i64 0, .int .i64 0] 27 (0, 0)) (bk_ BK330.out) NB330_335.out (by simp)); replace BK331 := am_ (KeepBut.blk hk (g' := gb331) (o := .cells #[.int .i64 0, .int .i64 0, .slice none 0 0] 30 (0, 0)) (bk_ BK331.out) NB331_335.out (by simp)); replace BK343 := am_ (KeepBut.blk hk (g' := gb343) (o := .cells #[.int .i64 t336, .int .i64 t337, .slice Ao22 t338.length co22] 30 (0, 0)) (bk_ BK343.out) NB343_335.out (by simp)); replace BK348 := am_ (KeepBut.blk hk (g' := gb348) (o := .cells #[.int .i64 t344, .int .i64 t345] 27 (0, 0)) (bk_ BK348.out) NB348_335.out (by simp)); replace BK356 := am_ (KeepBut.blk hk (g' := gb356) (o := .cells #[.int .i64 t349, .int .i64 (wrap64 (t352 + t353))] 25 (0, 0)) (bk_ BK356.out) NB356_335.out (by simp)); replace HO372 := am_ (Kd.R_mono (Kd.R_keep (IsS94.apart (show IsS94 w _ g335 t332 t368 t369 from by repeat (first | (with_reducible first | exact HI335.out | apply IsS94.alloc | apply IsS94.drewN | apply IsS94.drew | apply IsS94.set_1 | apply IsS94.set_2 | refine IsS94.far ?_ NB335_329.out _ | refine IsS94.far ?_ NB335_330.out _ | refine IsS94.far ?_ NB335_331.out _ | refine IsS94.far ?_ NB335_343.out _ | refine IsS94.far ?_ NB335_348.out _ | refine IsS94.far ?_ NB335_356.out _) | exact HI335.out)) (by (with_reducible repeat (first | apply Kd.R_alloc | apply Kd.R_drewN | apply Kd.R_drew)); exact HO372.out) (by decide)) hk (fun _ h => h.2)) (fun _ h => h.1)); replace HI335 := am_ (hi); replace HB := am_ (hb); (try clear hb); (try clear hb2); (try clear hk); (try clear hi)))
      have n0_ := am_ (Kd.R_drew HO_344002.out)
      have n1_ := am_ (Kd.R_drew HO372.out)
      have n2_ := am_ (blk_drew BK329.out)
      have n3_ := am_ (blk_drew BK330.out)
      have n4_ := am_ (blk_drew BK331.out)
      have n5_ := am_ (blk_drew BK343.out)
      have n6_ := am_ (blk_drew BK348.out)
      have n7_ := am_ (blk_drew BK356.out)
      have n8_ := am_ (IsS94.drew HI335.out)
      have n9_ := am_ (below_drew1 HB.out)
      clear HO_344002
      clear HO372
      clear BK329
      clear BK330
      clear BK331
      clear BK343
      clear BK348
      clear BK356
      clear HI335
      clear HB
      have HO_344002 := n0_
      have HO372 := n1_
      have BK329 := n2_
      have BK330 := n3_
      have BK331 := n4_
      have BK343 := n5_
      have BK348 := n6_
      have BK356 := n7_
      have HI335 := n8_
      have HB := n9_
      clear n0_ n1_ n2_ n3_ n4_ n5_ n6_ n7_ n8_ n9_
      refine start_ (n := 15) (S := fun w' => w'.cell? ⟨gb356, 0, none⟩ = some (.int .i64 t349) ∧ w'.cell? ⟨gb356, 1, none⟩ = some (.int .i64 (wrap64 (t352 + t353))) ∧ w'.cell? ⟨gb348, 0, none⟩ = some (.int .i64 t344) ∧ w'.cell? ⟨gb348, 1, none⟩ = some (.int .i64 t345) ∧ w'.cell? ⟨gb343, 0, none⟩ = some (.int .i64 t336) ∧ w'.cell? ⟨gb343, 1, none⟩ = some (.int .i64 t337) ∧ w'.cell? ⟨gb343, 2, none⟩ = some (.slice Ao22 t338.length co22)) (ds := []) #[false, false, false, false, false, false, false, false, false, false, false, false, false, false, false] (by kernel_rfl) rfl rfl ⟨(blk_cell BK356.out 0).trans rfl, (blk_cell BK356.out 1).trans rfl, (blk_cell BK348.out 0).trans rfl, (blk_cell BK348.out 1).trans rfl, (blk_cell BK343.out 0).trans rfl, (blk_cell BK343.out 1).trans rfl, (blk_cell BK343.out 2).trans rfl⟩ (fun hHeld => ?_); refine with_tabW spec_DrawGateAsk.tab12 spec_DrawGateAsk.bits12 (fun HT_ HW_ => ?_)
      generalize w68.drew = w69 at HO_344002 HO372 BK329 BK330 BK331 BK343 BK348 BK356 HI335 HB hHeld ⊢
      refine pure_ (i := 1) (N := some 60) (v := ?_) (a' := ?_) #[false, true, false, false, false, false, false, false, false, false, false, false, false, false, false] rfl rfl (any_of HT_.out (by kernel_rfl)) (fun _ _ _ h => h) (Or.inl ⟨by rfl, ?_⟩) ?_ ?_
      rotate_left
      ·intro w'
       go_simp
       with_reducible rfl
      rotate_left
      ·simp only [Act.put, List.setIfInBounds_toArray, List.set_cons_zero, List.set_cons_succ, i64_w, i32_w]
       rfl
      refine pure_ (i := 5) (N := some 64) (v := ?_) (a' := ?_) #[false, true, false, false, false, true, false, false, false, false, false, false, false, false, false] rfl rfl (any_of HT_.out (by kernel_rfl)) (fun _ _ _ h => h) (Or.inl ⟨by rfl, ?_⟩) ?_ ?_
      rotate_left
      ·intro w'
       go_simp
       with_reducible rfl
      rotate_left
      ·simp only [Act.put, List.setIfInBounds_toArray, List.set_cons_zero, List.set_cons_succ, i64_w, i32_w]
       rfl
      refine pure_ (i := 8) (N := some 67) (v := ?_) (a' := ?_) #[false, true, false, false, false, true, false, false, true, false, false, false, false, false, false] rfl rfl (any_of HT_.out (by kernel_rfl)) (fun _ _ _ h => h) (Or.inl ⟨by rfl, ?_⟩) ?_ ?_
      rotate_left
      ·intro w'
       go_simp
       with_reducible rfl
      rotate_left
      ·simp only [Act.put, List.setIfInBounds_toArray, List.set_cons_zero, List.set_cons_succ, i64_w, i32_w]
       rfl
      refine take_ (i := 0) (N := some 59) (v := ?_) (a' := ?_) #[true, true, false, false, false, true, false, false, true, false, false, false, false, false, false] rfl rfl (take_ofW HT_.out HW_.out (by kernel_rfl)) (fun _ _ _ h => h) (Or.inl ⟨by rfl, ?_⟩) hHeld ?_ ?_
      rotate_left
      ·rintro w' ⟨s0, s1, s2, s3, s4, s5, s6⟩
       go_simp
       with_reducible rfl
      rotate_left
      ·simp only [Act.put, List.setIfInBounds_toArray, List.set_cons_zero, List.set_cons_succ, i64_w, i32_w]
       rfl
      refine take_ (i := 4) (N := some 63) (v := ?_) (a' := ?_) #[true, true, false, false, true, true, false, false, true, false, false, false, false, false, false] rfl rfl (take_ofW HT_.out HW_.out (by kernel_rfl)) (fun _ _ _ h => h) (Or.inl ⟨by rfl, ?_⟩) hHeld ?_ ?_
      rotate_left
      ·rintro w' ⟨s0, s1, s2, s3, s4, s5, s6⟩
       go_simp
       with_reducible rfl
      rotate_left
      ·simp only [Act.put, List.setIfInBounds_toArray, List.set_cons_zero, List.set_cons_succ, i64_w, i32_w]
       rfl
      refine take_ (i := 7) (N := some 66) (v := ?_) (a' := ?_) #[true, true, false, false, true, true, false, true, true, false, false, false, false, false, false] rfl rfl (take_ofW HT_.out HW_.out (by kernel_rfl)) (fun _ _ _ h => h) (Or.inl ⟨by rfl, ?_⟩) hHeld ?_ ?_
      rotate_left
      ·rintro w' ⟨s0, s1, s2, s3, s4, s5, s6⟩
       go_simp
       with_reducible rfl
      rotate_left
      ·simp only [Act.put, List.setIfInBounds_toArray, List.set_cons_zero, List.set_cons_succ, i64_w, i32_w]
       rfl
      refine one_ (i := 2) (N := some 61) #[true, true, true, false, true, true, false, true, true, false, false, false, false, false, false] rfl rfl (one_of HT_.out (by kernel_rfl)) (by decide) (fun K hK => ?_)
      refine goes_ Try.func43 (by kernel_rfl) rfl #[.pointer (some ⟨g335, 0, none⟩), .int .i64 9] (by rfl) rfl rfl arr_ ?_
      with_reducible refine (spec_l1Once.calls g335 t332 t374 t375 9 t376 t377 t378 w _ ?side1 ?side2 A62.out).mono ?_
      (case side1 => repeat (first | (with_reducible first | exact HI335.out | apply IsS94.alloc | apply IsS94.drewN | apply IsS94.drew | apply IsS94.set_1 | apply IsS94.set_2 | refine IsS94.far ?_ NB335_329.out _ | refine IsS94.far ?_ NB335_330.out _ | refine IsS94.far ?_ NB335_331.out _ | refine IsS94.far ?_ NB335_343.out _ | refine IsS94.far ?_ NB335_348.out _ | refine IsS94.far ?_ NB335_356.out _) | exact HI335.out))
      (case side2 => exact hb7_ HB.out (IsS94.ge HI335.out) GE329.out GE330.out GE331.out GE343.out GE348.out GE356.out)
      rintro e w70 ⟨rfl, hi, hb, hk⟩
      refine ⟨_, rfl, ?_⟩
      have n0_ := am_ (Kd.R_mono (Kd.R_keep (IsS94.apart (show IsS94 w _ g335 t332 t374 t375 from by repeat (first | (with_reducible first | exact HI335.out | apply IsS94.alloc | apply IsS94.drewN | apply IsS94.drew | apply IsS94.set_1 | apply IsS94.set_2 | refine IsS94.far ?_ NB335_329.out _ | refine IsS94.far ?_ NB335_330.out _ | refine IsS94.far ?_ NB335_331.out _ | refine IsS94.far ?_ NB335_343.out _ | refine IsS94.far ?_ NB335_348.out _ | refine IsS94.far ?_ NB335_356.out _) | exact HI335.out)) (by (with_reducible repeat (first | apply Kd.R_alloc | apply Kd.R_drewN | apply Kd.R_drew)); exact HO_344002.out) (by decide)) hk (fun _ h => h.2)) (fun _ h => h.1))
      have n1_ := am_ (KeepBut.blk hk (g' := gb329) (o := .cells #[.int .i64 0, .int .i64 0] 25 (0, 0)) (bk_ BK329.out) NB329_335.out (by simp))
      have n2_ := am_ (KeepBut.blk hk (g' := gb330) (o := .cells #[.int .i64 0, .int .i64 0] 27 (0, 0)) (bk_ BK330.out) NB330_335.out (by simp))
      have n3_ := am_ (KeepBut.blk hk (g' := gb331) (o := .cells #[.int .i64 0, .int .i64 0, .slice none 0 0] 30 (0, 0)) (bk_ BK331.out) NB331_335.out (by simp))
      have n4_ := am_ (KeepBut.blk hk (g' := gb343) (o := .cells #[.int .i64 t336, .int .i64 t337, .slice Ao22 t338.length co22] 30 (0, 0)) (bk_ BK343.out) NB343_335.out (by simp))
      have n5_ := am_ (KeepBut.blk hk (g' := gb348) (o := .cells #[.int .i64 t344, .int .i64 t345] 27 (0, 0)) (bk_ BK348.out) NB348_335.out (by simp))
      have n6_ := am_ (KeepBut.blk hk (g' := gb356) (o := .cells #[.int .i64 t349, .int .i64 (wrap64 (t352 + t353))] 25 (0, 0)) (bk_ BK356.out) NB356_335.out (by simp))
      have n7_ := am_ (Kd.R_mono (Kd.R_keep (IsS94.apart (show IsS94 w _ g335 t332 t374 t375 from by repeat (first | (with_reducible first | exact HI335.out | apply IsS94.alloc | apply IsS94.drewN | apply IsS94.drew | apply IsS94.set_1 | apply IsS94.set_2 | refine IsS94.far ?_ NB335_329.out _ | refine IsS94.far ?_ NB335_330.out _ | refine IsS94.far ?_ NB335_331.out _ | refine IsS94.far ?_ NB335_343.out _ | refine IsS94.far ?_ NB335_348.out _ | refine IsS94.far ?_ NB335_356.out _) | exact HI335.out)) (by (with_reducible repeat (first | apply Kd.R_alloc | apply Kd.R_drewN | apply Kd.R_drew)); exact HO372.out) (by decide)) hk (fun _ h => h.2)) (fun _ h => h.1))
      have n8_ := am_ (hb)
      have n9_ := am_ (hi)
      clear HO_344002
      clear BK329
      clear BK330
      clear BK331
      clear BK343
      clear BK348
      clear BK356
      clear HO372
      clear HB
      clear HI335
      have HO_344002 := n0_
      have BK329 := n1_
      have BK330 := n2_
      have BK331 := n3_
      have BK343 := n4_
      have BK348 := n5_
      have BK356 := n6_
      have HO372 := n7_
      have HB := n8_
      have HI335 := n9_
      clear n0_ n1_ n2_ n3_ n4_ n5_ n6_ n7_ n8_ n9_
      (try clear hb)
      (try clear hb2)
      (try clear hk)
      (try clear hi)
      refine hK.out _ _ ⟨(blk_cell BK356.out 0).trans rfl, (blk_cell BK356.out 1).trans rfl, (blk_cell BK348.out 0).trans rfl, (blk_cell BK348.out 1).trans rfl, (blk_cell BK343.out 0).trans rfl, (blk_cell BK343.out 1).trans rfl, (blk_cell BK343.out 2).trans rfl⟩ (fun hHeld => ?_)
      clear hK K
      refine norm_ (a' := ?_) ?_ ?_
      rotate_left
      ·show Act.put _ (some 61) _ = _
       simp only [Act.put, List.setIfInBounds_toArray, List.set_cons_zero, List.set_cons_succ, i64_w, i32_w]
       rfl
      refine pure_ (i := 3) (N := some 62) (v := ?_) (a' := ?_) #[true, true, true, true, true, true, false, true, true, false, false, false, false, false, false] rfl rfl (any_of HT_.out (by kernel_rfl)) (fun _ _ _ h => h) (Or.inl ⟨by rfl, ?_⟩) ?_ ?_
      rotate_left
      ·intro w'
       go_simp
       with_reducible rfl
      rotate_left
      ·simp only [Act.put, List.setIfInBounds_toArray, List.set_cons_zero, List.set_cons_succ, i64_w, i32_w]
       rfl
      refine one_ (i := 6) (N := some 65) #[true, true, true, true, true, true, true, true, true, false, false, false, false, false, false] rfl rfl (one_of HT_.out (by kernel_rfl)) (by decide) (fun K hK => ?_)
      refine goes_ Try.func45 (by kernel_rfl) rfl #[.pointer (some ⟨g335, 0, none⟩)] (by rfl) rfl rfl arr_ ?_
      with_reducible refine (spec_l14DrawLong.calls g335 t332 t377 t378 t379 t380 t381 w _ ?side1 ?side2 A63.out).mono ?_
      (case side1 => repeat (first | (with_reducible first | exact HI335.out | apply IsS94.alloc | apply IsS94.drewN | apply IsS94.drew | apply IsS94.set_1 | apply IsS94.set_2 | refine IsS94.far ?_ NB335_329.out _ | refine IsS94.far ?_ NB335_330.out _ | refine IsS94.far ?_ NB335_331.out _ | refine IsS94.far ?_ NB335_343.out _ | refine IsS94.far ?_ NB335_348.out _ | refine IsS94.far ?_ NB335_356.out _) | exact HI335.out))
      (case side2 => exact hb7_ HB.out (IsS94.ge HI335.out) GE329.out GE330.out GE331.out GE343.out GE348.out GE356.out)
      rintro e w71 ⟨rfl, hi, hb, hk⟩
      refine ⟨_, rfl, ?_⟩
      have n0_ := am_ (Kd.R_mono (Kd.R_keep (IsS94.apart (show IsS94 w _ g335 t332 t377 t378 from by repeat (first | (with_reducible first | exact HI335.out | apply IsS94.alloc | apply IsS94.drewN | apply IsS94.drew | apply IsS94.set_1 | apply IsS94.set_2 | refine IsS94.far ?_ NB335_329.out _ | refine IsS94.far ?_ NB335_330.out _ | refine IsS94.far ?_ NB335_331.out _ | refine IsS94.far ?_ NB335_343.out _ | refine IsS94.far ?_ NB335_348.out _ | refine IsS94.far ?_ NB335_356.out _) | exact HI335.out)) (by (with_reducible repeat (first | apply Kd.R_alloc | apply Kd.R_drewN | apply Kd.R_drew)); exact HO_344002.out) (by decide)) hk (fun _ h => h.2)) (fun _ h => h.1))
      have n1_ := am_ (KeepBut.blk hk (g' := gb329) (o := .cells #[.int .i64 0, .int .i64 0] 25 (0, 0)) (bk_ BK329.out) NB329_335.out (by simp))
      have n2_ := am_ (KeepBut.blk hk (g' := gb330) (o := .cells #[.int .i64 0, .int .i64 0] 27 (0, 0)) (bk_ BK330.out) NB330_335.out (by simp))
      have n3_ := am_ (KeepBut.blk hk (g' := gb331) (o := .cells #[.int .i64 0, .int .i64 0, .slice none 0 0] 30 (0, 0)) (bk_ BK331.out) NB331_335.out (by simp))
      have n4_ := am_ (KeepBut.blk hk (g' := gb343) (o := .cells #[.int .i64 t336, .int .i64 t337, .slice Ao22 t338.length co22] 30 (0, 0)) (bk_ BK343.out) NB343_335.out (by simp))
      have n5_ := am_ (KeepBut.blk hk (g' := gb348) (o := .cells #[.int .i64 t344, .int .i64 t345] 27 (0, 0)) (bk_ BK348.out) NB348_335.out (by simp))
      have n6_ := am_ (KeepBut.blk hk (g' := gb356) (o := .cells #[.int .i64 t349, .int .i64 (wrap64 (t352 + t353))] 25 (0, 0)) (bk_ BK356.out) NB356_335.out (by simp))
      have n7_ := am_ (Kd.R_mono (Kd.R_keep (IsS94.apart (show IsS94 w _ g335 t332 t377 t378 from by repeat (first | (with_reducible first | exact HI335.out | apply IsS94.alloc | apply IsS94.drewN | apply IsS94.drew | apply IsS94.set_1 | apply IsS94.set_2 | refine IsS94.far ?_ NB335_329.out _ | refine IsS94.far ?_ NB335_330.out _ | refine IsS94.far ?_ NB335_331.out _ | refine IsS94.far ?_ NB335_343.out _ | refine IsS94.far ?_ NB335_348.out _ | refine IsS94.far ?_ NB335_356.out _) | exact HI335.out)) (by (with_reducible repeat (first | apply Kd.R_alloc | apply Kd.R_drewN | apply Kd.R_drew)); exact HO372.out) (by decide)) hk (fun _ h => h.2)) (fun _ h => h.1))
      have n8_ := am_ (hb)
      have n9_ := am_ (hi)
      clear HO_344002
      clear BK329
      clear BK330
      clear BK331
      clear BK343
      clear BK348
      clear BK356
      clear HO372
      clear HB
      clear HI335
      have HO_344002 := n0_
      have BK329 := n1_
      have BK330 := n2_
      have BK331 := n3_
      have BK343 := n4_
      have BK348 := n5_
      have BK356 := n6_
      have HO372 := n7_
      have HB := n8_
      have HI335 := n9_
      clear n0_ n1_ n2_ n3_ n4_ n5_ n6_ n7_ n8_ n9_
      (try clear hb)
      (try clear hb2)
      (try clear hk)
      (try clear hi)
      refine hK.out _ _ ⟨(blk_cell BK356.out 0).trans rfl, (blk_cell BK356.out 1).trans rfl, (blk_cell BK348.out 0).trans rfl, (blk_cell BK348.out 1).trans rfl, (blk_cell BK343.out 0).trans rfl, (blk_cell BK343.out 1).trans rfl, (blk_cell BK343.out 2).trans rfl⟩ (fun hHeld => ?_)
      clear hK K
      refine norm_ (a' := ?_) ?_ ?_
      rotate_left
      ·show Act.put _ (some 65) _ = _
       simp only [Act.put, List.setIfInBounds_toArray, List.set_cons_zero, List.set_cons_succ, i64_w, i32_w]
       rfl
      refine one_ (i := 9) (N := none) #[true, true, true, true, true, true, true, true, true, true, false, false, false, false, false] rfl rfl (one_of HT_.out (by kernel_rfl)) (by decide) (fun K hK => ?_)
      have hs72 : w71.cell? ⟨gb329, 0, none⟩ = some (.int .i64 0) := (blk_cell BK329.out 0).trans rfl
      have hfs72 := blk_frozen BK329.out 0
      have hns72_1 := NB330_329.out
      have hns72_2 := NB331_329.out
      have hns72_3 := NB343_329.out
      have hns72_4 := NB348_329.out
      have hns72_5 := NB356_329.out
      have hms72_1 := NB329_330.out
      have hms72_2 := NB329_331.out
      have hms72_3 := NB329_343.out
      have hms72_4 := NB329_348.out
      have hms72_5 := NB329_356.out
      have hs73 : w71.cell? ⟨gb329, 1, none⟩ = some (.int .i64 0) := (blk_cell BK329.out 1).trans rfl
      have hfs73 := blk_frozen BK329.out 1
      have hns73_1 := NB330_329.out
      have hns73_2 := NB331_329.out
      have hns73_3 := NB343_329.out
      have hns73_4 := NB348_329.out
      have hns73_5 := NB356_329.out
      have hms73_1 := NB329_330.out
      have hms73_2 := NB329_331.out
      have hms73_3 := NB329_343.out
      have hms73_4 := NB329_348.out
      have hms73_5 := NB329_356.out
      refine skip_ (w1 := ?_) (by rfl) rfl ?_ ?_
      rotate_left
      ·go_simp
       rfl
      refine hK.out _ _ ⟨(ct_ NB356_329.out ((ct_ NB356_329.out (hHeld.1)))), (ct_ NB356_329.out ((ct_ NB356_329.out (hHeld.2.1)))), (ct_ NB348_329.out ((ct_ NB348_329.out (hHeld.2.2.1)))), (ct_ NB348_329.out ((ct_ NB348_329.out (hHeld.2.2.2.1)))), (ct_ NB343_329.out ((ct_ NB343_329.out (hHeld.2.2.2.2.1)))), (ct_ NB343_329.out ((ct_ NB343_329.out (hHeld.2.2.2.2.2.1)))), (ct_ NB343_329.out ((ct_ NB343_329.out (hHeld.2.2.2.2.2.2))))⟩ (fun hHeld => ?_)
      clear hK K
      refine pure_ (i := 10) (N := some 3) (v := ?_) (a' := ?_) #[true, true, true, true, true, true, true, true, true, true, true, false, false, false, false] rfl rfl (any_of HT_.out (by kernel_rfl)) (fun _ _ _ h => h) (Or.inl ⟨by rfl, ?_⟩) ?_ ?_
      rotate_left
      ·intro w'
       go_simp
       with_reducible rfl
      rotate_left
      ·simp only [Act.put, List.setIfInBounds_toArray, List.set_cons_zero, List.set_cons_succ, i64_w, i32_w]
       rfl
      refine one_ (i := 11) (N := none) #[true, true, true, true, true, true, true, true, true, true, true, true, false, false, false] rfl rfl (one_of HT_.out (by kernel_rfl)) (by decide) (fun K hK => ?_)
      have hs74 : w71.cell? ⟨gb330, 0, none⟩ = some (.int .i64 0) := (blk_cell BK330.out 0).trans rfl
      have hfs74 := blk_frozen BK330.out 0
      have hns74_0 := NB329_330.out
      have hns74_2 := NB331_330.out
      have hns74_3 := NB343_330.out
      have hns74_4 := NB348_330.out
      have hns74_5 := NB356_330.out
      have hms74_0 := NB330_329.out
      have hms74_2 := NB330_331.out
      have hms74_3 := NB330_343.out
      have hms74_4 := NB330_348.out
      have hms74_5 := NB330_356.out
      have hs75 : w71.cell? ⟨gb330, 1, none⟩ = some (.int .i64 0) := (blk_cell BK330.out 1).trans rfl
      have hfs75 := blk_frozen BK330.out 1
      have hns75_0 := NB329_330.out
      have hns75_2 := NB331_330.out
      have hns75_3 := NB343_330.out
      have hns75_4 := NB348_330.out
      have hns75_5 := NB356_330.out
      have hms75_0 := NB330_329.out
      have hms75_2 := NB330_331.out
      have hms75_3 := NB330_343.out
      have hms75_4 := NB330_348.out
      have hms75_5 := NB330_356.out
      refine skip_ (w1 := ?_) (by rfl) rfl ?_ ?_
      rotate_left
      ·go_simp
       rfl
      refine hK.out _ _ ⟨(ct_ NB356_330.out ((ct_ NB356_330.out (hHeld.1)))), (ct_ NB356_330.out ((ct_ NB356_330.out (hHeld.2.1)))), (ct_ NB348_330.out ((ct_ NB348_330.out (hHeld.2.2.1)))), (ct_ NB348_330.out ((ct_ NB348_330.out (hHeld.2.2.2.1)))), (ct_ NB343_330.out ((ct_ NB343_330.out (hHeld.2.2.2.2.1)))), (ct_ NB343_330.out ((ct_ NB343_330.out (hHeld.2.2.2.2.2.1)))), (ct_ NB343_330.out ((ct_ NB343_330.out (hHeld.2.2.2.2.2.2))))⟩ (fun hHeld => ?_)
      clear hK K
      refine pure_ (i := 12) (N := some 5) (v := ?_) (a' := ?_) #[true, true, true, true, true, true, true, true, true, true, true, true, true, false, false] rfl rfl (any_of HT_.out (by kernel_rfl)) (fun _ _ _ h => h) (Or.inl ⟨by rfl, ?_⟩) ?_ ?_
      rotate_left
      ·intro w'
       go_simp
       with_reducible rfl
      rotate_left
      ·simp only [Act.put, List.setIfInBounds_toArray, List.set_cons_zero, List.set_cons_succ, i64_w, i32_w]
       rfl
      refine one_ (i := 13) (N := none) #[true, true, true, true, true, true, true, true, true, true, true, true, true, true, false] rfl rfl (one_of HT_.out (by kernel_rfl)) (by decide) (fun K hK => ?_)
      have hs76 : w71.cell? ⟨gb331, 0, none⟩ = some (.int .i64 0) := (blk_cell BK331.out 0).trans rfl
      have hfs76 := blk_frozen BK331.out 0
      have hns76_0 := NB329_331.out
      have hns76_1 := NB330_331.out
      have hns76_3 := NB343_331.out
      have hns76_4 := NB348_331.out
      have hns76_5 := NB356_331.out
      have hms76_0 := NB331_329.out
      have hms76_1 := NB331_330.out
      have hms76_3 := NB331_343.out
      have hms76_4 := NB331_348.out
      have hms76_5 := NB331_356.out
      have hs77 : w71.cell? ⟨gb331, 1, none⟩ = some (.int .i64 0) := (blk_cell BK331.out 1).trans rfl
      have hfs77 := blk_frozen BK331.out 1
      have hns77_0 := NB329_331.out
      have hns77_1 := NB330_331.out
      have hns77_3 := NB343_331.out
      have hns77_4 := NB348_331.out
      have hns77_5 := NB356_331.out
      have hms77_0 := NB331_329.out
      have hms77_1 := NB331_330.out
      have hms77_3 := NB331_343.out
      have hms77_4 := NB331_348.out
      have hms77_5 := NB331_356.out
      have hs78 : w71.cell? ⟨gb331, 2, none⟩ = some (.slice none 0 0) := (blk_cell BK331.out 2).trans rfl
      have hfs78 := blk_frozen BK331.out 2
      have hns78_0 := NB329_331.out
      have hns78_1 := NB330_331.out
      have hns78_3 := NB343_331.out
      have hns78_4 := NB348_331.out
      have hns78_5 := NB356_331.out
      have hms78_0 := NB331_329.out
      have hms78_1 := NB331_330.out
      have hms78_3 := NB331_343.out
      have hms78_4 := NB331_348.out
      have hms78_5 := NB331_356.out
      refine skip_ (w1 := ?_) (by rfl) rfl ?_ ?_
      rotate_left
      ·go_simp
       rfl
      refine hK.out _ _ ⟨(ct_ NB356_331.out ((ct_ NB356_331.out ((ct_ NB356_331.out (hHeld.1)))))), (ct_ NB356_331.out ((ct_ NB356_331.out ((ct_ NB356_331.out (hHeld.2.1)))))), (ct_ NB348_331.out ((ct_ NB348_331.out ((ct_ NB348_331.out (hHeld.2.2.1)))))), (ct_ NB348_331.out ((ct_ NB348_331.out ((ct_ NB348_331.out (hHeld.2.2.2.1)))))), (ct_ NB343_331.out ((ct_ NB343_331.out ((ct_ NB343_331.out (hHeld.2.2.2.2.1)))))), (ct_ NB343_331.out ((ct_ NB343_331.out ((ct_ NB343_331.out (hHeld.2.2.2.2.2.1)))))), (ct_ NB343_331.out ((ct_ NB343_331.out ((ct_ NB343_331.out (hHeld.2.2.2.2.2.2))))))⟩ (fun hHeld => ?_)
      clear hK K
      refine pure_ (i := 14) (N := some 7) (v := ?_) (a' := ?_) #[true, true, true, true, true, true, true, true, true, true, true, true, true, true, true] rfl rfl (any_of HT_.out (by kernel_rfl)) (fun _ _ _ h => h) (Or.inl ⟨by rfl, ?_⟩) ?_ ?_
      rotate_left
      ·intro w'
       go_simp
       with_reducible rfl
      rotate_left
      ·simp only [Act.put, List.setIfInBounds_toArray, List.set_cons_zero, List.set_cons_succ, i64_w, i32_w]
       rfl
      refine done_ (done_of HT_.out (by kernel_rfl)) ?_
      try go_wp2
      refine bodyPost_ret (results_list (rs := [.cell 2 25, .tmp 3, .cell 4 27, .tmp 5, .cell 6 30, .tmp 7]) rfl (by simp) (.cell gb329 25 #[.int .i64 t349, .int .i64 (wrap64 (t352 + t353))] (0, 0) _ rfl (by (with_reducible repeat (first | refine blk_drewN ?_ _ | refine blk_drew ?_ | refine blk_alloc ?_ _)); refine blk_far ?_ NB329_331.out _; (with_reducible repeat (first | refine blk_drewN ?_ _ | refine blk_drew ?_ | refine blk_alloc ?_ _)); refine blk_far ?_ NB329_331.out _; (with_reducible repeat (first | refine blk_drewN ?_ _ | refine blk_drew ?_ | refine blk_alloc ?_ _)); refine blk_far ?_ NB329_331.out _; (with_reducible repeat (first | refine blk_drewN ?_ _ | refine blk_drew ?_ | refine blk_alloc ?_ _)); refine blk_far ?_ NB329_330.out _; (with_reducible repeat (first | refine blk_drewN ?_ _ | refine blk_drew ?_ | refine blk_alloc ?_ _)); refine blk_far ?_ NB329_330.out _; (with_reducible repeat (first | refine blk_drewN ?_ _ | refine blk_drew ?_ | refine blk_alloc ?_ _)); refine blk_put (cs := #[.int .i64 t349, .int .i64 0]) ?_ 1 _ rfl; (with_reducible repeat (first | refine blk_drewN ?_ _ | refine blk_drew ?_ | refine blk_alloc ?_ _)); refine blk_put (cs := #[.int .i64 0, .int .i64 0]) ?_ 0 _ rfl; (with_reducible repeat (first | refine blk_drewN ?_ _ | refine blk_drew ?_ | refine blk_alloc ?_ _)); exact BK329.out) Try.underlying25 rfl (by kernel_rfl) (.tmp (.cell gb330 27 #[.int .i64 t344, .int .i64 t345] (0, 0) _ rfl (by (with_reducible repeat (first | refine blk_drewN ?_ _ | refine blk_drew ?_ | refine blk_alloc ?_ _)); refine blk_far ?_ NB330_331.out _; (with_reducible repeat (first | refine blk_drewN ?_ _ | refine blk_drew ?_ | refine blk_alloc ?_ _)); refine blk_far ?_ NB330_331.out _; (with_reducible repeat (first | refine blk_drewN ?_ _ | refine blk_drew ?_ | refine blk_alloc ?_ _)); refine blk_far ?_ NB330_331.out _; (with_reducible repeat (first | refine blk_drewN ?_ _ | refine blk_drew ?_ | refine blk_alloc ?_ _)); refine blk_put (cs := #[.int .i64 t344, .int .i64 0]) ?_ 1 _ rfl; (with_reducible repeat (first | refine blk_drewN ?_ _ | refine blk_drew ?_ | refine blk_alloc ?_ _)); refine blk_put (cs := #[.int .i64 0, .int .i64 0]) ?_ 0 _ rfl; (with_reducible repeat (first | refine blk_drewN ?_ _ | refine blk_drew ?_ | refine blk_alloc ?_ _)); refine blk_far ?_ NB330_329.out _; (with_reducible repeat (first | refine blk_drewN ?_ _ | refine blk_drew ?_ | refine blk_alloc ?_ _)); refine blk_far ?_ NB330_329.out _; (with_reducible repeat (first | refine blk_drewN ?_ _ | refine blk_drew ?_ | refine blk_alloc ?_ _)); exact BK330.out) Try.underlying27 rfl (by kernel_rfl) (.tmp (.cell gb331 30 #[.int .i64 t336, .int .i64 t337, .slice Ao22 t338.length co22] (0, 0) _ rfl (by (with_reducible repeat (first | refine blk_drewN ?_ _ | refine blk_drew ?_ | refine blk_alloc ?_ _)); refine blk_put (cs := #[.int .i64 t336, .int .i64 t337, .slice none 0 0]) ?_ 2 _ rfl; (with_reducible repeat (first | refine blk_drewN ?_ _ | refine blk_drew ?_ | refine blk_alloc ?_ _)); refine blk_put (cs := #[.int .i64 t336, .int .i64 0, .slice none 0 0]) ?_ 1 _ rfl; (with_reducible repeat (first | refine blk_drewN ?_ _ | refine blk_drew ?_ | refine blk_alloc ?_ _)); refine blk_put (cs := #[.int .i64 0, .int .i64 0, .slice none 0 0]) ?_ 0 _ rfl; (with_reducible repeat (first | refine blk_drewN ?_ _ | refine blk_drew ?_ | refine blk_alloc ?_ _)); refine blk_far ?_ NB331_330.out _; (with_reducible repeat (first | refine blk_drewN ?_ _ | refine blk_drew ?_ | refine blk_alloc ?_ _)); refine blk_far ?_ NB331_330.out _; (with_reducible repeat (first | refine blk_drewN ?_ _ | refine blk_drew ?_ | refine blk_alloc ?_ _)); refine blk_far ?_ NB331_329.out _; (with_reducible repeat (first | refine blk_drewN ?_ _ | refine blk_drew ?_ | refine blk_alloc ?_ _)); refine blk_far ?_ NB331_329.out _; (with_reducible repeat (first | refine blk_drewN ?_ _ | refine blk_drew ?_ | refine blk_alloc ?_ _)); exact BK331.out) Try.underlying30 rfl (by kernel_rfl) (.tmp .nil))))))) rfl ?_
      exact ⟨_, er_, by (with_reducible repeat (first | apply Kd.R_alloc | apply Kd.R_drewN | apply Kd.R_drew)); exact Kd.R_mono (Kd.R_far (p := ⟨gb331, 2, none⟩) (Kd.R_far (p := ⟨gb331, 1, none⟩) (Kd.R_far (p := ⟨gb331, 0, none⟩) (Kd.R_far (p := ⟨gb330, 1, none⟩) (Kd.R_far (p := ⟨gb330, 0, none⟩) (Kd.R_far (p := ⟨gb329, 1, none⟩) (Kd.R_far (p := ⟨gb329, 0, none⟩) (Kd.R_types (Kd.R_types (Kd.R_types HO_344002.out BK329.out (by decide)) BK330.out (by decide)) BK331.out (by decide)) (fun _ hk => hk.1.1.2) (.int .i64 t349)) (fun _ hk => hk.1.1.2) (.int .i64 (wrap64 (t352 + t353)))) (fun _ hk => hk.1.2) (.int .i64 t344)) (fun _ hk => hk.1.2) (.int .i64 t345)) (fun _ hk => hk.2) (.int .i64 t336)) (fun _ hk => hk.2) (.int .i64 t337)) (fun _ hk => hk.2) (.slice Ao22 t338.length co22)) (fun _ hk => trivial), hb7_ HB.out (IsS94.ge HI335.out) GE329.out GE330.out GE331.out GE343.out GE348.out GE356.out⟩
     ·replace c60 := Bool.eq_false_iff.mpr c60
      subst c60
      have H1 : ((spec_l1Once.f t332 t368 t369 9).bind fun bt382 => ((spec_l14DrawLong.f t332 bt382.2.1 bt382.2.2).bind fun bt385 => (some (t349, (wrap64 (t352 + t353)), !bt382.1, t344, t345, bt385.1, t336, t337, t338, x13_47)))) = some (r1, r2, r3, r4, r5, r6, r7, r8, r9, r10) := by rw [if_neg (show ¬ (false = true) by decide)] at H; exact H
      clear H
      have H := H1
      clear H1
      replace H := Option.bind_eq_some_iff.mp H
      obtain ⟨⟨t382, t383, t384⟩, A790, H⟩ := H
      replace H : ((spec_l14DrawLong.f t332 t383 t384).bind fun bt385 => (some (t349, (wrap64 (t352 + t353)), !t382, t344, t345, bt385.1, t336, t337, t338, x13_47))) = some (r1, r2, r3, r4, r5, r6, r7, r8, r9, r10) := H
      have A79 := Aside0.mk A790
      clear A790
      replace H := Option.bind_eq_some_iff.mp H
      obtain ⟨⟨t385, t386, t387⟩, A800, H⟩ := H
      replace H : (some (t349, (wrap64 (t352 + t353)), !t382, t344, t345, t385, t336, t337, t338, x13_47)) = some (r1, r2, r3, r4, r5, r6, r7, r8, r9, r10) := H
      have A80 := Aside0.mk A800
      clear A800
      simp only [Option.some.injEq, Prod.mk.injEq] at H
      obtain ⟨rfl, rfl, rfl, rfl, rfl, rfl, rfl, rfl, rfl, rfl⟩ := H
      try go_wp2_with (first | ((with_reducible refine gate_callee (f := 43) rfl ?_); refine gl_ Try.func43 #[.pointer (some ⟨g335, 0, none⟩), .int .i64 25] ?_; (with_reducible refine (spec_l1Once.calls g335 t332 x336001_9 x336002_9 25 false t368 t369 w _ ?side1 ?side2 A59.out).mono ?_); (case side1 => repeat (first | (with_reducible first | exact HI335.out | apply IsS94.alloc | apply IsS94.drewN | apply IsS94.drew | apply IsS94.set_1 | apply IsS94.set_2 | refine IsS94.far ?_ NB335_329.out _ | refine IsS94.far ?_ NB335_330.out _ | refine IsS94.far ?_ NB335_331.out _ | refine IsS94.far ?_ NB335_343.out _ | refine IsS94.far ?_ NB335_348.out _ | refine IsS94.far ?_ NB335_356.out _) | exact HI335.out)); (case side2 => exact hb7_ HB.out (IsS94.ge HI335.out) GE329.out GE330.out GE331.out GE343.out GE348.out GE356.out); rintro e w81 ⟨rfl, hi, hb, hk⟩; refine ⟨_, rfl, ?_⟩; replace HO_344002 := am_ (Kd.R_mono (Kd.R_keep (IsS94.apart (show IsS94 w _ g335 t332 x336001_9 x336002_9 from by repeat (first | (with_reducible first | exact HI335.out | apply IsS94.alloc | apply IsS94.drewN | apply IsS94.drew | apply IsS94.set_1 | apply IsS94.set_2 | refine IsS94.far ?_ NB335_329.out _ | refine IsS94.far ?_ NB335_330.out _ | refine IsS94.far ?_ NB335_331.out _ | refine IsS94.far ?_ NB335_343.out _ | refine IsS94.far ?_ NB335_348.out _ | refine IsS94.far ?_ NB335_356.out _) | exact HI335.out)) (by (with_reducible repeat (first | apply Kd.R_alloc | apply Kd.R_drewN | apply Kd.R_drew)); exact HO_344002.out) (by decide)) hk (fun _ h => h.2)) (fun _ h => h.1)); replace BK329 := am_ (KeepBut.blk hk (g' := gb329) (o := .cells #[.int .i64 0, .int .i64 0] 25 (0, 0)) (bk_ BK329.out) NB329_335.out (by simp)); replace BK330 := am_ (KeepBut.blk hk (g' := gb330) (o := .cells #[.int .i64 0, .int .i64 0] 27 (0, 0)) (bk_ BK330.out) NB330_335.out (by simp)); replace BK331 := am_ (KeepBut.blk hk (g' := gb331) (o := .cells #[.int .i64 0, .int .i64 0, .slice none 0 0] 30 (0, 0)) (bk_ BK331.out) NB331_335.out (by simp)); replace BK343 := am_ (KeepBut.blk hk (g' := gb343) (o := .cells #[.int .i64 t336, .int .i64 t337, .slice Ao22 t338.length co22] 30 (0, 0)) (bk_ BK343.out) NB343_335.out (by simp)); replace BK348 := am_ (KeepBut.blk hk (g' := gb348) (o := .cells #[.int .i64 t344, .int .i64 t345] 27 (0, 0)) (bk_ BK348.out) NB348_335.out (by simp)); replace BK356 := am_ (KeepBut.blk hk (g' := gb356) (o := .cells #[.int .i64 t349, .int .i64 (wrap64 (t352 + t353))] 25 (0, 0)) (bk_ BK356.out) NB356_335.out (by simp)); replace HI335 := am_ (hi); replace HB := am_ (hb); (try clear hb); (try clear hb2); (try clear hk); (try clear hi)))
      have n0_ := am_ (Kd.R_drew HO_344002.out)
      have n1_ := am_ (blk_drew BK329.out)
      have n2_ := am_ (blk_drew BK330.out)
      have n3_ := am_ (blk_drew BK331.out)
      have n4_ := am_ (blk_drew BK343.out)
      have n5_ := am_ (blk_drew BK348.out)
      have n6_ := am_ (blk_drew BK356.out)
      have n7_ := am_ (IsS94.drew HI335.out)
      have n8_ := am_ (below_drew1 HB.out)
      clear HO_344002
      clear BK329
      clear BK330
      clear BK331
      clear BK343
      clear BK348
      clear BK356
      clear HI335
      clear HB
      have HO_344002 := n0_
      have BK329 := n1_
      have BK330 := n2_
      have BK331 := n3_
      have BK343 := n4_
      have BK348 := n5_
      have BK356 := n6_
      have HI335 := n7_
      have HB := n8_
      clear n0_ n1_ n2_ n3_ n4_ n5_ n6_ n7_ n8_
      refine start_ (n := 15) (S := fun w' => w'.cell? ⟨gb356, 0, none⟩ = some (.int .i64 t349) ∧ w'.cell? ⟨gb356, 1, none⟩ = some (.int .i64 (wrap64 (t352 + t353))) ∧ w'.cell? ⟨gb348, 0, none⟩ = some (.int .i64 t344) ∧ w'.cell? ⟨gb348, 1, none⟩ = some (.int .i64 t345) ∧ w'.cell? ⟨gb343, 0, none⟩ = some (.int .i64 t336) ∧ w'.cell? ⟨gb343, 1, none⟩ = some (.int .i64 t337) ∧ w'.cell? ⟨gb343, 2, none⟩ = some (.slice Ao22 t338.length co22)) (ds := []) #[false, false, false, false, false, false, false, false, false, false, false, false, false, false, false] (by kernel_rfl) rfl rfl ⟨(blk_cell BK356.out 0).trans rfl, (blk_cell BK356.out 1).trans rfl, (blk_cell BK348.out 0).trans rfl, (blk_cell BK348.out 1).trans rfl, (blk_cell BK343.out 0).trans rfl, (blk_cell BK343.out 1).trans rfl, (blk_cell BK343.out 2).trans rfl⟩ (fun hHeld => ?_); refine with_tabW spec_DrawGateAsk.tab12 spec_DrawGateAsk.bits12 (fun HT_ HW_ => ?_)
      generalize w81.drew = w82 at HO_344002 BK329 BK330 BK331 BK343 BK348 BK356 HI335 HB hHeld ⊢
      refine pure_ (i := 1) (N := some 60) (v := ?_) (a' := ?_) #[false, true, false, false, false, false, false, false, false, false, false, false, false, false, false] rfl rfl (any_of HT_.out (by kernel_rfl)) (fun _ _ _ h => h) (Or.inl ⟨by rfl, ?_⟩) ?_ ?_
      rotate_left
      ·intro w'
       go_simp
       with_reducible rfl
      rotate_left
      ·simp only [Act.put, List.setIfInBounds_toArray, List.set_cons_zero, List.set_cons_succ, i64_w, i32_w]
       rfl
      refine pure_ (i := 5) (N := some 64) (v := ?_) (a' := ?_) #[false, true, false, false, false, true, false, false, false, false, false, false, false, false, false] rfl rfl (any_of HT_.out (by kernel_rfl)) (fun _ _ _ h => h) (Or.inl ⟨by rfl, ?_⟩) ?_ ?_
      rotate_left
      ·intro w'
       go_simp
       with_reducible rfl
      rotate_left
      ·simp only [Act.put, List.setIfInBounds_toArray, List.set_cons_zero, List.set_cons_succ, i64_w, i32_w]
       rfl
      refine pure_ (i := 8) (N := some 67) (v := ?_) (a' := ?_) #[false, true, false, false, false, true, false, false, true, false, false, false, false, false, false] rfl rfl (any_of HT_.out (by kernel_rfl)) (fun _ _ _ h => h) (Or.inl ⟨by rfl, ?_⟩) ?_ ?_
      rotate_left
      ·intro w'
       go_simp
       with_reducible rfl
      rotate_left
      ·simp only [Act.put, List.setIfInBounds_toArray, List.set_cons_zero, List.set_cons_succ, i64_w, i32_w]
       rfl
      refine take_ (i := 0) (N := some 59) (v := ?_) (a' := ?_) #[true, true, false, false, false, true, false, false, true, false, false, false, false, false, false] rfl rfl (take_ofW HT_.out HW_.out (by kernel_rfl)) (fun _ _ _ h => h) (Or.inl ⟨by rfl, ?_⟩) hHeld ?_ ?_
      rotate_left
      ·rintro w' ⟨s0, s1, s2, s3, s4, s5, s6⟩
       go_simp
       with_reducible rfl
      rotate_left
      ·simp only [Act.put, List.setIfInBounds_toArray, List.set_cons_zero, List.set_cons_succ, i64_w, i32_w]
       rfl
      refine take_ (i := 4) (N := some 63) (v := ?_) (a' := ?_) #[true, true, false, false, true, true, false, false, true, false, false, false, false, false, false] rfl rfl (take_ofW HT_.out HW_.out (by kernel_rfl)) (fun _ _ _ h => h) (Or.inl ⟨by rfl, ?_⟩) hHeld ?_ ?_
      rotate_left
      ·rintro w' ⟨s0, s1, s2, s3, s4, s5, s6⟩
       go_simp
       with_reducible rfl
      rotate_left
      ·simp only [Act.put, List.setIfInBounds_toArray, List.set_cons_zero, List.set_cons_succ, i64_w, i32_w]
       rfl
      refine take_ (i := 7) (N := some 66) (v := ?_) (a' := ?_) #[true, true, false, false, true, true, false, true, true, false, false, false, false, false, false] rfl rfl (take_ofW HT_.out HW_.out (by kernel_rfl)) (fun _ _ _ h => h) (Or.inl ⟨by rfl, ?_⟩) hHeld ?_ ?_
      rotate_left
      ·rintro w' ⟨s0, s1, s2, s3, s4, s5, s6⟩
       go_simp
       with_reducible rfl
      rotate_left
      ·simp only [Act.put, List.setIfInBounds_toArray, List.set_cons_zero, List.set_cons_succ, i64_w, i32_w]
       rfl
      refine one_ (i := 2) (N := some 61) #[true, true, true, false, true, true, false, true, true, false, false, false, false, false, false] rfl rfl (one_of HT_.out (by kernel_rfl)) (by decide) (fun K hK => ?_)
      refine goes_ Try.func43 (by kernel_rfl) rfl #[.pointer (some ⟨g335, 0, none⟩), .int .i64 9] (by rfl) rfl rfl arr_ ?_
      with_reducible refine (spec_l1Once.calls g335 t332 t368 t369 9 t382 t383 t384 w _ ?side1 ?side2 A79.out).mono ?_
      (case side1 => repeat (first | (with_reducible first | exact HI335.out | apply IsS94.alloc | apply IsS94.drewN | apply IsS94.drew | apply IsS94.set_1 | apply IsS94.set_2 | refine IsS94.far ?_ NB335_329.out _ | refine IsS94.far ?_ NB335_330.out _ | refine IsS94.far ?_ NB335_331.out _ | refine IsS94.far ?_ NB335_343.out _ | refine IsS94.far ?_ NB335_348.out _ | refine IsS94.far ?_ NB335_356.out _) | exact HI335.out))
      (case side2 => exact hb7_ HB.out (IsS94.ge HI335.out) GE329.out GE330.out GE331.out GE343.out GE348.out GE356.out)
      rintro e w83 ⟨rfl, hi, hb, hk⟩
      refine ⟨_, rfl, ?_⟩
      have n0_ := am_ (Kd.R_mono (Kd.R_keep (IsS94.apart (show IsS94 w _ g335 t332 t368 t369 from by repeat (first | (with_reducible first | exact HI335.out | apply IsS94.alloc | apply IsS94.drewN | apply IsS94.drew | apply IsS94.set_1 | apply IsS94.set_2 | refine IsS94.far ?_ NB335_329.out _ | refine IsS94.far ?_ NB335_330.out _ | refine IsS94.far ?_ NB335_331.out _ | refine IsS94.far ?_ NB335_343.out _ | refine IsS94.far ?_ NB335_348.out _ | refine IsS94.far ?_ NB335_356.out _) | exact HI335.out)) (by (with_reducible repeat (first | apply Kd.R_alloc | apply Kd.R_drewN | apply Kd.R_drew)); exact HO_344002.out) (by decide)) hk (fun _ h => h.2)) (fun _ h => h.1))
      have n1_ := am_ (KeepBut.blk hk (g' := gb329) (o := .cells #[.int .i64 0, .int .i64 0] 25 (0, 0)) (bk_ BK329.out) NB329_335.out (by simp))
      have n2_ := am_ (KeepBut.blk hk (g' := gb330) (o := .cells #[.int .i64 0, .int .i64 0] 27 (0, 0)) (bk_ BK330.out) NB330_335.out (by simp))
      have n3_ := am_ (KeepBut.blk hk (g' := gb331) (o := .cells #[.int .i64 0, .int .i64 0, .slice none 0 0] 30 (0, 0)) (bk_ BK331.out) NB331_335.out (by simp))
      have n4_ := am_ (KeepBut.blk hk (g' := gb343) (o := .cells #[.int .i64 t336, .int .i64 t337, .slice Ao22 t338.length co22] 30 (0, 0)) (bk_ BK343.out) NB343_335.out (by simp))
      have n5_ := am_ (KeepBut.blk hk (g' := gb348) (o := .cells #[.int .i64 t344, .int .i64 t345] 27 (0, 0)) (bk_ BK348.out) NB348_335.out (by simp))
      have n6_ := am_ (KeepBut.blk hk (g' := gb356) (o := .cells #[.int .i64 t349, .int .i64 (wrap64 (t352 + t353))] 25 (0, 0)) (bk_ BK356.out) NB356_335.out (by simp))
      have n7_ := am_ (hb)
      have n8_ := am_ (hi)
      clear HO_344002
      clear BK329
      clear BK330
      clear BK331
      clear BK343
      clear BK348
      clear BK356
      clear HB
      clear HI335
      have HO_344002 := n0_
      have BK329 := n1_
      have BK330 := n2_
      have BK331 := n3_
      have BK343 := n4_
      have BK348 := n5_
      have BK356 := n6_
      have HB := n7_
      have HI335 := n8_
      clear n0_ n1_ n2_ n3_ n4_ n5_ n6_ n7_ n8_
      (try clear hb)
      (try clear hb2)
      (try clear hk)
      (try clear hi)
      refine hK.out _ _ ⟨(blk_cell BK356.out 0).trans rfl, (blk_cell BK356.out 1).trans rfl, (blk_cell BK348.out 0).trans rfl, (blk_cell BK348.out 1).trans rfl, (blk_cell BK343.out 0).trans rfl, (blk_cell BK343.out 1).trans rfl, (blk_cell BK343.out 2).trans rfl⟩ (fun hHeld => ?_)
      clear hK K
      refine norm_ (a' := ?_) ?_ ?_
      rotate_left
      ·show Act.put _ (some 61) _ = _
       simp only [Act.put, List.setIfInBounds_toArray, List.set_cons_zero, List.set_cons_succ, i64_w, i32_w]
       rfl
      refine pure_ (i := 3) (N := some 62) (v := ?_) (a' := ?_) #[true, true, true, true, true, true, false, true, true, false, false, false, false, false, false] rfl rfl (any_of HT_.out (by kernel_rfl)) (fun _ _ _ h => h) (Or.inl ⟨by rfl, ?_⟩) ?_ ?_
      rotate_left
      ·intro w'
       go_simp
       with_reducible rfl
      rotate_left
      ·simp only [Act.put, List.setIfInBounds_toArray, List.set_cons_zero, List.set_cons_succ, i64_w, i32_w]
       rfl
      refine one_ (i := 6) (N := some 65) #[true, true, true, true, true, true, true, true, true, false, false, false, false, false, false] rfl rfl (one_of HT_.out (by kernel_rfl)) (by decide) (fun K hK => ?_)
      refine goes_ Try.func45 (by kernel_rfl) rfl #[.pointer (some ⟨g335, 0, none⟩)] (by rfl) rfl rfl arr_ ?_
      with_reducible refine (spec_l14DrawLong.calls g335 t332 t383 t384 t385 t386 t387 w _ ?side1 ?side2 A80.out).mono ?_
      (case side1 => repeat (first | (with_reducible first | exact HI335.out | apply IsS94.alloc | apply IsS94.drewN | apply IsS94.drew | apply IsS94.set_1 | apply IsS94.set_2 | refine IsS94.far ?_ NB335_329.out _ | refine IsS94.far ?_ NB335_330.out _ | refine IsS94.far ?_ NB335_331.out _ | refine IsS94.far ?_ NB335_343.out _ | refine IsS94.far ?_ NB335_348.out _ | refine IsS94.far ?_ NB335_356.out _) | exact HI335.out))
      (case side2 => exact hb7_ HB.out (IsS94.ge HI335.out) GE329.out GE330.out GE331.out GE343.out GE348.out GE356.out)
      rintro e w84 ⟨rfl, hi, hb, hk⟩
      refine ⟨_, rfl, ?_⟩
      have n0_ := am_ (Kd.R_mono (Kd.R_keep (IsS94.apart (show IsS94 w _ g335 t332 t383 t384 from by repeat (first | (with_reducible first | exact HI335.out | apply IsS94.alloc | apply IsS94.drewN | apply IsS94.drew | apply IsS94.set_1 | apply IsS94.set_2 | refine IsS94.far ?_ NB335_329.out _ | refine IsS94.far ?_ NB335_330.out _ | refine IsS94.far ?_ NB335_331.out _ | refine IsS94.far ?_ NB335_343.out _ | refine IsS94.far ?_ NB335_348.out _ | refine IsS94.far ?_ NB335_356.out _) | exact HI335.out)) (by (with_reducible repeat (first | apply Kd.R_alloc | apply Kd.R_drewN | apply Kd.R_drew)); exact HO_344002.out) (by decide)) hk (fun _ h => h.2)) (fun _ h => h.1))
      have n1_ := am_ (KeepBut.blk hk (g' := gb329) (o := .cells #[.int .i64 0, .int .i64 0] 25 (0, 0)) (bk_ BK329.out) NB329_335.out (by simp))
      have n2_ := am_ (KeepBut.blk hk (g' := gb330) (o := .cells #[.int .i64 0, .int .i64 0] 27 (0, 0)) (bk_ BK330.out) NB330_335.out (by simp))
      have n3_ := am_ (KeepBut.blk hk (g' := gb331) (o := .cells #[.int .i64 0, .int .i64 0, .slice none 0 0] 30 (0, 0)) (bk_ BK331.out) NB331_335.out (by simp))
      have n4_ := am_ (KeepBut.blk hk (g' := gb343) (o := .cells #[.int .i64 t336, .int .i64 t337, .slice Ao22 t338.length co22] 30 (0, 0)) (bk_ BK343.out) NB343_335.out (by simp))
      have n5_ := am_ (KeepBut.blk hk (g' := gb348) (o := .cells #[.int .i64 t344, .int .i64 t345] 27 (0, 0)) (bk_ BK348.out) NB348_335.out (by simp))
      have n6_ := am_ (KeepBut.blk hk (g' := gb356) (o := .cells #[.int .i64 t349, .int .i64 (wrap64 (t352 + t353))] 25 (0, 0)) (bk_ BK356.out) NB356_335.out (by simp))
      have n7_ := am_ (hb)
      have n8_ := am_ (hi)
      clear HO_344002
      clear BK329
      clear BK330
      clear BK331
      clear BK343
      clear BK348
      clear BK356
      clear HB
      clear HI335
      have HO_344002 := n0_
      have BK329 := n1_
      have BK330 := n2_
      have BK331 := n3_
      have BK343 := n4_
      have BK348 := n5_
      have BK356 := n6_
      have HB := n7_
      have HI335 := n8_
      clear n0_ n1_ n2_ n3_ n4_ n5_ n6_ n7_ n8_
      (try clear hb)
      (try clear hb2)
      (try clear hk)
      (try clear hi)
      refine hK.out _ _ ⟨(blk_cell BK356.out 0).trans rfl, (blk_cell BK356.out 1).trans rfl, (blk_cell BK348.out 0).trans rfl, (blk_cell BK348.out 1).trans rfl, (blk_cell BK343.out 0).trans rfl, (blk_cell BK343.out 1).trans rfl, (blk_cell BK343.out 2).trans rfl⟩ (fun hHeld => ?_)
      clear hK K
      refine norm_ (a' := ?_) ?_ ?_
      rotate_left
      ·show Act.put _ (some 65) _ = _
       simp only [Act.put, List.setIfInBounds_toArray, List.set_cons_zero, List.set_cons_succ, i64_w, i32_w]
       rfl
      refine one_ (i := 9) (N := none) #[true, true, true, true, true, true, true, true, true, true, false, false, false, false, false] rfl rfl (one_of HT_.out (by kernel_rfl)) (by decide) (fun K hK => ?_)
      have hs85 : w84.cell? ⟨gb329, 0, none⟩ = some (.int .i64 0) := (blk_cell BK329.out 0).trans rfl
      have hfs85 := blk_frozen BK329.out 0
      have hns85_1 := NB330_329.out
      have hns85_2 := NB331_329.out
      have hns85_3 := NB343_329.out
      have hns85_4 := NB348_329.out
      have hns85_5 := NB356_329.out
      have hms85_1 := NB329_330.out
      have hms85_2 := NB329_331.out
      have hms85_3 := NB329_343.out
      have hms85_4 := NB329_348.out
      have hms85_5 := NB329_356.out
      have hs86 : w84.cell? ⟨gb329, 1, none⟩ = some (.int .i64 0) := (blk_cell BK329.out 1).trans rfl
      have hfs86 := blk_frozen BK329.out 1
      have hns86_1 := NB330_329.out
      have hns86_2 := NB331_329.out
      have hns86_3 := NB343_329.out
      have hns86_4 := NB348_329.out
      have hns86_5 := NB356_329.out
      have hms86_1 := NB329_330.out
      have hms86_2 := NB329_331.out
      have hms86_3 := NB329_343.out
      have hms86_4 := NB329_348.out
      have hms86_5 := NB329_356.out
      refine skip_ (w1 := ?_) (by rfl) rfl ?_ ?_
      rotate_left
      ·go_simp
       rfl
      refine hK.out _ _ ⟨(ct_ NB356_329.out ((ct_ NB356_329.out (hHeld.1)))), (ct_ NB356_329.out ((ct_ NB356_329.out (hHeld.2.1)))), (ct_ NB348_329.out ((ct_ NB348_329.out (hHeld.2.2.1)))), (ct_ NB348_329.out ((ct_ NB348_329.out (hHeld.2.2.2.1)))), (ct_ NB343_329.out ((ct_ NB343_329.out (hHeld.2.2.2.2.1)))), (ct_ NB343_329.out ((ct_ NB343_329.out (hHeld.2.2.2.2.2.1)))), (ct_ NB343_329.out ((ct_ NB343_329.out (hHeld.2.2.2.2.2.2))))⟩ (fun hHeld => ?_)
      clear hK K
      refine pure_ (i := 10) (N := some 3) (v := ?_) (a' := ?_) #[true, true, true, true, true, true, true, true, true, true, true, false, false, false, false] rfl rfl (any_of HT_.out (by kernel_rfl)) (fun _ _ _ h => h) (Or.inl ⟨by rfl, ?_⟩) ?_ ?_
      rotate_left
      ·intro w'
       go_simp
       with_reducible rfl
      rotate_left
      ·simp only [Act.put, List.setIfInBounds_toArray, List.set_cons_zero, List.set_cons_succ, i64_w, i32_w]
       rfl
      refine one_ (i := 11) (N := none) #[true, true, true, true, true, true, true, true, true, true, true, true, false, false, false] rfl rfl (one_of HT_.out (by kernel_rfl)) (by decide) (fun K hK => ?_)
      have hs87 : w84.cell? ⟨gb330, 0, none⟩ = some (.int .i64 0) := (blk_cell BK330.out 0).trans rfl
      have hfs87 := blk_frozen BK330.out 0
      have hns87_0 := NB329_330.out
      have hns87_2 := NB331_330.out
      have hns87_3 := NB343_330.out
      have hns87_4 := NB348_330.out
      have hns87_5 := NB356_330.out
      have hms87_0 := NB330_329.out
      have hms87_2 := NB330_331.out
      have hms87_3 := NB330_343.out
      have hms87_4 := NB330_348.out
      have hms87_5 := NB330_356.out
      have hs88 : w84.cell? ⟨gb330, 1, none⟩ = some (.int .i64 0) := (blk_cell BK330.out 1).trans rfl
      have hfs88 := blk_frozen BK330.out 1
      have hns88_0 := NB329_330.out
      have hns88_2 := NB331_330.out
      have hns88_3 := NB343_330.out
      have hns88_4 := NB348_330.out
      have hns88_5 := NB356_330.out
      have hms88_0 := NB330_329.out
      have hms88_2 := NB330_331.out
      have hms88_3 := NB330_343.out
      have hms88_4 := NB330_348.out
      have hms88_5 := NB330_356.out
      refine skip_ (w1 := ?_) (by rfl) rfl ?_ ?_
      rotate_left
      ·go_simp
       rfl
      refine hK.out _ _ ⟨(ct_ NB356_330.out ((ct_ NB356_330.out (hHeld.1)))), (ct_ NB356_330.out ((ct_ NB356_330.out (hHeld.2.1)))), (ct_ NB348_330.out ((ct_ NB348_330.out (hHeld.2.2.1)))), (ct_ NB348_330.out ((ct_ NB348_330.out (hHeld.2.2.2.1)))), (ct_ NB343_330.out ((ct_ NB343_330.out (hHeld.2.2.2.2.1)))), (ct_ NB343_330.out ((ct_ NB343_330.out (hHeld.2.2.2.2.2.1)))), (ct_ NB343_330.out ((ct_ NB343_330.out (hHeld.2.2.2.2.2.2))))⟩ (fun hHeld => ?_)
      clear hK K
      refine pure_ (i := 12) (N := some 5) (v := ?_) (a' := ?_) #[true, true, true, true, true, true, true, true, true, true, true, true, true, false, false] rfl rfl (any_of HT_.out (by kernel_rfl)) (fun _ _ _ h => h) (Or.inl ⟨by rfl, ?_⟩) ?_ ?_
      rotate_left
      ·intro w'
       go_simp
       with_reducible rfl
      rotate_left
      ·simp only [Act.put, List.setIfInBounds_toArray, List.set_cons_zero, List.set_cons_succ, i64_w, i32_w]
       rfl
      refine one_ (i := 13) (N := none) #[true, true, true, true, true, true, true, true, true, true, true, true, true, true, false] rfl rfl (one_of HT_.out (by kernel_rfl)) (by decide) (fun K hK => ?_)
      have hs89 : w84.cell? ⟨gb331, 0, none⟩ = some (.int .i64 0) := (blk_cell BK331.out 0).trans rfl
      have hfs89 := blk_frozen BK331.out 0
      have hns89_0 := NB329_331.out
      have hns89_1 := NB330_331.out
      have hns89_3 := NB343_331.out
      have hns89_4 := NB348_331.out
      have hns89_5 := NB356_331.out
      have hms89_0 := NB331_329.out
      have hms89_1 := NB331_330.out
      have hms89_3 := NB331_343.out
      have hms89_4 := NB331_348.out
      have hms89_5 := NB331_356.out
      have hs90 : w84.cell? ⟨gb331, 1, none⟩ = some (.int .i64 0) := (blk_cell BK331.out 1).trans rfl
      have hfs90 := blk_frozen BK331.out 1
      have hns90_0 := NB329_331.out
      have hns90_1 := NB330_331.out
      have hns90_3 := NB343_331.out
      have hns90_4 := NB348_331.out
      have hns90_5 := NB356_331.out
      have hms90_0 := NB331_329.out
      have hms90_1 := NB331_330.out
      have hms90_3 := NB331_343.out
      have hms90_4 := NB331_348.out
      have hms90_5 := NB331_356.out
      have hs91 : w84.cell? ⟨gb331, 2, none⟩ = some (.slice none 0 0) := (blk_cell BK331.out 2).trans rfl
      have hfs91 := blk_frozen BK331.out 2
      have hns91_0 := NB329_331.out
      have hns91_1 := NB330_331.out
      have hns91_3 := NB343_331.out
      have hns91_4 := NB348_331.out
      have hns91_5 := NB356_331.out
      have hms91_0 := NB331_329.out
      have hms91_1 := NB331_330.out
      have hms91_3 := NB331_343.out
      have hms91_4 := NB331_348.out
      have hms91_5 := NB331_356.out
      refine skip_ (w1 := ?_) (by rfl) rfl ?_ ?_
      rotate_left
      ·go_simp
       rfl
      refine hK.out _ _ ⟨(ct_ NB356_331.out ((ct_ NB356_331.out ((ct_ NB356_331.out (hHeld.1)))))), (ct_ NB356_331.out ((ct_ NB356_331.out ((ct_ NB356_331.out (hHeld.2.1)))))), (ct_ NB348_331.out ((ct_ NB348_331.out ((ct_ NB348_331.out (hHeld.2.2.1)))))), (ct_ NB348_331.out ((ct_ NB348_331.out ((ct_ NB348_331.out (hHeld.2.2.2.1)))))), (ct_ NB343_331.out ((ct_ NB343_331.out ((ct_ NB343_331.out (hHeld.2.2.2.2.1)))))), (ct_ NB343_331.out ((ct_ NB343_331.out ((ct_ NB343_331.out (hHeld.2.2.2.2.2.1)))))), (ct_ NB343_331.out ((ct_ NB343_331.out ((ct_ NB343_331.out (hHeld.2.2.2.2.2.2))))))⟩ (fun hHeld => ?_)
      clear hK K
      refine pure_ (i := 14) (N := some 7) (v := ?_) (a' := ?_) #[true, true, true, true, true, true, true, true, true, true, true, true, true, true, true] rfl rfl (any_of HT_.out (by kernel_rfl)) (fun _ _ _ h => h) (Or.inl ⟨by rfl, ?_⟩) ?_ ?_
      rotate_left
      ·intro w'
       go_simp
       with_reducible rfl
      rotate_left
      ·simp only [Act.put, List.setIfInBounds_toArray, List.set_cons_zero, List.set_cons_succ, i64_w, i32_w]
       rfl
      refine done_ (done_of HT_.out (by kernel_rfl)) ?_
      try go_wp2
      refine bodyPost_ret (results_list (rs := [.cell 2 25, .tmp 3, .cell 4 27, .tmp 5, .cell 6 30, .tmp 7]) rfl (by simp) (.cell gb329 25 #[.int .i64 t349, .int .i64 (wrap64 (t352 + t353))] (0, 0) _ rfl (by (with_reducible repeat (first | refine blk_drewN ?_ _ | refine blk_drew ?_ | refine blk_alloc ?_ _)); refine blk_far ?_ NB329_331.out _; (with_reducible repeat (first | refine blk_drewN ?_ _ | refine blk_drew ?_ | refine blk_alloc ?_ _)); refine blk_far ?_ NB329_331.out _; (with_reducible repeat (first | refine blk_drewN ?_ _ | refine blk_drew ?_ | refine blk_alloc ?_ _)); refine blk_far ?_ NB329_331.out _; (with_reducible repeat (first | refine blk_drewN ?_ _ | refine blk_drew ?_ | refine blk_alloc ?_ _)); refine blk_far ?_ NB329_330.out _; (with_reducible repeat (first | refine blk_drewN ?_ _ | refine blk_drew ?_ | refine blk_alloc ?_ _)); refine blk_far ?_ NB329_330.out _; (with_reducible repeat (first | refine blk_drewN ?_ _ | refine blk_drew ?_ | refine blk_alloc ?_ _)); refine blk_put (cs := #[.int .i64 t349, .int .i64 0]) ?_ 1 _ rfl; (with_reducible repeat (first | refine blk_drewN ?_ _ | refine blk_drew ?_ | refine blk_alloc ?_ _)); refine blk_put (cs := #[.int .i64 0, .int .i64 0]) ?_ 0 _ rfl; (with_reducible repeat (first | refine blk_drewN ?_ _ | refine blk_drew ?_ | refine blk_alloc ?_ _)); exact BK329.out) Try.underlying25 rfl (by kernel_rfl) (.tmp (.cell gb330 27 #[.int .i64 t344, .int .i64 t345] (0, 0) _ rfl (by (with_reducible repeat (first | refine blk_drewN ?_ _ | refine blk_drew ?_ | refine blk_alloc ?_ _)); refine blk_far ?_ NB330_331.out _; (with_reducible repeat (first | refine blk_drewN ?_ _ | refine blk_drew ?_ | refine blk_alloc ?_ _)); refine blk_far ?_ NB330_331.out _; (with_reducible repeat (first | refine blk_drewN ?_ _ | refine blk_drew ?_ | refine blk_alloc ?_ _)); refine blk_far ?_ NB330_331.out _; (with_reducible repeat (first | refine blk_drewN ?_ _ | refine blk_drew ?_ | refine blk_alloc ?_ _)); refine blk_put (cs := #[.int .i64 t344, .int .i64 0]) ?_ 1 _ rfl; (with_reducible repeat (first | refine blk_drewN ?_ _ | refine blk_drew ?_ | refine blk_alloc ?_ _)); refine blk_put (cs := #[.int .i64 0, .int .i64 0]) ?_ 0 _ rfl; (with_reducible repeat (first | refine blk_drewN ?_ _ | refine blk_drew ?_ | refine blk_alloc ?_ _)); refine blk_far ?_ NB330_329.out _; (with_reducible repeat (first | refine blk_drewN ?_ _ | refine blk_drew ?_ | refine blk_alloc ?_ _)); refine blk_far ?_ NB330_329.out _; (with_reducible repeat (first | refine blk_drewN ?_ _ | refine blk_drew ?_ | refine blk_alloc ?_ _)); exact BK330.out) Try.underlying27 rfl (by kernel_rfl) (.tmp (.cell gb331 30 #[.int .i64 t336, .int .i64 t337, .slice Ao22 t338.length co22] (0, 0) _ rfl (by (with_reducible repeat (first | refine blk_drewN ?_ _ | refine blk_drew ?_ | refine blk_alloc ?_ _)); refine blk_put (cs := #[.int .i64 t336, .int .i64 t337, .slice none 0 0]) ?_ 2 _ rfl; (with_reducible repeat (first | refine blk_drewN ?_ _ | refine blk_drew ?_ | refine blk_alloc ?_ _)); refine blk_put (cs := #[.int .i64 t336, .int .i64 0, .slice none 0 0]) ?_ 1 _ rfl; (with_reducible repeat (first | refine blk_drewN ?_ _ | refine blk_drew ?_ | refine blk_alloc ?_ _)); refine blk_put (cs := #[.int .i64 0, .int .i64 0, .slice none 0 0]) ?_ 0 _ rfl; (with_reducible repeat (first | refine blk_drewN ?_ _ | refine blk_drew ?_ | refine blk_alloc ?_ _)); refine blk_far ?_ NB331_330.out _; (with_reducible repeat (first | refine blk_drewN ?_ _ | refine blk_drew ?_ | refine blk_alloc ?_ _)); refine blk_far ?_ NB331_330.out _; (with_reducible repeat (first | refine blk_drewN ?_ _ | refine blk_drew ?_ | refine blk_alloc ?_ _)); refine blk_far ?_ NB331_329.out _; (with_reducible repeat (first | refine blk_drewN ?_ _ | refine blk_drew ?_ | refine blk_alloc ?_ _)); refine blk_far ?_ NB331_329.out _; (with_reducible repeat (first | refine blk_drewN ?_ _ | refine blk_drew ?_ | refine blk_alloc ?_ _)); exact BK331.out) Try.underlying30 rfl (by kernel_rfl) (.tmp .nil))))))) rfl ?_
      exact ⟨_, er_, by (with_reducible repeat (first | apply Kd.R_alloc | apply Kd.R_drewN | apply Kd.R_drew)); exact Kd.R_mono (Kd.R_far (p := ⟨gb331, 2, none⟩) (Kd.R_far (p := ⟨gb331, 1, none⟩) (Kd.R_far (p := ⟨gb331, 0, none⟩) (Kd.R_far (p := ⟨gb330, 1, none⟩) (Kd.R_far (p := ⟨gb330, 0, none⟩) (Kd.R_far (p := ⟨gb329, 1, none⟩) (Kd.R_far (p := ⟨gb329, 0, none⟩) (Kd.R_types (Kd.R_types (Kd.R_types HO_344002.out BK329.out (by decide)) BK330.out (by decide)) BK331.out (by decide)) (fun _ hk => hk.1.1.2) (.int .i64 t349)) (fun _ hk => hk.1.1.2) (.int .i64 (wrap64 (t352 + t353)))) (fun _ hk => hk.1.2) (.int .i64 t344)) (fun _ hk => hk.1.2) (.int .i64 t345)) (fun _ hk => hk.2) (.int .i64 t336)) (fun _ hk => hk.2) (.int .i64 t337)) (fun _ hk => hk.2) (.slice Ao22 t338.length co22)) (fun _ hk => trivial), hb7_ HB.out (IsS94.ge HI335.out) GE329.out GE330.out GE331.out GE343.out GE348.out GE356.out⟩
end Go.Proofs.Ytllpmpfchidhoaa.P

namespace Go.Proofs.Ytllpmpfchidhoaa.P
open Go.RowKit Go.Proofs.YtllpmpfchidhoaaW.PrintWords Go.Proofs.YtllpmpfchidhoaaW.PrintLast Go.Proofs.YtllpmpfchidhoaaW.PrintMore
attribute [local go_sem] max2_int min2_int max_two min_two max_three min_three max_four min_four
set_option linter.unusedVariables false
set_option linter.unusedSimpArgs false
def impl_in.f (a0 : Int) (a1 : Int) (a2 : Int) : Option (Bool) := if a1 ≤ a0 then (some (decide (a0 ≤ a2))) else (some false)
set_option maxHeartbeats 8000000 in
set_option maxRecDepth 100000 in
theorem impl_in.calls (a0 : Int) (a1 : Int) (a2 : Int) (r : Bool) (w : World) (h : impl_in.f a0 a1 a2 = some r) :
  Calls Try.prog 48 #[.int .i64 a0, .int .i64 a1, .int .i64 a2] w fun e w' => e = .returned (.bool r) ∧ Drawn0 w w' := by
 have H : (if a1 ≤ a0 then (some (decide (a0 ≤ a2))) else (some false)) = some r := h
 clear h
 by_cases c4 : a1 ≤ a0
 ·rw [if_pos c4] at H
  have c4b0 : decide (a1 ≤ a0) = true := decide_eq_true c4
  clear c4
  obtain rfl := Option.some.inj H
  go_enter Try.func48, Try.ntmps48
  go_wp2
  go_ret
  exact ⟨by first | rfl | (simp; done) | (simp [*]; done), by repeat (first | exact Drawn0.refl _ | apply Drawn0.step)⟩
 ·rw [if_neg c4] at H
  have c4b0 : decide (a1 ≤ a0) = false := decide_eq_false c4
  clear c4
  obtain rfl := Option.some.inj H
  go_enter Try.func48, Try.ntmps48
  go_wp2
  go_ret
  exact ⟨by first | rfl | (simp; done) | (simp [*]; done), by repeat (first | exact Drawn0.refl _ | apply Drawn0.step)⟩
def impl_isTime.f (a0 : Int) : Option (Bool) := (impl_in.f a0 0 1000000000000).bind fun t388 => (some t388)
set_option maxHeartbeats 8000000 in
set_option maxRecDepth 100000 in
theorem impl_isTime.calls (a0 : Int) (r : Bool) (w : World) (h : impl_isTime.f a0 = some r) :
  Calls Try.prog 69 #[.int .i64 a0] w fun e w' => e = .returned (.bool r) ∧ Drawn0 w w' := by
 have H : ((impl_in.f a0 0 1000000000000).bind fun t388 => (some t388)) = some r := h
 clear h
 replace H := Option.bind_eq_some_iff.mp H
 obtain ⟨t388, A20, H⟩ := H
 replace H : (some t388) = some r := H
 have A2 := Aside0.mk A20
 clear A20
 obtain rfl := Option.some.inj H
 go_enter Try.func69, Try.ntmps69
 go_wp2_with (first | ((with_reducible refine gate_callee (f := 48) rfl ?_); refine gl_ Try.func48 #[.int .i64 a0, .int .i64 0, .int .i64 1000000000000] ?_; (with_reducible refine (impl_in.calls a0 0 1000000000000 t388 _ A2.out).mono ?_); rintro e w' ⟨rfl, ⟨nd, rfl⟩⟩; refine ⟨_, rfl, ?_⟩))
 go_ret
 exact ⟨by first | rfl | (simp; done) | (simp [*]; done), by repeat (first | exact Drawn0.refl _ | apply Drawn0.step)⟩
def impl_isNode.f (a0 : Int) : Option (Bool) := (impl_in.f a0 0 7).bind fun t389 => (some t389)
set_option maxHeartbeats 8000000 in
set_option maxRecDepth 100000 in
theorem impl_isNode.calls (a0 : Int) (r : Bool) (w : World) (h : impl_isNode.f a0 = some r) :
  Calls Try.prog 49 #[.int .i64 a0] w fun e w' => e = .returned (.bool r) ∧ Drawn0 w w' := by
 have H : ((impl_in.f a0 0 7).bind fun t389 => (some t389)) = some r := h
 clear h
 replace H := Option.bind_eq_some_iff.mp H
 obtain ⟨t389, A20, H⟩ := H
 replace H : (some t389) = some r := H
 have A2 := Aside0.mk A20
 clear A20
 obtain rfl := Option.some.inj H
 go_enter Try.func49, Try.ntmps49
 go_wp2_with (first | ((with_reducible refine gate_callee (f := 48) rfl ?_); refine gl_ Try.func48 #[.int .i64 a0, .int .i64 0, .int .i64 7] ?_; (with_reducible refine (impl_in.calls a0 0 7 t389 _ A2.out).mono ?_); rintro e w' ⟨rfl, ⟨nd, rfl⟩⟩; refine ⟨_, rfl, ?_⟩))
 go_ret
 exact ⟨by first | rfl | (simp; done) | (simp [*]; done), by repeat (first | exact Drawn0.refl _ | apply Drawn0.step)⟩
def impl_PlanOk_1.f (a0_0 : Int) (a0_1 : Int) : Option (Bool) := (impl_isNode.f a0_0).bind fun t391 => (if t391 = true then ((impl_in.f a0_1 1 1000000).bind fun t392 => (some (!t392))) else (some true))
set_option maxHeartbeats 8000000 in
set_option maxRecDepth 100000 in
theorem impl_PlanOk_1.calls (a0_0 : Int) (a0_1 : Int) (r : Bool) (w : World) (h : impl_PlanOk_1.f a0_0 a0_1 = some r) :
  Calls Try.prog 82 #[.agg #[.int .i64 a0_0, .int .i64 a0_1]] w fun e w' => e = .returned (.bool r) ∧ Below w.heap.size w w' := by
 have hu42 := Try.underlying42
 have HB := am_ (Below.refl w.heap.size w)
 have H : ((impl_isNode.f a0_0).bind fun t391 => (if t391 = true then ((impl_in.f a0_1 1 1000000).bind fun t392 => (some (!t392))) else (some true))) = some r := h
 clear h
 replace H := Option.bind_eq_some_iff.mp H
 obtain ⟨t391, A20, H⟩ := H
 replace H : (if t391 = true then ((impl_in.f a0_1 1 1000000).bind fun t392 => (some (!t392))) else (some true)) = some r := H
 have A2 := Aside0.mk A20
 clear A20
 by_cases c3 : t391 = true
 ·subst c3
  have H1 : ((impl_in.f a0_1 1 1000000).bind fun t392 => (some (!t392))) = some r := by rw [if_pos rfl] at H; exact H
  clear H
  have H := H1
  clear H1
  replace H := Option.bind_eq_some_iff.mp H
  obtain ⟨t392, A40, H⟩ := H
  replace H : (some (!t392)) = some r := H
  have A4 := Aside0.mk A40
  clear A40
  obtain rfl := Option.some.inj H
  go_enter Try.func82, Try.ntmps82
  go_wp2_with (first | ((with_reducible refine gate_dst (N := 1) rfl ?_); refine be_ (N := 1) (cs := #[.int .i64 a0_0, .int .i64 a0_1]) (t := 42) ?_; intro gb390 hg w5 hbox hb; have BK390 := am_ (hbox); have GW390 := am_ (hy_ hg (hb_ HB.out) : w.heap.size ≤ gb390); have GE390 := GW390; replace HB := am_ (below_step (hb_ HB.out) hb); clear hb hbox hg; obtain ⟨hcz6_0, hcz6_1, hfz6_0, hfz6_1⟩ := bc2_ BK390.out) | ((with_reducible refine gate_callee (f := 49) rfl ?_); refine gl_ Try.func49 #[.int .i64 a0_0] ?_; (with_reducible refine (impl_isNode.calls a0_0 true _ A2.out).mono ?_); rintro e w' ⟨rfl, ⟨nd, rfl⟩⟩; refine ⟨_, rfl, ?_⟩) | (go_at_call 48; (with_reducible refine (impl_in.calls a0_1 1 1000000 t392 _ A4.out).mono ?_); rintro e w' ⟨rfl, ⟨nd, rfl⟩⟩))
  go_ret
  exact ⟨er_, hb1_ HB.out GE390.out⟩
 ·replace c3 := Bool.eq_false_iff.mpr c3
  subst c3
  have H1 : (some true) = some r := by rw [if_neg (show ¬ (false = true) by decide)] at H; exact H
  clear H
  have H := H1
  clear H1
  obtain rfl := Option.some.inj H
  go_enter Try.func82, Try.ntmps82
  go_wp2_with (first | ((with_reducible refine gate_dst (N := 1) rfl ?_); refine be_ (N := 1) (cs := #[.int .i64 a0_0, .int .i64 a0_1]) (t := 42) ?_; intro gb390 hg w7 hbox hb; have BK390 := am_ (hbox); have GW390 := am_ (hy_ hg (hb_ HB.out) : w.heap.size ≤ gb390); have GE390 := GW390; replace HB := am_ (below_step (hb_ HB.out) hb); clear hb hbox hg; obtain ⟨hcz8_0, hcz8_1, hfz8_0, hfz8_1⟩ := bc2_ BK390.out) | ((with_reducible refine gate_callee (f := 49) rfl ?_); refine gl_ Try.func49 #[.int .i64 a0_0] ?_; (with_reducible refine (impl_isNode.calls a0_0 false _ A2.out).mono ?_); rintro e w' ⟨rfl, ⟨nd, rfl⟩⟩; refine ⟨_, rfl, ?_⟩))
  go_ret
  exact ⟨er_, hb1_ HB.out GE390.out⟩
def slices_IndexFunc_Slot.l0 : Nat → List (S42) → Int → Int → Option (Int)
 | 0, _, _, _ => none
 | k + 1, x0, x7, x8 => if x8 < x7 then (if 0 ≤ x8 then (if x8 < (x0.length : Int) then ((impl_PlanOk_1.f ((rd_T42 x0 x8).f0) ((rd_T42 x0 x8).f1)).bind fun t394 => (if t394 = true then (some x8) else (slices_IndexFunc_Slot.l0 k x0 x7 (wrap64 (x8 + 1))))) else (none)) else (none)) else (some (-1))
def slices_IndexFunc_Slot.f (k : Nat) (l0 : List (S42)) : Option (Int) := slices_IndexFunc_Slot.l0 k l0 (l0.length : Int) 0
set_option maxHeartbeats 8000000 in
set_option maxRecDepth 100000 in
theorem slices_IndexFunc_Slot.calls (k : Nat) (A0 : Option Addr) (c0 : Nat) (l0 : List (S42)) (r : Int) (w : World) (hr0 : Kd.C k42 w A0 l0.length l0) (hc0 : l0.length ≤ c0) (h : slices_IndexFunc_Slot.f k l0 = some r) :
  Calls Try.prog 96 #[.slice A0 l0.length c0, .func (.func 82) #[] #[]] w fun e w' => e = .returned (.int .i64 r) ∧ Below w.heap.size w w' := by
 have hu42 := Try.underlying42
 have HR0 := Aside0.mk hr0
 have HC0 := Aside0.mk hc0
 clear hr0 hc0
 have HB := am_ (Below.refl w.heap.size w)
 have H : (slices_IndexFunc_Slot.l0 k l0 (l0.length : Int) 0) = some r := h
 clear h
 have H' := Aside0.mk H
 clear H
 go_enter Try.func96, Try.ntmps96
 go_wp2
 go_loopg [8] k (fun kq v8 w' => ∃ (x8_1 : Int), v8 = .int .i64 x8_1 ∧ Aside0 (slices_IndexFunc_Slot.l0 kq l0 (l0.length : Int) x8_1 = some r) ∧ Aside0 (kq ≤ k) ∧ Aside0 (Below w.heap.size w w'))
 case atStart => exact ⟨(0), (by first | rfl | (simp; done) | (simp [*]; done)), H', ⟨Nat.le_refl _⟩, ⟨hb_ HB.out⟩⟩
 case round =>
  clear H'
  obtain ⟨x8_1, rfl, HA, HK1, HB⟩ := hrel
  cases gk with
  | zero => exact absurd HA.out (by simp [slices_IndexFunc_Slot.l0])
  | succ k1 =>
   have H := HA.out
   clear HA
   simp only [slices_IndexFunc_Slot.l0] at H
   by_cases c2 : x8_1 < (l0.length : Int)
   ·rw [if_pos c2] at H
    have c2b0 : decide (x8_1 < (l0.length : Int)) = true := decide_eq_true c2
    clear c2
    by_cases c3 : 0 ≤ x8_1
    ·rw [if_pos c3] at H
     have c3b0 : decide (0 ≤ x8_1) = true := decide_eq_true c3
     clear c3
     by_cases c4 : x8_1 < (l0.length : Int)
     ·rw [if_pos c4] at H
      have c4b0 : decide (x8_1 < (l0.length : Int)) = true := decide_eq_true c4
      clear c4
      replace H := Option.bind_eq_some_iff.mp H
      obtain ⟨t394, A50, H⟩ := H
      replace H : (if t394 = true then (some x8_1) else (slices_IndexFunc_Slot.l0 k1 l0 (l0.length : Int) (wrap64 (x8_1 + 1)))) = some r := H
      have A5 := Aside0.mk A50
      clear A50
      by_cases c6 : t394 = true
      ·subst c6
       have H1 : (some x8_1) = some r := by rw [if_pos rfl] at H; exact H
       clear H
       have H := H1
       clear H1
       obtain rfl := Option.some.inj H
       have p393 : 0 ≤ (x8_1 : Int) := of_decide_eq_true (by first | (with_reducible assumption) | assumption)
       have q393 : x8_1 < (l0.length : Int) := of_decide_eq_true (by first | (with_reducible assumption) | assumption)
       obtain ⟨ad393, e393, hx393_0, hx393_1⟩ := at_T42 HR0.out x8_1 p393 q393
       cases e393
       replace hx393_0 := (HB.out.cell (World.block_lt_of_cell? w _ hx393_0)).trans hx393_0
       replace hx393_1 := (HB.out.cell (World.block_lt_of_cell? w _ hx393_1)).trans hx393_1
       replace p393 := eq_true p393
       replace q393 := eq_true q393
       go_wp2_with (first | (go_at_call 82; (with_reducible refine (impl_PlanOk_1.calls ((rd_T42 l0 x8_1).f0) ((rd_T42 l0 x8_1).f1) true _ A5.out).mono ?_); rintro e w7 ⟨rfl, hb⟩; replace HB := am_ (below_step (hb_ HB.out) hb); (try clear hb); (try clear hb2); (try clear hk); (try clear hi)))
       go_ret
       exact ⟨er_, hb_ HB.out⟩
      ·replace c6 := Bool.eq_false_iff.mpr c6
       subst c6
       have H1 : (slices_IndexFunc_Slot.l0 k1 l0 (l0.length : Int) (wrap64 (x8_1 + 1))) = some r := by rw [if_neg (show ¬ (false = true) by decide)] at H; exact H
       clear H
       have H := H1
       clear H1
       have H' := Aside0.mk H
       clear H
       have p393 : 0 ≤ (x8_1 : Int) := of_decide_eq_true (by first | (with_reducible assumption) | assumption)
       have q393 : x8_1 < (l0.length : Int) := of_decide_eq_true (by first | (with_reducible assumption) | assumption)
       obtain ⟨ad393, e393, hx393_0, hx393_1⟩ := at_T42 HR0.out x8_1 p393 q393
       cases e393
       replace hx393_0 := (HB.out.cell (World.block_lt_of_cell? w _ hx393_0)).trans hx393_0
       replace hx393_1 := (HB.out.cell (World.block_lt_of_cell? w _ hx393_1)).trans hx393_1
       replace p393 := eq_true p393
       replace q393 := eq_true q393
       go_wp2_with (first | (go_at_call 82; (with_reducible refine (impl_PlanOk_1.calls ((rd_T42 l0 x8_1).f0) ((rd_T42 l0 x8_1).f1) false _ A5.out).mono ?_); rintro e w8 ⟨rfl, hb⟩; replace HB := am_ (below_step (hb_ HB.out) hb); (try clear hb); (try clear hb2); (try clear hk); (try clear hi)))
       go_roundg k1
       case measure => have := HK1.out; omega
       case rel => exact ⟨(wrap64 (x8_1 + 1)), (by first | rfl | (simp; done) | (simp [*]; done)), H', ⟨by have := HK1.out; omega⟩, ⟨hb_ HB.out⟩⟩
     ·rw [if_neg c4] at H
      exact absurd H (by simp)
    ·rw [if_neg c3] at H
     exact absurd H (by simp)
   ·rw [if_neg c2] at H
    have c2b0 : decide (x8_1 < (l0.length : Int)) = false := decide_eq_false c2
    clear c2
    obtain rfl := Option.some.inj H
    go_wp2
    go_ret
    exact ⟨er_, hb_ HB.out⟩
def slices_ContainsFunc_Slot.f (k : Nat) (l0 : List (S42)) : Option (Bool) := (slices_IndexFunc_Slot.f k l0).bind fun t395 => (some (decide (t395 ≥ 0)))
set_option maxHeartbeats 8000000 in
set_option maxRecDepth 100000 in
theorem slices_ContainsFunc_Slot.calls (k : Nat) (A0 : Option Addr) (c0 : Nat) (l0 : List (S42)) (r : Bool) (w : World) (hr0 : Kd.C k42 w A0 l0.length l0) (hc0 : l0.length ≤ c0) (h : slices_ContainsFunc_Slot.f k l0 = some r) :
  Calls Try.prog 81 #[.slice A0 l0.length c0, .func (.func 82) #[] #[]] w fun e w' => e = .returned (.bool r) ∧ Below w.heap.size w w' := by
 have HR0 := Aside0.mk hr0
 have HC0 := Aside0.mk hc0
 clear hr0 hc0
 have HB := am_ (Below.refl w.heap.size w)
 have H : ((slices_IndexFunc_Slot.f k l0).bind fun t395 => (some (decide (t395 ≥ 0)))) = some r := h
 clear h
 replace H := Option.bind_eq_some_iff.mp H
 obtain ⟨t395, A20, H⟩ := H
 replace H : (some (decide (t395 ≥ 0))) = some r := H
 have A2 := Aside0.mk A20
 clear A20
 obtain rfl := Option.some.inj H
 go_enter Try.func81, Try.ntmps81
 go_wp2_with (first | ((with_reducible refine gate_callee (f := 96) rfl ?_); refine gl_ Try.func96 #[.slice A0 l0.length c0, .func (.func 82) #[] #[]] ?_; (with_reducible refine (slices_IndexFunc_Slot.calls k _ _ l0 t395 _ ?side1 ?side2 A2.out).mono ?_); (case side1 => repeat (first | exact HR0.out | (with_reducible refine Kd.C_alloc ?_ _) | (with_reducible refine Kd.C_drewN ?_ _) | (with_reducible refine Kd.C_drew ?_))); (case side2 => exact HC0.out); rintro e w3 ⟨rfl, hb⟩; refine ⟨_, rfl, ?_⟩; replace HB := am_ (below_step (hb_ HB.out) hb); (try clear hb); (try clear hb2); (try clear hk); (try clear hi)))
 go_ret
 exact ⟨er_, hb_ HB.out⟩
def impl_PlanOk.f (k : Nat) (a0_0 : Int) (a0_1 : Int) (l0_2 : List (S42)) : Option (Bool) := (impl_isTime.f a0_0).bind fun t397 => (if t397 = true then ((impl_in.f a0_1 0 100000).bind fun t398 => (if t398 = true then ((impl_in.f (l0_2.length : Int) 1 12).bind fun t399 => (if t399 = true then ((slices_ContainsFunc_Slot.f k l0_2).bind fun t400 => (some (!t400))) else (some false))) else (some false))) else (some false))
set_option maxHeartbeats 8000000 in
set_option maxRecDepth 100000 in
theorem impl_PlanOk.calls (k : Nat) (a0_0 : Int) (a0_1 : Int) (A0_2 : Option Addr) (c0_2 : Nat) (l0_2 : List (S42)) (r : Bool) (w : World) (hr0_2 : Kd.C k42 w A0_2 l0_2.length l0_2) (hc0_2 : l0_2.length ≤ c0_2) (h : impl_PlanOk.f k a0_0 a0_1 l0_2 = some r) :
  Calls Try.prog 34 #[.agg #[.int .i64 a0_0, .int .i64 a0_1, .slice A0_2 l0_2.length c0_2]] w fun e w' => e = .returned (.bool r) ∧ Below w.heap.size w w' := by
 have hu30 := Try.underlying30
 have HR0_2 := Aside0.mk hr0_2
 have HC0_2 := Aside0.mk hc0_2
 clear hr0_2 hc0_2
 have HB := am_ (Below.refl w.heap.size w)
 have H : ((impl_isTime.f a0_0).bind fun t397 => (if t397 = true then ((impl_in.f a0_1 0 100000).bind fun t398 => (if t398 = true then ((impl_in.f (l0_2.length : Int) 1 12).bind fun t399 => (if t399 = true then ((slices_ContainsFunc_Slot.f k l0_2).bind fun t400 => (some (!t400))) else (some false))) else (some false))) else (some false))) = some r := h
 clear h
 replace H := Option.bind_eq_some_iff.mp H
 obtain ⟨t397, A20, H⟩ := H
 replace H : (if t397 = true then ((impl_in.f a0_1 0 100000).bind fun t398 => (if t398 = true then ((impl_in.f (l0_2.length : Int) 1 12).bind fun t399 => (if t399 = true then ((slices_ContainsFunc_Slot.f k l0_2).bind fun t400 => (some (!t400))) else (some false))) else (some false))) else (some false)) = some r := H
 have A2 := Aside0.mk A20
 clear A20
 by_cases c3 : t397 = true
 ·subst c3
  have H1 : ((impl_in.f a0_1 0 100000).bind fun t398 => (if t398 = true then ((impl_in.f (l0_2.length : Int) 1 12).bind fun t399 => (if t399 = true then ((slices_ContainsFunc_Slot.f k l0_2).bind fun t400 => (some (!t400))) else (some false))) else (some false))) = some r := by rw [if_pos rfl] at H; exact H
  clear H
  have H := H1
  clear H1
  replace H := Option.bind_eq_some_iff.mp H
  obtain ⟨t398, A40, H⟩ := H
  replace H : (if t398 = true then ((impl_in.f (l0_2.length : Int) 1 12).bind fun t399 => (if t399 = true then ((slices_ContainsFunc_Slot.f k l0_2).bind fun t400 => (some (!t400))) else (some false))) else (some false)) = some r := H
  have A4 := Aside0.mk A40
  clear A40
  by_cases c5 : t398 = true
  ·subst c5
   have H1 : ((impl_in.f (l0_2.length : Int) 1 12).bind fun t399 => (if t399 = true then ((slices_ContainsFunc_Slot.f k l0_2).bind fun t400 => (some (!t400))) else (some false))) = some r := by rw [if_pos rfl] at H; exact H
   clear H
   have H := H1
   clear H1
   replace H := Option.bind_eq_some_iff.mp H
   obtain ⟨t399, A60, H⟩ := H
   replace H : (if t399 = true then ((slices_ContainsFunc_Slot.f k l0_2).bind fun t400 => (some (!t400))) else (some false)) = some r := H
   have A6 := Aside0.mk A60
   clear A60
   by_cases c7 : t399 = true
   ·subst c7
    have H1 : ((slices_ContainsFunc_Slot.f k l0_2).bind fun t400 => (some (!t400))) = some r := by rw [if_pos rfl] at H; exact H
    clear H
    have H := H1
    clear H1
    replace H := Option.bind_eq_some_iff.mp H
    obtain ⟨t400, A80, H⟩ := H
    replace H : (some (!t400)) = some r := H
    have A8 := Aside0.mk A80
    clear A80
    obtain rfl := Option.some.inj H
    go_enter Try.func34, Try.ntmps34
    go_wp2_with (first | ((with_reducible refine gate_dst (N := 1) rfl ?_); (try (refine gate_guard (by rfl) ?_; dsimp only)); refine be_ (N := 1) (cs := #[.int .i64 a0_0, .int .i64 a0_1, .slice A0_2 l0_2.length c0_2]) (t := 30) ?_; intro gb396 hg w9 hbox hb; have BK396 := am_ (hbox); have GW396 := am_ (hy_ hg (hb_ HB.out) : w.heap.size ≤ gb396); have GE396 := GW396; replace HB := am_ (below_step (hb_ HB.out) hb); clear hb hbox hg; obtain ⟨hcz10_0, hcz10_1, hcz10_2, hfz10_0, hfz10_1, hfz10_2⟩ := bc3_ BK396.out) | ((with_reducible refine gate_callee (f := 69) rfl ?_); refine gl_ Try.func69 #[.int .i64 a0_0] ?_; (with_reducible refine (impl_isTime.calls a0_0 true _ A2.out).mono ?_); rintro e w' ⟨rfl, ⟨nd, rfl⟩⟩; refine ⟨_, rfl, ?_⟩) | (go_at_call 48; (with_reducible refine (impl_in.calls a0_1 0 100000 true _ A4.out).mono ?_); rintro e w' ⟨rfl, ⟨nd, rfl⟩⟩) | (go_at_call 48; (with_reducible refine (impl_in.calls (l0_2.length : Int) 1 12 true _ A6.out).mono ?_); rintro e w' ⟨rfl, ⟨nd, rfl⟩⟩) | (go_at_call 81; (with_reducible refine (slices_ContainsFunc_Slot.calls k _ _ l0_2 t400 _ ?side1 ?side2 A8.out).mono ?_); (case side1 => repeat (first | exact (Kd.C_below HR0_2.out (hb1_ HB.out GE396.out)) | (with_reducible refine Kd.C_alloc ?_ _) | (with_reducible refine Kd.C_drewN ?_ _) | (with_reducible refine Kd.C_drew ?_))); (case side2 => exact HC0_2.out); rintro e w11 ⟨rfl, hb⟩; replace BK396 := am_ (bb_ BK396.out hb); replace HB := am_ (below_step (hb1_ HB.out GE396.out) hb); (try clear hb); (try clear hb2); (try clear hk); (try clear hi)))
    go_ret
    exact ⟨er_, hb1_ HB.out GE396.out⟩
   ·replace c7 := Bool.eq_false_iff.mpr c7
    subst c7
    have H1 : (some false) = some r := by rw [if_neg (show ¬ (false = true) by decide)] at H; exact H
    clear H
    have H := H1
    clear H1
    obtain rfl := Option.some.inj H
    go_enter Try.func34, Try.ntmps34
    go_wp2_with (first | ((with_reducible refine gate_dst (N := 1) rfl ?_); (try (refine gate_guard (by rfl) ?_; dsimp only)); refine be_ (N := 1) (cs := #[.int .i64 a0_0, .int .i64 a0_1, .slice A0_2 l0_2.length c0_2]) (t := 30) ?_; intro gb396 hg w12 hbox hb; have BK396 := am_ (hbox); have GW396 := am_ (hy_ hg (hb_ HB.out) : w.heap.size ≤ gb396); have GE396 := GW396; replace HB := am_ (below_step (hb_ HB.out) hb); clear hb hbox hg; obtain ⟨hcz13_0, hcz13_1, hcz13_2, hfz13_0, hfz13_1, hfz13_2⟩ := bc3_ BK396.out) | ((with_reducible refine gate_callee (f := 69) rfl ?_); refine gl_ Try.func69 #[.int .i64 a0_0] ?_; (with_reducible refine (impl_isTime.calls a0_0 true _ A2.out).mono ?_); rintro e w' ⟨rfl, ⟨nd, rfl⟩⟩; refine ⟨_, rfl, ?_⟩) | (go_at_call 48; (with_reducible refine (impl_in.calls a0_1 0 100000 true _ A4.out).mono ?_); rintro e w' ⟨rfl, ⟨nd, rfl⟩⟩) | (go_at_call 48; (with_reducible refine (impl_in.calls (l0_2.length : Int) 1 12 false _ A6.out).mono ?_); rintro e w' ⟨rfl, ⟨nd, rfl⟩⟩))
    go_ret
    exact ⟨er_, hb1_ HB.out GE396.out⟩
  ·replace c5 := Bool.eq_false_iff.mpr c5
   subst c5
   have H1 : (some false) = some r := by rw [if_neg (show ¬ (false = true) by decide)] at H; exact H
   clear H
   have H := H1
   clear H1
   obtain rfl := Option.some.inj H
   go_enter Try.func34, Try.ntmps34
   go_wp2_with (first | ((with_reducible refine gate_dst (N := 1) rfl ?_); (try (refine gate_guard (by rfl) ?_; dsimp only)); refine be_ (N := 1) (cs := #[.int .i64 a0_0, .int .i64 a0_1, .slice A0_2 l0_2.length c0_2]) (t := 30) ?_; intro gb396 hg w14 hbox hb; have BK396 := am_ (hbox); have GW396 := am_ (hy_ hg (hb_ HB.out) : w.heap.size ≤ gb396); have GE396 := GW396; replace HB := am_ (below_step (hb_ HB.out) hb); clear hb hbox hg; obtain ⟨hcz15_0, hcz15_1, hcz15_2, hfz15_0, hfz15_1, hfz15_2⟩ := bc3_ BK396.out) | ((with_reducible refine gate_callee (f := 69) rfl ?_); refine gl_ Try.func69 #[.int .i64 a0_0] ?_; (with_reducible refine (impl_isTime.calls a0_0 true _ A2.out).mono ?_); rintro e w' ⟨rfl, ⟨nd, rfl⟩⟩; refine ⟨_, rfl, ?_⟩) | (go_at_call 48; (with_reducible refine (impl_in.calls a0_1 0 100000 false _ A4.out).mono ?_); rintro e w' ⟨rfl, ⟨nd, rfl⟩⟩))
   go_ret
   exact ⟨er_, hb1_ HB.out GE396.out⟩
 ·replace c3 := Bool.eq_false_iff.mpr c3
  subst c3
  have H1 : (some false) = some r := by rw [if_neg (show ¬ (false = true) by decide)] at H; exact H
  clear H
  have H := H1
  clear H1
  obtain rfl := Option.some.inj H
  go_enter Try.func34, Try.ntmps34
  go_wp2_with (first | ((with_reducible refine gate_dst (N := 1) rfl ?_); (try (refine gate_guard (by rfl) ?_; dsimp only)); refine be_ (N := 1) (cs := #[.int .i64 a0_0, .int .i64 a0_1, .slice A0_2 l0_2.length c0_2]) (t := 30) ?_; intro gb396 hg w16 hbox hb; have BK396 := am_ (hbox); have GW396 := am_ (hy_ hg (hb_ HB.out) : w.heap.size ≤ gb396); have GE396 := GW396; replace HB := am_ (below_step (hb_ HB.out) hb); clear hb hbox hg; obtain ⟨hcz17_0, hcz17_1, hcz17_2, hfz17_0, hfz17_1, hfz17_2⟩ := bc3_ BK396.out) | ((with_reducible refine gate_callee (f := 69) rfl ?_); refine gl_ Try.func69 #[.int .i64 a0_0] ?_; (with_reducible refine (impl_isTime.calls a0_0 false _ A2.out).mono ?_); rintro e w' ⟨rfl, ⟨nd, rfl⟩⟩; refine ⟨_, rfl, ?_⟩))
  go_ret
  exact ⟨er_, hb1_ HB.out GE396.out⟩
def impl_IvalOk.f (a0_0 : Int) (a0_1 : Int) : Option (Bool) := if (-1000000000000) ≤ a0_0 then (if a0_0 ≤ a0_1 then (some (decide (a0_1 ≤ 1000000000000))) else (some false)) else (some false)
set_option maxHeartbeats 8000000 in
set_option maxRecDepth 100000 in
theorem impl_IvalOk.calls (a0_0 : Int) (a0_1 : Int) (r : Bool) (w : World) (h : impl_IvalOk.f a0_0 a0_1 = some r) :
  Calls Try.prog 46 #[.agg #[.int .i64 a0_0, .int .i64 a0_1]] w fun e w' => e = .returned (.bool r) ∧ Below w.heap.size w w' := by
 have hu25 := Try.underlying25
 have HB := am_ (Below.refl w.heap.size w)
 have H : (if (-1000000000000) ≤ a0_0 then (if a0_0 ≤ a0_1 then (some (decide (a0_1 ≤ 1000000000000))) else (some false)) else (some false)) = some r := h
 clear h
 by_cases c2 : (-1000000000000) ≤ a0_0
 ·rw [if_pos c2] at H
  have c2b0 : decide ((-1000000000000) ≤ a0_0) = true := decide_eq_true c2
  clear c2
  by_cases c3 : a0_0 ≤ a0_1
  ·rw [if_pos c3] at H
   have c3b0 : decide (a0_0 ≤ a0_1) = true := decide_eq_true c3
   clear c3
   obtain rfl := Option.some.inj H
   go_enter Try.func46, Try.ntmps46
   go_wp2_with (first | ((with_reducible refine gate_dst (N := 1) rfl ?_); refine be_ (N := 1) (cs := #[.int .i64 a0_0, .int .i64 a0_1]) (t := 25) ?_; intro gb401 hg w4 hbox hb; have BK401 := am_ (hbox); have GW401 := am_ (hy_ hg (hb_ HB.out) : w.heap.size ≤ gb401); have GE401 := GW401; replace HB := am_ (below_step (hb_ HB.out) hb); clear hb hbox hg; obtain ⟨hcz5_0, hcz5_1, hfz5_0, hfz5_1⟩ := bc2_ BK401.out))
   go_ret
   exact ⟨er_, hb1_ HB.out GE401.out⟩
  ·rw [if_neg c3] at H
   have c3b0 : decide (a0_0 ≤ a0_1) = false := decide_eq_false c3
   clear c3
   obtain rfl := Option.some.inj H
   go_enter Try.func46, Try.ntmps46
   go_wp2_with (first | ((with_reducible refine gate_dst (N := 1) rfl ?_); refine be_ (N := 1) (cs := #[.int .i64 a0_0, .int .i64 a0_1]) (t := 25) ?_; intro gb401 hg w6 hbox hb; have BK401 := am_ (hbox); have GW401 := am_ (hy_ hg (hb_ HB.out) : w.heap.size ≤ gb401); have GE401 := GW401; replace HB := am_ (below_step (hb_ HB.out) hb); clear hb hbox hg; obtain ⟨hcz7_0, hcz7_1, hfz7_0, hfz7_1⟩ := bc2_ BK401.out))
   go_ret
   exact ⟨er_, hb1_ HB.out GE401.out⟩
 ·rw [if_neg c2] at H
  have c2b0 : decide ((-1000000000000) ≤ a0_0) = false := decide_eq_false c2
  clear c2
  obtain rfl := Option.some.inj H
  go_enter Try.func46, Try.ntmps46
  go_wp2_with (first | ((with_reducible refine gate_dst (N := 1) rfl ?_); refine be_ (N := 1) (cs := #[.int .i64 a0_0, .int .i64 a0_1]) (t := 25) ?_; intro gb401 hg w8 hbox hb; have BK401 := am_ (hbox); have GW401 := am_ (hy_ hg (hb_ HB.out) : w.heap.size ≤ gb401); have GE401 := GW401; replace HB := am_ (below_step (hb_ HB.out) hb); clear hb hbox hg; obtain ⟨hcz9_0, hcz9_1, hfz9_0, hfz9_1⟩ := bc2_ BK401.out))
  go_ret
  exact ⟨er_, hb1_ HB.out GE401.out⟩
def impl_DriftOk.f (a0_0 : Int) (a0_1 : Int) : Option (Bool) := (impl_in.f a0_1 1 1000000).bind fun t403 => (if t403 = true then ((impl_in.f a0_0 0 a0_1).bind fun t404 => (if t404 = true then (some (decide ((wrap64 (2 * a0_0)) ≤ a0_1))) else (some false))) else (some false))
set_option maxHeartbeats 8000000 in
set_option maxRecDepth 100000 in
theorem impl_DriftOk.calls (a0_0 : Int) (a0_1 : Int) (r : Bool) (w : World) (h : impl_DriftOk.f a0_0 a0_1 = some r) :
  Calls Try.prog 47 #[.agg #[.int .i64 a0_0, .int .i64 a0_1]] w fun e w' => e = .returned (.bool r) ∧ Below w.heap.size w w' := by
 have hu27 := Try.underlying27
 have HB := am_ (Below.refl w.heap.size w)
 have H : ((impl_in.f a0_1 1 1000000).bind fun t403 => (if t403 = true then ((impl_in.f a0_0 0 a0_1).bind fun t404 => (if t404 = true then (some (decide ((wrap64 (2 * a0_0)) ≤ a0_1))) else (some false))) else (some false))) = some r := h
 clear h
 replace H := Option.bind_eq_some_iff.mp H
 obtain ⟨t403, A20, H⟩ := H
 replace H : (if t403 = true then ((impl_in.f a0_0 0 a0_1).bind fun t404 => (if t404 = true then (some (decide ((wrap64 (2 * a0_0)) ≤ a0_1))) else (some false))) else (some false)) = some r := H
 have A2 := Aside0.mk A20
 clear A20
 by_cases c3 : t403 = true
 ·subst c3
  have H1 : ((impl_in.f a0_0 0 a0_1).bind fun t404 => (if t404 = true then (some (decide ((wrap64 (2 * a0_0)) ≤ a0_1))) else (some false))) = some r := by rw [if_pos rfl] at H; exact H
  clear H
  have H := H1
  clear H1
  replace H := Option.bind_eq_some_iff.mp H
  obtain ⟨t404, A40, H⟩ := H
  replace H : (if t404 = true then (some (decide ((wrap64 (2 * a0_0)) ≤ a0_1))) else (some false)) = some r := H
  have A4 := Aside0.mk A40
  clear A40
  by_cases c5 : t404 = true
  ·subst c5
   have H1 : (some (decide ((wrap64 (2 * a0_0)) ≤ a0_1))) = some r := by rw [if_pos rfl] at H; exact H
   clear H
   have H := H1
   clear H1
   obtain rfl := Option.some.inj H
   go_enter Try.func47, Try.ntmps47
   go_wp2_with (first | ((with_reducible refine gate_dst (N := 1) rfl ?_); refine be_ (N := 1) (cs := #[.int .i64 a0_0, .int .i64 a0_1]) (t := 27) ?_; intro gb402 hg w6 hbox hb; have BK402 := am_ (hbox); have GW402 := am_ (hy_ hg (hb_ HB.out) : w.heap.size ≤ gb402); have GE402 := GW402; replace HB := am_ (below_step (hb_ HB.out) hb); clear hb hbox hg; obtain ⟨hcz7_0, hcz7_1, hfz7_0, hfz7_1⟩ := bc2_ BK402.out) | ((with_reducible refine gate_callee (f := 48) rfl ?_); refine gl_ Try.func48 #[.int .i64 a0_1, .int .i64 1, .int .i64 1000000] ?_; (with_reducible refine (impl_in.calls a0_1 1 1000000 true _ A2.out).mono ?_); rintro e w' ⟨rfl, ⟨nd, rfl⟩⟩; refine ⟨_, rfl, ?_⟩) | (go_at_call 48; (with_reducible refine (impl_in.calls a0_0 0 a0_1 true _ A4.out).mono ?_); rintro e w' ⟨rfl, ⟨nd, rfl⟩⟩))
   go_ret
   exact ⟨er_, hb1_ HB.out GE402.out⟩
  ·replace c5 := Bool.eq_false_iff.mpr c5
   subst c5
   have H1 : (some false) = some r := by rw [if_neg (show ¬ (false = true) by decide)] at H; exact H
   clear H
   have H := H1
   clear H1
   obtain rfl := Option.some.inj H
   go_enter Try.func47, Try.ntmps47
   go_wp2_with (first | ((with_reducible refine gate_dst (N := 1) rfl ?_); refine be_ (N := 1) (cs := #[.int .i64 a0_0, .int .i64 a0_1]) (t := 27) ?_; intro gb402 hg w8 hbox hb; have BK402 := am_ (hbox); have GW402 := am_ (hy_ hg (hb_ HB.out) : w.heap.size ≤ gb402); have GE402 := GW402; replace HB := am_ (below_step (hb_ HB.out) hb); clear hb hbox hg; obtain ⟨hcz9_0, hcz9_1, hfz9_0, hfz9_1⟩ := bc2_ BK402.out) | ((with_reducible refine gate_callee (f := 48) rfl ?_); refine gl_ Try.func48 #[.int .i64 a0_1, .int .i64 1, .int .i64 1000000] ?_; (with_reducible refine (impl_in.calls a0_1 1 1000000 true _ A2.out).mono ?_); rintro e w' ⟨rfl, ⟨nd, rfl⟩⟩; refine ⟨_, rfl, ?_⟩) | (go_at_call 48; (with_reducible refine (impl_in.calls a0_0 0 a0_1 false _ A4.out).mono ?_); rintro e w' ⟨rfl, ⟨nd, rfl⟩⟩))
   go_ret
   exact ⟨er_, hb1_ HB.out GE402.out⟩
 ·replace c3 := Bool.eq_false_iff.mpr c3
  subst c3
  have H1 : (some false) = some r := by rw [if_neg (show ¬ (false = true) by decide)] at H; exact H
  clear H
  have H := H1
  clear H1
  obtain rfl := Option.some.inj H
  go_enter Try.func47, Try.ntmps47
  go_wp2_with (first | ((with_reducible refine gate_dst (N := 1) rfl ?_); refine be_ (N := 1) (cs := #[.int .i64 a0_0, .int .i64 a0_1]) (t := 27) ?_; intro gb402 hg w10 hbox hb; have BK402 := am_ (hbox); have GW402 := am_ (hy_ hg (hb_ HB.out) : w.heap.size ≤ gb402); have GE402 := GW402; replace HB := am_ (below_step (hb_ HB.out) hb); clear hb hbox hg; obtain ⟨hcz11_0, hcz11_1, hfz11_0, hfz11_1⟩ := bc2_ BK402.out) | ((with_reducible refine gate_callee (f := 48) rfl ?_); refine gl_ Try.func48 #[.int .i64 a0_1, .int .i64 1, .int .i64 1000000] ?_; (with_reducible refine (impl_in.calls a0_1 1 1000000 false _ A2.out).mono ?_); rintro e w' ⟨rfl, ⟨nd, rfl⟩⟩; refine ⟨_, rfl, ?_⟩))
  go_ret
  exact ⟨er_, hb1_ HB.out GE402.out⟩
end Go.Proofs.Ytllpmpfchidhoaa.P
