/- Texts of the seat's proofs, part 6: functions of the program told as plain functions, with their contracts, and what is shown of them. No condition. -/
import Derived.Test.YtllpmpfchidhoaaUKFGT
import Derived.Test.YtllpmpfchidhoaaKFGT1
import Derived.Test.YtllpmpfchidhoaaKFGT5
set_option linter.unusedVariables false
set_option linter.unusedSimpArgs false
namespace Go.Proofs.Ytllpmpfchidhoaa.P
open Go.RowKit Go.Proofs.YtllpmpfchidhoaaW.PrintWords Go.Proofs.YtllpmpfchidhoaaW.PrintLast Go.Proofs.YtllpmpfchidhoaaW.PrintMore
attribute [local go_sem] max2_int min2_int max_two min_two max_three min_three max_four min_four
set_option linter.unusedVariables false
set_option linter.unusedSimpArgs false
def impl_bounded.f (num den x y : Int) : Option (Int × Bool) := (impl_DriftOk.f num den).bind fun t1 => (if t1 = true then ((impl_isTime.f x).bind fun t2 => (if t2 = true then (if y ≤ 1000000000000 then (some (y, true)) else (some (0, false))) else (some (0, false)))) else (some (0, false)))
set_option maxHeartbeats 8000000 in
set_option maxRecDepth 100000 in
theorem impl_bounded.calls (num den x y : Int) (g : Nat) (caps : Array Value) (r1 : Int) (r2 : Bool) (w : World) (fn : Func) (hfn : Try.prog.funcs[g]? = some fn) (hbd : fn.body.isSome = true) (hnm : (fn.name == "runtime.NumGoroutine") = false)
  (hC : impl_DriftOk.f num den = some true → impl_isTime.f x = some true → ∀ W, Below w.heap.size w W → Calls Try.prog g caps W fun e W' => e = .returned (.int .i64 y) ∧ Below W.heap.size W W')
  (h : impl_bounded.f num den x y = some (r1, r2)) :
  Calls Try.prog 92 #[.agg #[.int .i64 num, .int .i64 den], .int .i64 x, .func (.func g) #[] caps] w fun e w' => e = .returned (.tuple #[.int .i64 r1, .bool r2]) ∧ Below w.heap.size w w' := by
 have hu := Try.underlying27
 have HB := am_ (Below.refl w.heap.size w)
 have hen := fun W => enters_ (args := caps) hfn hnm hbd W
 have hC := Aside0.mk hC
 unfold impl_bounded.f at h
 obtain ⟨t1, A1, H⟩ := Option.bind_eq_some_iff.mp h
 clear h
 have A1 := Aside0.mk A1
 cases t1 with
 | false =>
  rw [if_neg (by decide)] at H
  obtain ⟨rfl, rfl⟩ := Prod.mk.inj (Option.some.inj H)
  clear H hC
  go_enter Try.func92, Try.ntmps92
  go_wp2_with (first | ((with_reducible refine gate_dst (N := 3) rfl ?_); refine be_ (N := 3) (cs := #[.int .i64 num, .int .i64 den]) (t := 27) ?_; intro ga hg w1 hbox hb; replace HB := am_ (below_step (hb_ HB.out) hb); have Bga := am_ (hbox); clear hb hbox hg; have hcga0_w1 : w1.cell? ⟨ga, 0, none⟩ = some (.int .i64 num) := (blk_cell Bga.out 0).trans rfl; have hzga0_w1 := blk_frozen Bga.out 0; have hcga1_w1 : w1.cell? ⟨ga, 1, none⟩ = some (.int .i64 den) := (blk_cell Bga.out 1).trans rfl; have hzga1_w1 := blk_frozen Bga.out 1) | (go_at_call 47; (with_reducible refine (impl_DriftOk.calls num den false _ A1.out).mono ?_); rintro e w2 ⟨rfl, hb⟩; have oBga := am_ (blk_below (bk_ Bga.out) hb); replace HB := am_ (below_step (hb_ HB.out) hb); clear Bga; have Bga := oBga; clear oBga; (try clear hb); have hcga0_w2 : w2.cell? ⟨ga, 0, none⟩ = some (.int .i64 num) := (blk_cell Bga.out 0).trans rfl; have hzga0_w2 := blk_frozen Bga.out 0; have hcga1_w2 : w2.cell? ⟨ga, 1, none⟩ = some (.int .i64 den) := (blk_cell Bga.out 1).trans rfl; have hzga1_w2 := blk_frozen Bga.out 1))
  go_ret2
  exact ⟨rfl, hb_ HB.out⟩
 | true =>
  rw [if_pos rfl] at H
  obtain ⟨t2, A2, H⟩ := Option.bind_eq_some_iff.mp H
  have A2 := Aside0.mk A2
  cases t2 with
  | false =>
   rw [if_neg (by decide)] at H
   obtain ⟨rfl, rfl⟩ := Prod.mk.inj (Option.some.inj H)
   clear H hC
   go_enter Try.func92, Try.ntmps92
   go_wp2_with (first | ((with_reducible refine gate_dst (N := 3) rfl ?_); refine be_ (N := 3) (cs := #[.int .i64 num, .int .i64 den]) (t := 27) ?_; intro ga hg w1 hbox hb; replace HB := am_ (below_step (hb_ HB.out) hb); have Bga := am_ (hbox); clear hb hbox hg; have hcga0_w1 : w1.cell? ⟨ga, 0, none⟩ = some (.int .i64 num) := (blk_cell Bga.out 0).trans rfl; have hzga0_w1 := blk_frozen Bga.out 0; have hcga1_w1 : w1.cell? ⟨ga, 1, none⟩ = some (.int .i64 den) := (blk_cell Bga.out 1).trans rfl; have hzga1_w1 := blk_frozen Bga.out 1) | (go_at_call 47; (with_reducible refine (impl_DriftOk.calls num den true _ A1.out).mono ?_); rintro e w2 ⟨rfl, hb⟩; have oBga := am_ (blk_below (bk_ Bga.out) hb); replace HB := am_ (below_step (hb_ HB.out) hb); clear Bga; have Bga := oBga; clear oBga; (try clear hb); have hcga0_w2 : w2.cell? ⟨ga, 0, none⟩ = some (.int .i64 num) := (blk_cell Bga.out 0).trans rfl; have hzga0_w2 := blk_frozen Bga.out 0; have hcga1_w2 : w2.cell? ⟨ga, 1, none⟩ = some (.int .i64 den) := (blk_cell Bga.out 1).trans rfl; have hzga1_w2 := blk_frozen Bga.out 1) | (go_at_call 69; (with_reducible refine (impl_isTime.calls x false _ A2.out).mono ?_); rintro e w' ⟨rfl, ⟨nd, rfl⟩⟩))
   go_ret2
   exact ⟨rfl, hb_ HB.out⟩
  | true =>
   rw [if_pos rfl] at H
   by_cases c : y ≤ 1000000000000
   ·rw [if_pos c] at H
    obtain ⟨rfl, rfl⟩ := Prod.mk.inj (Option.some.inj H)
    clear H
    have cb : decide (y ≤ 1000000000000) = true := decide_eq_true c
    clear c
    go_enter Try.func92, Try.ntmps92
    go_wp2_with (first | ((with_reducible refine gate_dst (N := 3) rfl ?_); refine be_ (N := 3) (cs := #[.int .i64 num, .int .i64 den]) (t := 27) ?_; intro ga hg w1 hbox hb; replace HB := am_ (below_step (hb_ HB.out) hb); have Bga := am_ (hbox); clear hb hbox hg; have hcga0_w1 : w1.cell? ⟨ga, 0, none⟩ = some (.int .i64 num) := (blk_cell Bga.out 0).trans rfl; have hzga0_w1 := blk_frozen Bga.out 0; have hcga1_w1 : w1.cell? ⟨ga, 1, none⟩ = some (.int .i64 den) := (blk_cell Bga.out 1).trans rfl; have hzga1_w1 := blk_frozen Bga.out 1) | (go_at_call 47; (with_reducible refine (impl_DriftOk.calls num den true _ A1.out).mono ?_); rintro e w2 ⟨rfl, hb⟩; have oBga := am_ (blk_below (bk_ Bga.out) hb); replace HB := am_ (below_step (hb_ HB.out) hb); clear Bga; have Bga := oBga; clear oBga; (try clear hb); have hcga0_w2 : w2.cell? ⟨ga, 0, none⟩ = some (.int .i64 num) := (blk_cell Bga.out 0).trans rfl; have hzga0_w2 := blk_frozen Bga.out 0; have hcga1_w2 : w2.cell? ⟨ga, 1, none⟩ = some (.int .i64 den) := (blk_cell Bga.out 1).trans rfl; have hzga1_w2 := blk_frozen Bga.out 1) | (go_at_call 69; (with_reducible refine (impl_isTime.calls x true _ A2.out).mono ?_); rintro e w' ⟨rfl, ⟨nd, rfl⟩⟩) | ((with_reducible refine (hC.out A1.out A2.out _ ?_).mono ?_); (exact by repeat (first | (with_reducible first | exact HB.out | apply below_alloc | apply pw_below_drewN | apply below_drew1) | exact HB.out)); rintro e w4 ⟨rfl, hb⟩; replace HB := am_ (below_step (hb_ HB.out) hb); (try clear hb)))
    go_ret2
    exact ⟨rfl, hb_ HB.out⟩
   ·rw [if_neg c] at H
    obtain ⟨rfl, rfl⟩ := Prod.mk.inj (Option.some.inj H)
    clear H
    have cb : decide (y ≤ 1000000000000) = false := decide_eq_false c
    clear c
    go_enter Try.func92, Try.ntmps92
    go_wp2_with (first | ((with_reducible refine gate_dst (N := 3) rfl ?_); refine be_ (N := 3) (cs := #[.int .i64 num, .int .i64 den]) (t := 27) ?_; intro ga hg w1 hbox hb; replace HB := am_ (below_step (hb_ HB.out) hb); have Bga := am_ (hbox); clear hb hbox hg; have hcga0_w1 : w1.cell? ⟨ga, 0, none⟩ = some (.int .i64 num) := (blk_cell Bga.out 0).trans rfl; have hzga0_w1 := blk_frozen Bga.out 0; have hcga1_w1 : w1.cell? ⟨ga, 1, none⟩ = some (.int .i64 den) := (blk_cell Bga.out 1).trans rfl; have hzga1_w1 := blk_frozen Bga.out 1) | (go_at_call 47; (with_reducible refine (impl_DriftOk.calls num den true _ A1.out).mono ?_); rintro e w2 ⟨rfl, hb⟩; have oBga := am_ (blk_below (bk_ Bga.out) hb); replace HB := am_ (below_step (hb_ HB.out) hb); clear Bga; have Bga := oBga; clear oBga; (try clear hb); have hcga0_w2 : w2.cell? ⟨ga, 0, none⟩ = some (.int .i64 num) := (blk_cell Bga.out 0).trans rfl; have hzga0_w2 := blk_frozen Bga.out 0; have hcga1_w2 : w2.cell? ⟨ga, 1, none⟩ = some (.int .i64 den) := (blk_cell Bga.out 1).trans rfl; have hzga1_w2 := blk_frozen Bga.out 1) | (go_at_call 69; (with_reducible refine (impl_isTime.calls x true _ A2.out).mono ?_); rintro e w' ⟨rfl, ⟨nd, rfl⟩⟩) | ((with_reducible refine (hC.out A1.out A2.out _ ?_).mono ?_); (exact by repeat (first | (with_reducible first | exact HB.out | apply below_alloc | apply pw_below_drewN | apply below_drew1) | exact HB.out)); rintro e w4 ⟨rfl, hb⟩; replace HB := am_ (below_step (hb_ HB.out) hb); (try clear hb)))
    go_ret2
    exact ⟨rfl, hb_ HB.out⟩
end Go.Proofs.Ytllpmpfchidhoaa.P
namespace Go.Proofs.Ytllpmpfchidhoaa.P
open Go.RowKit Go.Proofs.YtllpmpfchidhoaaW.PrintWords Go.Proofs.YtllpmpfchidhoaaW.PrintLast Go.Proofs.YtllpmpfchidhoaaW.PrintMore
attribute [local go_sem] max2_int min2_int max_two min_two max_three min_three max_four min_four
set_option linter.unusedVariables false
set_option linter.unusedSimpArgs false
set_option maxHeartbeats 8000000 in
set_option maxRecDepth 100000 in
theorem impl_MostTime_1.calls (gx gd : Nat) (num den x : Int) (w : World) (hx : w.heap[gx]? = some (.cells #[.int .i64 x] 3 (0, 0))) (hd : w.heap[gd]? = some (.cells #[.int .i64 num, .int .i64 den] 27 (0, 0))) (hz : wrap64 (den - num) ≠ 0) :
  Calls Try.prog 93 #[.pointer (some ⟨gx, 0, none⟩), .pointer (some ⟨gd, 0, none⟩)] w fun e w' => e = .returned (.int .i64 (wrap64 (Int.tdiv (wrap64 (x * den)) (wrap64 (den - num))))) ∧ Below w.heap.size w w' := by
 have hu0 := Try.underlying27
 have HB := am_ (Below.refl w.heap.size w)
 have h1 : w.cell? ⟨gx, 0, none⟩ = some (.int .i64 x) := (blk_cell hx 0).trans rfl
 have h2 : w.cell? ⟨gd, 0, none⟩ = some (.int .i64 num) := (blk_cell hd 0).trans rfl
 have h3 : w.cell? ⟨gd, 1, none⟩ = some (.int .i64 den) := (blk_cell hd 1).trans rfl
 have z1 := blk_frozen hx 0
 have z2 := blk_frozen hd 0
 have z3 := blk_frozen hd 1
 clear hx hd
 have hz1 : (wrap64 (den - num) == 0) = false := beq_eq_false_iff_ne.mpr hz
 have hz2 : (wrap64 (den - num) != 0) = true := bne_iff_ne.mpr hz
 go_enter Try.func93, Try.ntmps93
 go_wp2
 go_ret
 exact ⟨rfl, hb_ HB.out⟩
end Go.Proofs.Ytllpmpfchidhoaa.P
namespace Go.Proofs.Ytllpmpfchidhoaa.P
open Go.RowKit Go.Proofs.YtllpmpfchidhoaaW.PrintWords Go.Proofs.YtllpmpfchidhoaaW.PrintLast Go.Proofs.YtllpmpfchidhoaaW.PrintMore
attribute [local go_sem] max2_int min2_int max_two min_two max_three min_three max_four min_four
set_option linter.unusedVariables false
set_option linter.unusedSimpArgs false
def impl_MostTime.f (a0_0 : Int) (a0_1 : Int) (a1 : Int) : Option (Int × Bool) := (impl_DriftOk.f a0_0 a0_1).bind fun t1 => (if t1 = true then (if wrap64 (a0_1 - a0_0) = 0 then none else impl_bounded.f a0_0 a0_1 a1 (wrap64 (Int.tdiv (wrap64 (a1 * a0_1)) (wrap64 (a0_1 - a0_0))))) else (impl_bounded.f a0_0 a0_1 a1 0))
set_option maxHeartbeats 8000000 in
set_option maxRecDepth 100000 in
theorem impl_MostTime.calls (num den x : Int) (r1 : Int) (r2 : Bool) (w : World) (h : impl_MostTime.f num den x = some (r1, r2)) :
  Calls Try.prog 71 #[.agg #[.int .i64 num, .int .i64 den], .int .i64 x] w fun e w' => e = .returned (.tuple #[.int .i64 r1, .bool r2]) ∧ Below w.heap.size w w' := by
 have hu0 := Try.underlying27
 have HB := am_ (Below.refl w.heap.size w)
 unfold impl_MostTime.f at h
 obtain ⟨t1, A1, H⟩ := Option.bind_eq_some_iff.mp h
 clear h
 have A1 := Aside0.mk A1
 cases t1 with
 | false =>
  rw [if_neg (by decide)] at H
  have H := Aside0.mk H
  go_enter Try.func71, Try.ntmps71
  go_wp2_with (first | ((with_reducible refine gate_dst (N := 2) rfl ?_); refine be_ (N := 2) (cs := #[.int .i64 num, .int .i64 den]) (t := 27) ?_; intro gd hg w1 hbox hb; replace HB := am_ (below_step (hb_ HB.out) hb); have Bgd := am_ (hbox); clear hb hbox hg; have hcgd0_w1 : w1.cell? ⟨gd, 0, none⟩ = some (.int .i64 num) := (blk_cell Bgd.out 0).trans rfl; have hzgd0_w1 := blk_frozen Bgd.out 0; have hcgd1_w1 : w1.cell? ⟨gd, 1, none⟩ = some (.int .i64 den) := (blk_cell Bgd.out 1).trans rfl; have hzgd1_w1 := blk_frozen Bgd.out 1) | ((with_reducible refine gate_dst (N := 3) rfl ?_); refine be_ (N := 3) (cs := #[.int .i64 x]) (t := 3) ?_; intro gx hg w2 hbox hb; have oBgd := am_ (blk_below (bk_ Bgd.out) hb); replace HB := am_ (below_step (hb_ HB.out) hb); clear Bgd; have Bgd := oBgd; clear oBgd; have Bgx := am_ (hbox); clear hb hbox hg; have hcgd0_w2 : w2.cell? ⟨gd, 0, none⟩ = some (.int .i64 num) := (blk_cell Bgd.out 0).trans rfl; have hzgd0_w2 := blk_frozen Bgd.out 0; have hcgd1_w2 : w2.cell? ⟨gd, 1, none⟩ = some (.int .i64 den) := (blk_cell Bgd.out 1).trans rfl; have hzgd1_w2 := blk_frozen Bgd.out 1; have hcgx0_w2 : w2.cell? ⟨gx, 0, none⟩ = some (.int .i64 x) := (blk_cell Bgx.out 0).trans rfl; have hzgx0_w2 := blk_frozen Bgx.out 0) | ((go_at_call 92); (with_reducible refine (impl_bounded.calls num den x 0 93 #[.pointer (some ⟨gx, 0, none⟩), .pointer (some ⟨gd, 0, none⟩)] r1 r2 _ Try.f93 Try.func93 (by kernel_rfl) rfl ?_ H.out).mono ?_); (exact fun h1 => absurd (A1.out.symm.trans h1) (by simp)); rintro e w4 ⟨rfl, hb⟩; replace HB := am_ (below_step (hb_ HB.out) hb); (try clear hb)))
  go_ret2
  exact ⟨rfl, hb_ HB.out⟩
 | true =>
  rw [if_pos rfl] at H
  by_cases hz : wrap64 (den - num) = 0
  ·rw [if_pos hz] at H; cases H
  rw [if_neg hz] at H
  have HZ := Aside0.mk hz
  clear hz
  have H := Aside0.mk H
  go_enter Try.func71, Try.ntmps71
  go_wp2_with (first | ((with_reducible refine gate_dst (N := 2) rfl ?_); refine be_ (N := 2) (cs := #[.int .i64 num, .int .i64 den]) (t := 27) ?_; intro gd hg w1 hbox hb; replace HB := am_ (below_step (hb_ HB.out) hb); have Bgd := am_ (hbox); clear hb hbox hg; have hcgd0_w1 : w1.cell? ⟨gd, 0, none⟩ = some (.int .i64 num) := (blk_cell Bgd.out 0).trans rfl; have hzgd0_w1 := blk_frozen Bgd.out 0; have hcgd1_w1 : w1.cell? ⟨gd, 1, none⟩ = some (.int .i64 den) := (blk_cell Bgd.out 1).trans rfl; have hzgd1_w1 := blk_frozen Bgd.out 1) | ((with_reducible refine gate_dst (N := 3) rfl ?_); refine be_ (N := 3) (cs := #[.int .i64 x]) (t := 3) ?_; intro gx hg w2 hbox hb; have oBgd := am_ (blk_below (bk_ Bgd.out) hb); replace HB := am_ (below_step (hb_ HB.out) hb); clear Bgd; have Bgd := oBgd; clear oBgd; have Bgx := am_ (hbox); clear hb hbox hg; have hcgd0_w2 : w2.cell? ⟨gd, 0, none⟩ = some (.int .i64 num) := (blk_cell Bgd.out 0).trans rfl; have hzgd0_w2 := blk_frozen Bgd.out 0; have hcgd1_w2 : w2.cell? ⟨gd, 1, none⟩ = some (.int .i64 den) := (blk_cell Bgd.out 1).trans rfl; have hzgd1_w2 := blk_frozen Bgd.out 1; have hcgx0_w2 : w2.cell? ⟨gx, 0, none⟩ = some (.int .i64 x) := (blk_cell Bgx.out 0).trans rfl; have hzgx0_w2 := blk_frozen Bgx.out 0) | ((go_at_call 92); (with_reducible refine (impl_bounded.calls num den x (wrap64 (Int.tdiv (wrap64 (x * den)) (wrap64 (den - num)))) 93 #[.pointer (some ⟨gx, 0, none⟩), .pointer (some ⟨gd, 0, none⟩)] r1 r2 _ Try.f93 Try.func93 (by kernel_rfl) rfl ?_ H.out).mono ?_); (exact fun _ _ W hW => impl_MostTime_1.calls gx gd num den x W (blk_below (bk_ Bgx.out) hW) (blk_below (bk_ Bgd.out) hW) HZ.out); rintro e w4 ⟨rfl, hb⟩; replace HB := am_ (below_step (hb_ HB.out) hb); (try clear hb)))
  go_ret2
  exact ⟨rfl, hb_ HB.out⟩
def impl_ival.f (a0 : Int) (a1 : Int) : Option (Int × Int × Bool) := (impl_IvalOk.f a0 a1).bind fun t407 => (if t407 = true then (some (a0, a1, true)) else (some (0, 0, false)))
set_option maxHeartbeats 8000000 in
set_option maxRecDepth 100000 in
theorem impl_ival.calls (a0 : Int) (a1 : Int) (r1 : Int) (r2 : Int) (r3 : Bool) (w : World) (h : impl_ival.f a0 a1 = some (r1, r2, r3)) :
  Calls Try.prog 61 #[.int .i64 a0, .int .i64 a1] w fun e w' => e = .returned (.tuple #[.agg #[.int .i64 r1, .int .i64 r2], .bool r3]) ∧ Below w.heap.size w w' := by
 have hu25 := Try.underlying25
 have HB := am_ (Below.refl w.heap.size w)
 have H : ((impl_IvalOk.f a0 a1).bind fun t407 => (if t407 = true then (some (a0, a1, true)) else (some (0, 0, false)))) = some (r1, r2, r3) := h
 clear h
 replace H := Option.bind_eq_some_iff.mp H
 obtain ⟨t407, A30, H⟩ := H
 replace H : (if t407 = true then (some (a0, a1, true)) else (some (0, 0, false))) = some (r1, r2, r3) := H
 have A3 := Aside0.mk A30
 clear A30
 by_cases c4 : t407 = true
 ·subst c4
  have H1 : (some (a0, a1, true)) = some (r1, r2, r3) := by rw [if_pos rfl] at H; exact H
  clear H
  have H := H1
  clear H1
  simp only [Option.some.injEq, Prod.mk.injEq] at H
  obtain ⟨rfl, rfl, rfl⟩ := H
  go_enter Try.func61, Try.ntmps61
  go_wp2_with (first | ((with_reducible refine gate_dst (N := 4) rfl ?_); refine be_ (N := 4) (cs := #[.int .i64 0, .int .i64 0]) (t := 25) ?_; intro gb405 hg w5 hbox hb; have BK405 := am_ (hbox); have GW405 := am_ (hy_ hg (hb_ HB.out) : w.heap.size ≤ gb405); have GE405 := GW405; replace HB := am_ (below_step (hb_ HB.out) hb); clear hb hbox hg) | ((with_reducible refine gate_dst (N := 6) rfl ?_); refine be_ (N := 6) (cs := #[.int .i64 0, .int .i64 0]) (t := 25) ?_; intro gb406 hg w6 hbox hb; have BK406 := am_ (hbox); have GW406 := am_ (hy_ hg (hb1_ HB.out GE405.out) : w.heap.size ≤ gb406); have GE406 := GW406; have NB405_406 := am_ (bl_ hg BK405.out : gb405 ≠ gb406); have NB406_405 := nb_ NB405_406; replace BK405 := am_ (bb_ BK405.out hb); replace HB := am_ (below_step (hb1_ HB.out GE405.out) hb); clear hb hbox hg; have hnb7 := NB406_405.out; have hnc7 := NB405_406.out; obtain ⟨hcz8_0, hcz8_1, hfz8_0, hfz8_1⟩ := bc2_ BK406.out) | ((with_reducible refine gate_callee (f := 46) rfl ?_); refine gl_ Try.func46 #[.agg #[.int .i64 a0, .int .i64 a1]] ?_; (with_reducible refine (impl_IvalOk.calls a0 a1 true _ A3.out).mono ?_); rintro e w9 ⟨rfl, hb⟩; refine ⟨_, rfl, ?_⟩; replace BK405 := am_ (blk_below (g := gb405) (o := .cells #[.int .i64 0, .int .i64 0] 25 (0, 0)) (by (with_reducible repeat (first | refine blk_drewN ?_ _ | refine blk_drew ?_ | refine blk_alloc ?_ _)); refine blk_far ?_ NB405_406.out _; (with_reducible repeat (first | refine blk_drewN ?_ _ | refine blk_drew ?_ | refine blk_alloc ?_ _)); refine blk_far ?_ NB405_406.out _; (with_reducible repeat (first | refine blk_drewN ?_ _ | refine blk_drew ?_ | refine blk_alloc ?_ _)); exact BK405.out) hb); replace BK406 := am_ (blk_below (g := gb406) (o := .cells #[.int .i64 a0, .int .i64 a1] 25 (0, 0)) (by (with_reducible repeat (first | refine blk_drewN ?_ _ | refine blk_drew ?_ | refine blk_alloc ?_ _)); refine blk_put (cs := #[.int .i64 a0, .int .i64 0]) ?_ 1 _ rfl; (with_reducible repeat (first | refine blk_drewN ?_ _ | refine blk_drew ?_ | refine blk_alloc ?_ _)); refine blk_put (cs := #[.int .i64 0, .int .i64 0]) ?_ 0 _ rfl; (with_reducible repeat (first | refine blk_drewN ?_ _ | refine blk_drew ?_ | refine blk_alloc ?_ _)); exact BK406.out) hb); replace HB := am_ (below_step (hb2_ HB.out GE405.out GE406.out) hb); (try clear hb); (try clear hb2); (try clear hk); (try clear hi); obtain ⟨hcz10_0, hcz10_1, hfz10_0, hfz10_1⟩ := bc2_ BK406.out; obtain ⟨hcz11_0, hcz11_1, hfz11_0, hfz11_1⟩ := bc2_ BK405.out))
  refine bodyPost_ret (results_ct rfl _ _ gb405 25 #[.int .i64 a0, .int .i64 a1] (0, 0) _ rfl (by (with_reducible repeat (first | refine blk_drewN ?_ _ | refine blk_drew ?_ | refine blk_alloc ?_ _)); refine blk_put (cs := #[.int .i64 a0, .int .i64 0]) ?_ 1 _ rfl; (with_reducible repeat (first | refine blk_drewN ?_ _ | refine blk_drew ?_ | refine blk_alloc ?_ _)); refine blk_put (cs := #[.int .i64 0, .int .i64 0]) ?_ 0 _ rfl; (with_reducible repeat (first | refine blk_drewN ?_ _ | refine blk_drew ?_ | refine blk_alloc ?_ _)); exact BK405.out) Try.underlying25 rfl (by kernel_rfl)) rfl ?_
  exact ⟨er_, hb2_ HB.out GE405.out GE406.out⟩
 ·replace c4 := Bool.eq_false_iff.mpr c4
  subst c4
  have H1 : (some (0, 0, false)) = some (r1, r2, r3) := by rw [if_neg (show ¬ (false = true) by decide)] at H; exact H
  clear H
  have H := H1
  clear H1
  simp only [Option.some.injEq, Prod.mk.injEq] at H
  obtain ⟨rfl, rfl, rfl⟩ := H
  go_enter Try.func61, Try.ntmps61
  go_wp2_with (first | ((with_reducible refine gate_dst (N := 4) rfl ?_); refine be_ (N := 4) (cs := #[.int .i64 0, .int .i64 0]) (t := 25) ?_; intro gb405 hg w12 hbox hb; have BK405 := am_ (hbox); have GW405 := am_ (hy_ hg (hb_ HB.out) : w.heap.size ≤ gb405); have GE405 := GW405; replace HB := am_ (below_step (hb_ HB.out) hb); clear hb hbox hg) | ((with_reducible refine gate_dst (N := 6) rfl ?_); refine be_ (N := 6) (cs := #[.int .i64 0, .int .i64 0]) (t := 25) ?_; intro gb406 hg w13 hbox hb; have BK406 := am_ (hbox); have GW406 := am_ (hy_ hg (hb1_ HB.out GE405.out) : w.heap.size ≤ gb406); have GE406 := GW406; have NB405_406 := am_ (bl_ hg BK405.out : gb405 ≠ gb406); have NB406_405 := nb_ NB405_406; replace BK405 := am_ (bb_ BK405.out hb); replace HB := am_ (below_step (hb1_ HB.out GE405.out) hb); clear hb hbox hg; have hnb14 := NB406_405.out; have hnc14 := NB405_406.out; obtain ⟨hcz15_0, hcz15_1, hfz15_0, hfz15_1⟩ := bc2_ BK406.out) | ((with_reducible refine gate_callee (f := 46) rfl ?_); refine gl_ Try.func46 #[.agg #[.int .i64 a0, .int .i64 a1]] ?_; (with_reducible refine (impl_IvalOk.calls a0 a1 false _ A3.out).mono ?_); rintro e w16 ⟨rfl, hb⟩; refine ⟨_, rfl, ?_⟩; replace BK405 := am_ (blk_below (g := gb405) (o := .cells #[.int .i64 0, .int .i64 0] 25 (0, 0)) (by (with_reducible repeat (first | refine blk_drewN ?_ _ | refine blk_drew ?_ | refine blk_alloc ?_ _)); refine blk_far ?_ NB405_406.out _; (with_reducible repeat (first | refine blk_drewN ?_ _ | refine blk_drew ?_ | refine blk_alloc ?_ _)); refine blk_far ?_ NB405_406.out _; (with_reducible repeat (first | refine blk_drewN ?_ _ | refine blk_drew ?_ | refine blk_alloc ?_ _)); exact BK405.out) hb); replace BK406 := am_ (blk_below (g := gb406) (o := .cells #[.int .i64 a0, .int .i64 a1] 25 (0, 0)) (by (with_reducible repeat (first | refine blk_drewN ?_ _ | refine blk_drew ?_ | refine blk_alloc ?_ _)); refine blk_put (cs := #[.int .i64 a0, .int .i64 0]) ?_ 1 _ rfl; (with_reducible repeat (first | refine blk_drewN ?_ _ | refine blk_drew ?_ | refine blk_alloc ?_ _)); refine blk_put (cs := #[.int .i64 0, .int .i64 0]) ?_ 0 _ rfl; (with_reducible repeat (first | refine blk_drewN ?_ _ | refine blk_drew ?_ | refine blk_alloc ?_ _)); exact BK406.out) hb); replace HB := am_ (below_step (hb2_ HB.out GE405.out GE406.out) hb); (try clear hb); (try clear hb2); (try clear hk); (try clear hi); obtain ⟨hcz17_0, hcz17_1, hfz17_0, hfz17_1⟩ := bc2_ BK405.out))
  refine bodyPost_ret (results_ct rfl _ _ gb405 25 #[.int .i64 0, .int .i64 0] (0, 0) _ rfl (by (with_reducible repeat (first | refine blk_drewN ?_ _ | refine blk_drew ?_ | refine blk_alloc ?_ _)); refine blk_put (cs := #[.int .i64 0, .int .i64 0]) ?_ 1 _ rfl; (with_reducible repeat (first | refine blk_drewN ?_ _ | refine blk_drew ?_ | refine blk_alloc ?_ _)); refine blk_put (cs := #[.int .i64 0, .int .i64 0]) ?_ 0 _ rfl; (with_reducible repeat (first | refine blk_drewN ?_ _ | refine blk_drew ?_ | refine blk_alloc ?_ _)); exact BK405.out) Try.underlying25 rfl (by kernel_rfl)) rfl ?_
  exact ⟨er_, hb2_ HB.out GE405.out GE406.out⟩
def impl_Spread.f (a0_0 : Int) (a0_1 : Int) (a1 : Int) (a2 : Int) : Option (Int × Int × Bool) := (impl_IvalOk.f a0_0 a0_1).bind fun t410 => (if t410 = true then ((impl_in.f a1 0 2000000000000).bind fun t411 => (if t411 = true then ((impl_in.f a2 0 2000000000000).bind fun t412 => (if t412 = true then ((impl_ival.f (wrap64 (a0_0 - a1)) (wrap64 (a0_1 + a2))).bind fun bt413 => (some (bt413.1, bt413.2.1, bt413.2.2))) else (some (0, 0, false)))) else (some (0, 0, false)))) else (some (0, 0, false)))
set_option maxHeartbeats 8000000 in
set_option maxRecDepth 100000 in
theorem impl_Spread.calls (a0_0 : Int) (a0_1 : Int) (a1 : Int) (a2 : Int) (r1 : Int) (r2 : Int) (r3 : Bool) (w : World) (h : impl_Spread.f a0_0 a0_1 a1 a2 = some (r1, r2, r3)) :
  Calls Try.prog 87 #[.agg #[.int .i64 a0_0, .int .i64 a0_1], .int .i64 a1, .int .i64 a2] w fun e w' => e = .returned (.tuple #[.agg #[.int .i64 r1, .int .i64 r2], .bool r3]) ∧ Below w.heap.size w w' := by
 have hu25 := Try.underlying25
 have HB := am_ (Below.refl w.heap.size w)
 have H : ((impl_IvalOk.f a0_0 a0_1).bind fun t410 => (if t410 = true then ((impl_in.f a1 0 2000000000000).bind fun t411 => (if t411 = true then ((impl_in.f a2 0 2000000000000).bind fun t412 => (if t412 = true then ((impl_ival.f (wrap64 (a0_0 - a1)) (wrap64 (a0_1 + a2))).bind fun bt413 => (some (bt413.1, bt413.2.1, bt413.2.2))) else (some (0, 0, false)))) else (some (0, 0, false)))) else (some (0, 0, false)))) = some (r1, r2, r3) := h
 clear h
 replace H := Option.bind_eq_some_iff.mp H
 obtain ⟨t410, A40, H⟩ := H
 replace H : (if t410 = true then ((impl_in.f a1 0 2000000000000).bind fun t411 => (if t411 = true then ((impl_in.f a2 0 2000000000000).bind fun t412 => (if t412 = true then ((impl_ival.f (wrap64 (a0_0 - a1)) (wrap64 (a0_1 + a2))).bind fun bt413 => (some (bt413.1, bt413.2.1, bt413.2.2))) else (some (0, 0, false)))) else (some (0, 0, false)))) else (some (0, 0, false))) = some (r1, r2, r3) := H
 have A4 := Aside0.mk A40
 clear A40
 by_cases c5 : t410 = true
 ·subst c5
  have H1 : ((impl_in.f a1 0 2000000000000).bind fun t411 => (if t411 = true then ((impl_in.f a2 0 2000000000000).bind fun t412 => (if t412 = true then ((impl_ival.f (wrap64 (a0_0 - a1)) (wrap64 (a0_1 + a2))).bind fun bt413 => (some (bt413.1, bt413.2.1, bt413.2.2))) else (some (0, 0, false)))) else (some (0, 0, false)))) = some (r1, r2, r3) := by rw [if_pos rfl] at H; exact H
  clear H
  have H := H1
  clear H1
  replace H := Option.bind_eq_some_iff.mp H
  obtain ⟨t411, A60, H⟩ := H
  replace H : (if t411 = true then ((impl_in.f a2 0 2000000000000).bind fun t412 => (if t412 = true then ((impl_ival.f (wrap64 (a0_0 - a1)) (wrap64 (a0_1 + a2))).bind fun bt413 => (some (bt413.1, bt413.2.1, bt413.2.2))) else (some (0, 0, false)))) else (some (0, 0, false))) = some (r1, r2, r3) := H
  have A6 := Aside0.mk A60
  clear A60
  by_cases c7 : t411 = true
  ·subst c7
   have H1 : ((impl_in.f a2 0 2000000000000).bind fun t412 => (if t412 = true then ((impl_ival.f (wrap64 (a0_0 - a1)) (wrap64 (a0_1 + a2))).bind fun bt413 => (some (bt413.1, bt413.2.1, bt413.2.2))) else (some (0, 0, false)))) = some (r1, r2, r3) := by rw [if_pos rfl] at H; exact H
   clear H
   have H := H1
   clear H1
   replace H := Option.bind_eq_some_iff.mp H
   obtain ⟨t412, A80, H⟩ := H
   replace H : (if t412 = true then ((impl_ival.f (wrap64 (a0_0 - a1)) (wrap64 (a0_1 + a2))).bind fun bt413 => (some (bt413.1, bt413.2.1, bt413.2.2))) else (some (0, 0, false))) = some (r1, r2, r3) := H
   have A8 := Aside0.mk A80
   clear A80
   by_cases c9 : t412 = true
   ·subst c9
    have H1 : ((impl_ival.f (wrap64 (a0_0 - a1)) (wrap64 (a0_1 + a2))).bind fun bt413 => (some (bt413.1, bt413.2.1, bt413.2.2))) = some (r1, r2, r3) := by rw [if_pos rfl] at H; exact H
    clear H
    have H := H1
    clear H1
    replace H := Option.bind_eq_some_iff.mp H
    obtain ⟨⟨t413, t414, t415⟩, A100, H⟩ := H
    replace H : (some (t413, t414, t415)) = some (r1, r2, r3) := H
    have A10 := Aside0.mk A100
    clear A100
    simp only [Option.some.injEq, Prod.mk.injEq] at H
    obtain ⟨rfl, rfl, rfl⟩ := H
    go_enter Try.func87, Try.ntmps87
    go_wp2_with (first | ((with_reducible refine gate_dst (N := 3) rfl ?_); refine be_ (N := 3) (cs := #[.int .i64 a0_0, .int .i64 a0_1]) (t := 25) ?_; intro gb408 hg w11 hbox hb; have BK408 := am_ (hbox); have GW408 := am_ (hy_ hg (hb_ HB.out) : w.heap.size ≤ gb408); have GE408 := GW408; replace HB := am_ (below_step (hb_ HB.out) hb); clear hb hbox hg) | ((with_reducible refine gate_dst (N := 6) rfl ?_); refine be_ (N := 6) (cs := #[.int .i64 0, .int .i64 0]) (t := 25) ?_; intro gb409 hg w12 hbox hb; have BK409 := am_ (hbox); have GW409 := am_ (hy_ hg (hb1_ HB.out GE408.out) : w.heap.size ≤ gb409); have GE409 := GW409; have NB408_409 := am_ (bl_ hg BK408.out : gb408 ≠ gb409); have NB409_408 := nb_ NB408_409; replace BK408 := am_ (bb_ BK408.out hb); replace HB := am_ (below_step (hb1_ HB.out GE408.out) hb); clear hb hbox hg; have hnb13 := NB408_409.out; have hnc13 := NB409_408.out; obtain ⟨hcz14_0, hcz14_1, hfz14_0, hfz14_1⟩ := bc2_ BK408.out) | ((with_reducible refine gate_callee (f := 46) rfl ?_); refine gl_ Try.func46 #[.agg #[.int .i64 a0_0, .int .i64 a0_1]] ?_; (with_reducible refine (impl_IvalOk.calls a0_0 a0_1 true _ A4.out).mono ?_); rintro e w15 ⟨rfl, hb⟩; refine ⟨_, rfl, ?_⟩; replace BK408 := am_ (bb_ BK408.out hb); replace BK409 := am_ (bb_ BK409.out hb); replace HB := am_ (below_step (hb2_ HB.out GE408.out GE409.out) hb); (try clear hb); (try clear hb2); (try clear hk); (try clear hi)) | (go_at_call 48; (with_reducible refine (impl_in.calls a1 0 2000000000000 true _ A6.out).mono ?_); rintro e w' ⟨rfl, ⟨nd, rfl⟩⟩; (try (rw [drewN_self w15]; generalize hq_ : World.drewN w15 _ = w15; have n0_ : Aside0 (w15.heap[gb408]? = some (.cells #[.int .i64 a0_0, .int .i64 a0_1] 25 (0, 0))) := ⟨by rw [← hq_]; exact (bk_ BK408.out)⟩; have n1_ : Aside0 (w15.heap[gb409]? = some (.cells #[.int .i64 0, .int .i64 0] 25 (0, 0))) := ⟨by rw [← hq_]; exact (bk_ BK409.out)⟩; have n2_ : Aside0 (Below w.heap.size w w15) := ⟨by rw [← hq_]; exact (hb2_ HB.out GE408.out GE409.out)⟩; clear BK408 BK409 HB hq_; have BK408 := n0_; have BK409 := n1_; have HB := n2_; clear n0_ n1_ n2_))) | (go_at_call 48; (with_reducible refine (impl_in.calls a2 0 2000000000000 true _ A8.out).mono ?_); rintro e w' ⟨rfl, ⟨nd, rfl⟩⟩; (try (rw [drewN_self w15]; generalize hq_ : World.drewN w15 _ = w15; have n0_ : Aside0 (w15.heap[gb408]? = some (.cells #[.int .i64 a0_0, .int .i64 a0_1] 25 (0, 0))) := ⟨by rw [← hq_]; exact (bk_ BK408.out)⟩; have n1_ : Aside0 (w15.heap[gb409]? = some (.cells #[.int .i64 0, .int .i64 0] 25 (0, 0))) := ⟨by rw [← hq_]; exact (bk_ BK409.out)⟩; have n2_ : Aside0 (Below w.heap.size w w15) := ⟨by rw [← hq_]; exact (hb2_ HB.out GE408.out GE409.out)⟩; clear BK408 BK409 HB hq_; have BK408 := n0_; have BK409 := n1_; have HB := n2_; clear n0_ n1_ n2_)); obtain ⟨hcz16_0, hcz16_1, hfz16_0, hfz16_1⟩ := bc2_ BK408.out) | ((with_reducible refine gate_callee (f := 61) rfl ?_); refine gl_ Try.func61 #[.int .i64 (wrap64 (a0_0 - a1)), .int .i64 (wrap64 (a0_1 + a2))] ?_; (with_reducible refine (impl_ival.calls (wrap64 (a0_0 - a1)) (wrap64 (a0_1 + a2)) t413 t414 t415 _ A10.out).mono ?_); rintro e w17 ⟨rfl, hb⟩; refine ⟨_, rfl, ?_⟩; replace BK408 := am_ (bb_ BK408.out hb); replace BK409 := am_ (bb_ BK409.out hb); replace HB := am_ (below_step (hb2_ HB.out GE408.out GE409.out) hb); (try clear hb); (try clear hb2); (try clear hk); (try clear hi); obtain ⟨hcz18_0, hcz18_1, hfz18_0, hfz18_1⟩ := bc2_ BK409.out))
    refine bodyPost_ret (results_ct rfl _ _ gb409 25 #[.int .i64 t413, .int .i64 t414] (0, 0) _ rfl (by (with_reducible repeat (first | refine blk_drewN ?_ _ | refine blk_drew ?_ | refine blk_alloc ?_ _)); refine blk_put (cs := #[.int .i64 t413, .int .i64 0]) ?_ 1 _ rfl; (with_reducible repeat (first | refine blk_drewN ?_ _ | refine blk_drew ?_ | refine blk_alloc ?_ _)); refine blk_put (cs := #[.int .i64 0, .int .i64 0]) ?_ 0 _ rfl; (with_reducible repeat (first | refine blk_drewN ?_ _ | refine blk_drew ?_ | refine blk_alloc ?_ _)); exact BK409.out) Try.underlying25 rfl (by kernel_rfl)) rfl ?_
    exact ⟨er_, hb2_ HB.out GE408.out GE409.out⟩
   ·replace c9 := Bool.eq_false_iff.mpr c9
    subst c9
    have H1 : (some (0, 0, false)) = some (r1, r2, r3) := by rw [if_neg (show ¬ (false = true) by decide)] at H; exact H
    clear H
    have H := H1
    clear H1
    simp only [Option.some.injEq, Prod.mk.injEq] at H
    obtain ⟨rfl, rfl, rfl⟩ := H
    go_enter Try.func87, Try.ntmps87
    go_wp2_with (first | ((with_reducible refine gate_dst (N := 3) rfl ?_); refine be_ (N := 3) (cs := #[.int .i64 a0_0, .int .i64 a0_1]) (t := 25) ?_; intro gb408 hg w19 hbox hb; have BK408 := am_ (hbox); have GW408 := am_ (hy_ hg (hb_ HB.out) : w.heap.size ≤ gb408); have GE408 := GW408; replace HB := am_ (below_step (hb_ HB.out) hb); clear hb hbox hg) | ((with_reducible refine gate_dst (N := 6) rfl ?_); refine be_ (N := 6) (cs := #[.int .i64 0, .int .i64 0]) (t := 25) ?_; intro gb409 hg w20 hbox hb; have BK409 := am_ (hbox); have GW409 := am_ (hy_ hg (hb1_ HB.out GE408.out) : w.heap.size ≤ gb409); have GE409 := GW409; have NB408_409 := am_ (bl_ hg BK408.out : gb408 ≠ gb409); have NB409_408 := nb_ NB408_409; replace BK408 := am_ (bb_ BK408.out hb); replace HB := am_ (below_step (hb1_ HB.out GE408.out) hb); clear hb hbox hg; have hnb21 := NB408_409.out; have hnc21 := NB409_408.out; obtain ⟨hcz22_0, hcz22_1, hfz22_0, hfz22_1⟩ := bc2_ BK408.out) | ((with_reducible refine gate_callee (f := 46) rfl ?_); refine gl_ Try.func46 #[.agg #[.int .i64 a0_0, .int .i64 a0_1]] ?_; (with_reducible refine (impl_IvalOk.calls a0_0 a0_1 true _ A4.out).mono ?_); rintro e w23 ⟨rfl, hb⟩; refine ⟨_, rfl, ?_⟩; replace BK408 := am_ (bb_ BK408.out hb); replace BK409 := am_ (bb_ BK409.out hb); replace HB := am_ (below_step (hb2_ HB.out GE408.out GE409.out) hb); (try clear hb); (try clear hb2); (try clear hk); (try clear hi)) | (go_at_call 48; (with_reducible refine (impl_in.calls a1 0 2000000000000 true _ A6.out).mono ?_); rintro e w' ⟨rfl, ⟨nd, rfl⟩⟩; (try (rw [drewN_self w23]; generalize hq_ : World.drewN w23 _ = w23; have n0_ : Aside0 (w23.heap[gb408]? = some (.cells #[.int .i64 a0_0, .int .i64 a0_1] 25 (0, 0))) := ⟨by rw [← hq_]; exact (bk_ BK408.out)⟩; have n1_ : Aside0 (w23.heap[gb409]? = some (.cells #[.int .i64 0, .int .i64 0] 25 (0, 0))) := ⟨by rw [← hq_]; exact (bk_ BK409.out)⟩; have n2_ : Aside0 (Below w.heap.size w w23) := ⟨by rw [← hq_]; exact (hb2_ HB.out GE408.out GE409.out)⟩; clear BK408 BK409 HB hq_; have BK408 := n0_; have BK409 := n1_; have HB := n2_; clear n0_ n1_ n2_))) | (go_at_call 48; (with_reducible refine (impl_in.calls a2 0 2000000000000 false _ A8.out).mono ?_); rintro e w' ⟨rfl, ⟨nd, rfl⟩⟩; (try (rw [drewN_self w23]; generalize hq_ : World.drewN w23 _ = w23; have n0_ : Aside0 (w23.heap[gb408]? = some (.cells #[.int .i64 a0_0, .int .i64 a0_1] 25 (0, 0))) := ⟨by rw [← hq_]; exact (bk_ BK408.out)⟩; have n1_ : Aside0 (w23.heap[gb409]? = some (.cells #[.int .i64 0, .int .i64 0] 25 (0, 0))) := ⟨by rw [← hq_]; exact (bk_ BK409.out)⟩; have n2_ : Aside0 (Below w.heap.size w w23) := ⟨by rw [← hq_]; exact (hb2_ HB.out GE408.out GE409.out)⟩; clear BK408 BK409 HB hq_; have BK408 := n0_; have BK409 := n1_; have HB := n2_; clear n0_ n1_ n2_)); obtain ⟨hcz24_0, hcz24_1, hfz24_0, hfz24_1⟩ := bc2_ BK409.out))
    refine bodyPost_ret (results_ct rfl _ _ gb409 25 #[.int .i64 0, .int .i64 0] (0, 0) _ rfl (by (with_reducible repeat (first | refine blk_drewN ?_ _ | refine blk_drew ?_ | refine blk_alloc ?_ _)); refine blk_put (cs := #[.int .i64 0, .int .i64 0]) ?_ 1 _ rfl; (with_reducible repeat (first | refine blk_drewN ?_ _ | refine blk_drew ?_ | refine blk_alloc ?_ _)); refine blk_put (cs := #[.int .i64 0, .int .i64 0]) ?_ 0 _ rfl; (with_reducible repeat (first | refine blk_drewN ?_ _ | refine blk_drew ?_ | refine blk_alloc ?_ _)); exact BK409.out) Try.underlying25 rfl (by kernel_rfl)) rfl ?_
    exact ⟨er_, hb2_ HB.out GE408.out GE409.out⟩
  ·replace c7 := Bool.eq_false_iff.mpr c7
   subst c7
   have H1 : (some (0, 0, false)) = some (r1, r2, r3) := by rw [if_neg (show ¬ (false = true) by decide)] at H; exact H
   clear H
   have H := H1
   clear H1
   simp only [Option.some.injEq, Prod.mk.injEq] at H
   obtain ⟨rfl, rfl, rfl⟩ := H
   go_enter Try.func87, Try.ntmps87
   go_wp2_with (first | ((with_reducible refine gate_dst (N := 3) rfl ?_); refine be_ (N := 3) (cs := #[.int .i64 a0_0, .int .i64 a0_1]) (t := 25) ?_; intro gb408 hg w25 hbox hb; have BK408 := am_ (hbox); have GW408 := am_ (hy_ hg (hb_ HB.out) : w.heap.size ≤ gb408); have GE408 := GW408; replace HB := am_ (below_step (hb_ HB.out) hb); clear hb hbox hg) | ((with_reducible refine gate_dst (N := 6) rfl ?_); refine be_ (N := 6) (cs := #[.int .i64 0, .int .i64 0]) (t := 25) ?_; intro gb409 hg w26 hbox hb; have BK409 := am_ (hbox); have GW409 := am_ (hy_ hg (hb1_ HB.out GE408.out) : w.heap.size ≤ gb409); have GE409 := GW409; have NB408_409 := am_ (bl_ hg BK408.out : gb408 ≠ gb409); have NB409_408 := nb_ NB408_409; replace BK408 := am_ (bb_ BK408.out hb); replace HB := am_ (below_step (hb1_ HB.out GE408.out) hb); clear hb hbox hg; have hnb27 := NB408_409.out; have hnc27 := NB409_408.out; obtain ⟨hcz28_0, hcz28_1, hfz28_0, hfz28_1⟩ := bc2_ BK408.out) | ((with_reducible refine gate_callee (f := 46) rfl ?_); refine gl_ Try.func46 #[.agg #[.int .i64 a0_0, .int .i64 a0_1]] ?_; (with_reducible refine (impl_IvalOk.calls a0_0 a0_1 true _ A4.out).mono ?_); rintro e w29 ⟨rfl, hb⟩; refine ⟨_, rfl, ?_⟩; replace BK408 := am_ (bb_ BK408.out hb); replace BK409 := am_ (bb_ BK409.out hb); replace HB := am_ (below_step (hb2_ HB.out GE408.out GE409.out) hb); (try clear hb); (try clear hb2); (try clear hk); (try clear hi)) | (go_at_call 48; (with_reducible refine (impl_in.calls a1 0 2000000000000 false _ A6.out).mono ?_); rintro e w' ⟨rfl, ⟨nd, rfl⟩⟩; (try (rw [drewN_self w29]; generalize hq_ : World.drewN w29 _ = w29; have n0_ : Aside0 (w29.heap[gb408]? = some (.cells #[.int .i64 a0_0, .int .i64 a0_1] 25 (0, 0))) := ⟨by rw [← hq_]; exact (bk_ BK408.out)⟩; have n1_ : Aside0 (w29.heap[gb409]? = some (.cells #[.int .i64 0, .int .i64 0] 25 (0, 0))) := ⟨by rw [← hq_]; exact (bk_ BK409.out)⟩; have n2_ : Aside0 (Below w.heap.size w w29) := ⟨by rw [← hq_]; exact (hb2_ HB.out GE408.out GE409.out)⟩; clear BK408 BK409 HB hq_; have BK408 := n0_; have BK409 := n1_; have HB := n2_; clear n0_ n1_ n2_)); obtain ⟨hcz30_0, hcz30_1, hfz30_0, hfz30_1⟩ := bc2_ BK409.out))
   refine bodyPost_ret (results_ct rfl _ _ gb409 25 #[.int .i64 0, .int .i64 0] (0, 0) _ rfl (by (with_reducible repeat (first | refine blk_drewN ?_ _ | refine blk_drew ?_ | refine blk_alloc ?_ _)); refine blk_put (cs := #[.int .i64 0, .int .i64 0]) ?_ 1 _ rfl; (with_reducible repeat (first | refine blk_drewN ?_ _ | refine blk_drew ?_ | refine blk_alloc ?_ _)); refine blk_put (cs := #[.int .i64 0, .int .i64 0]) ?_ 0 _ rfl; (with_reducible repeat (first | refine blk_drewN ?_ _ | refine blk_drew ?_ | refine blk_alloc ?_ _)); exact BK409.out) Try.underlying25 rfl (by kernel_rfl)) rfl ?_
   exact ⟨er_, hb2_ HB.out GE408.out GE409.out⟩
 ·replace c5 := Bool.eq_false_iff.mpr c5
  subst c5
  have H1 : (some (0, 0, false)) = some (r1, r2, r3) := by rw [if_neg (show ¬ (false = true) by decide)] at H; exact H
  clear H
  have H := H1
  clear H1
  simp only [Option.some.injEq, Prod.mk.injEq] at H
  obtain ⟨rfl, rfl, rfl⟩ := H
  go_enter Try.func87, Try.ntmps87
  go_wp2_with (first | ((with_reducible refine gate_dst (N := 3) rfl ?_); refine be_ (N := 3) (cs := #[.int .i64 a0_0, .int .i64 a0_1]) (t := 25) ?_; intro gb408 hg w31 hbox hb; have BK408 := am_ (hbox); have GW408 := am_ (hy_ hg (hb_ HB.out) : w.heap.size ≤ gb408); have GE408 := GW408; replace HB := am_ (below_step (hb_ HB.out) hb); clear hb hbox hg) | ((with_reducible refine gate_dst (N := 6) rfl ?_); refine be_ (N := 6) (cs := #[.int .i64 0, .int .i64 0]) (t := 25) ?_; intro gb409 hg w32 hbox hb; have BK409 := am_ (hbox); have GW409 := am_ (hy_ hg (hb1_ HB.out GE408.out) : w.heap.size ≤ gb409); have GE409 := GW409; have NB408_409 := am_ (bl_ hg BK408.out : gb408 ≠ gb409); have NB409_408 := nb_ NB408_409; replace BK408 := am_ (bb_ BK408.out hb); replace HB := am_ (below_step (hb1_ HB.out GE408.out) hb); clear hb hbox hg; have hnb33 := NB408_409.out; have hnc33 := NB409_408.out; obtain ⟨hcz34_0, hcz34_1, hfz34_0, hfz34_1⟩ := bc2_ BK408.out) | ((with_reducible refine gate_callee (f := 46) rfl ?_); refine gl_ Try.func46 #[.agg #[.int .i64 a0_0, .int .i64 a0_1]] ?_; (with_reducible refine (impl_IvalOk.calls a0_0 a0_1 false _ A4.out).mono ?_); rintro e w35 ⟨rfl, hb⟩; refine ⟨_, rfl, ?_⟩; replace BK408 := am_ (bb_ BK408.out hb); replace BK409 := am_ (bb_ BK409.out hb); replace HB := am_ (below_step (hb2_ HB.out GE408.out GE409.out) hb); (try clear hb); (try clear hb2); (try clear hk); (try clear hi); obtain ⟨hcz36_0, hcz36_1, hfz36_0, hfz36_1⟩ := bc2_ BK409.out))
  refine bodyPost_ret (results_ct rfl _ _ gb409 25 #[.int .i64 0, .int .i64 0] (0, 0) _ rfl (by (with_reducible repeat (first | refine blk_drewN ?_ _ | refine blk_drew ?_ | refine blk_alloc ?_ _)); refine blk_put (cs := #[.int .i64 0, .int .i64 0]) ?_ 1 _ rfl; (with_reducible repeat (first | refine blk_drewN ?_ _ | refine blk_drew ?_ | refine blk_alloc ?_ _)); refine blk_put (cs := #[.int .i64 0, .int .i64 0]) ?_ 0 _ rfl; (with_reducible repeat (first | refine blk_drewN ?_ _ | refine blk_drew ?_ | refine blk_alloc ?_ _)); exact BK409.out) Try.underlying25 rfl (by kernel_rfl)) rfl ?_
  exact ⟨er_, hb2_ HB.out GE408.out GE409.out⟩
def impl_GateSpan.f (a0_0 : Int) (a0_1 : Int) (a1_0 : Int) (a1_1 : Int) (a2 : Int) : Option (Int × Int × Bool) := (impl_MostTime.f a1_0 a1_1 a2).bind fun bt419 => (if bt419.2 = true then (if a2 < 1 then (some (0, 0, false)) else ((impl_Spread.f a0_0 a0_1 0 bt419.1).bind fun bt421 => (some (bt421.1, bt421.2.1, bt421.2.2)))) else (some (0, 0, false)))
set_option maxHeartbeats 8000000 in
set_option maxRecDepth 100000 in
theorem impl_GateSpan.calls (a0_0 : Int) (a0_1 : Int) (a1_0 : Int) (a1_1 : Int) (a2 : Int) (r1 : Int) (r2 : Int) (r3 : Bool) (w : World) (h : impl_GateSpan.f a0_0 a0_1 a1_0 a1_1 a2 = some (r1, r2, r3)) :
  Calls Try.prog 50 #[.agg #[.int .i64 a0_0, .int .i64 a0_1], .agg #[.int .i64 a1_0, .int .i64 a1_1], .int .i64 a2] w fun e w' => e = .returned (.tuple #[.agg #[.int .i64 r1, .int .i64 r2], .bool r3]) ∧ Below w.heap.size w w' := by
 have hu25 := Try.underlying25
 have hu27 := Try.underlying27
 have HB := am_ (Below.refl w.heap.size w)
 have H : ((impl_MostTime.f a1_0 a1_1 a2).bind fun bt419 => (if bt419.2 = true then (if a2 < 1 then (some (0, 0, false)) else ((impl_Spread.f a0_0 a0_1 0 bt419.1).bind fun bt421 => (some (bt421.1, bt421.2.1, bt421.2.2)))) else (some (0, 0, false)))) = some (r1, r2, r3) := h
 clear h
 replace H := Option.bind_eq_some_iff.mp H
 obtain ⟨⟨t419, t420⟩, A40, H⟩ := H
 replace H : (if t420 = true then (if a2 < 1 then (some (0, 0, false)) else ((impl_Spread.f a0_0 a0_1 0 t419).bind fun bt421 => (some (bt421.1, bt421.2.1, bt421.2.2)))) else (some (0, 0, false))) = some (r1, r2, r3) := H
 have A4 := Aside0.mk A40
 clear A40
 by_cases c5 : t420 = true
 ·subst c5
  have H1 : (if a2 < 1 then (some (0, 0, false)) else ((impl_Spread.f a0_0 a0_1 0 t419).bind fun bt421 => (some (bt421.1, bt421.2.1, bt421.2.2)))) = some (r1, r2, r3) := by rw [if_pos rfl] at H; exact H
  clear H
  have H := H1
  clear H1
  by_cases c6 : a2 < 1
  ·rw [if_pos c6] at H
   have c6b0 : decide (a2 < 1) = true := decide_eq_true c6
   clear c6
   simp only [Option.some.injEq, Prod.mk.injEq] at H
   obtain ⟨rfl, rfl, rfl⟩ := H
   go_enter Try.func50, Try.ntmps50
   go_wp2_with (first | ((with_reducible refine gate_dst (N := 3) rfl ?_); refine be_ (N := 3) (cs := #[.int .i64 a0_0, .int .i64 a0_1]) (t := 25) ?_; intro gb416 hg w7 hbox hb; have BK416 := am_ (hbox); have GW416 := am_ (hy_ hg (hb_ HB.out) : w.heap.size ≤ gb416); have GE416 := GW416; replace HB := am_ (below_step (hb_ HB.out) hb); clear hb hbox hg) | ((with_reducible refine gate_dst (N := 4) rfl ?_); refine be_ (N := 4) (cs := #[.int .i64 a1_0, .int .i64 a1_1]) (t := 27) ?_; intro gb417 hg w8 hbox hb; have BK417 := am_ (hbox); have GW417 := am_ (hy_ hg (hb1_ HB.out GE416.out) : w.heap.size ≤ gb417); have GE417 := GW417; have NB416_417 := am_ (bl_ hg BK416.out : gb416 ≠ gb417); have NB417_416 := nb_ NB416_417; replace BK416 := am_ (bb_ BK416.out hb); replace HB := am_ (below_step (hb1_ HB.out GE416.out) hb); clear hb hbox hg) | ((with_reducible refine gate_dst (N := 6) rfl ?_); refine be_ (N := 6) (cs := #[.int .i64 0, .int .i64 0]) (t := 25) ?_; intro gb418 hg w9 hbox hb; have BK418 := am_ (hbox); have GW418 := am_ (hy_ hg (hb2_ HB.out GE416.out GE417.out) : w.heap.size ≤ gb418); have GE418 := GW418; have NB416_418 := am_ (bl_ hg BK416.out : gb416 ≠ gb418); have NB418_416 := nb_ NB416_418; have NB417_418 := am_ (bl_ hg BK417.out : gb417 ≠ gb418); have NB418_417 := nb_ NB417_418; replace BK416 := am_ (bb_ BK416.out hb); replace BK417 := am_ (bb_ BK417.out hb); replace HB := am_ (below_step (hb2_ HB.out GE416.out GE417.out) hb); clear hb hbox hg; have hnb10 := NB417_416.out; have hnc10 := NB416_417.out; have hnb11 := NB417_418.out; have hnc11 := NB418_417.out; obtain ⟨hcz12_0, hcz12_1, hfz12_0, hfz12_1⟩ := bc2_ BK417.out) | ((with_reducible refine gate_callee (f := 71) rfl ?_); refine gl_ Try.func71 #[.agg #[.int .i64 a1_0, .int .i64 a1_1], .int .i64 a2] ?_; (with_reducible refine (impl_MostTime.calls a1_0 a1_1 a2 t419 true _ A4.out).mono ?_); rintro e w13 ⟨rfl, hb⟩; refine ⟨_, rfl, ?_⟩; replace BK416 := am_ (bb_ BK416.out hb); replace BK417 := am_ (bb_ BK417.out hb); replace BK418 := am_ (bb_ BK418.out hb); replace HB := am_ (below_step (hb3_ HB.out GE416.out GE417.out GE418.out) hb); (try clear hb); (try clear hb2); (try clear hk); (try clear hi); have hnb14 := NB418_416.out; have hnc14 := NB416_418.out; obtain ⟨hcz15_0, hcz15_1, hfz15_0, hfz15_1⟩ := bc2_ BK418.out))
   refine bodyPost_ret (results_ct rfl _ _ gb418 25 #[.int .i64 0, .int .i64 0] (0, 0) _ rfl (by (with_reducible repeat (first | refine blk_drewN ?_ _ | refine blk_drew ?_ | refine blk_alloc ?_ _)); refine blk_put (cs := #[.int .i64 0, .int .i64 0]) ?_ 1 _ rfl; (with_reducible repeat (first | refine blk_drewN ?_ _ | refine blk_drew ?_ | refine blk_alloc ?_ _)); refine blk_put (cs := #[.int .i64 0, .int .i64 0]) ?_ 0 _ rfl; (with_reducible repeat (first | refine blk_drewN ?_ _ | refine blk_drew ?_ | refine blk_alloc ?_ _)); exact BK418.out) Try.underlying25 rfl (by kernel_rfl)) rfl ?_
   exact ⟨er_, hb3_ HB.out GE416.out GE417.out GE418.out⟩
  ·rw [if_neg c6] at H
   have c6b0 : decide (a2 < 1) = false := decide_eq_false c6
   clear c6
   replace H := Option.bind_eq_some_iff.mp H
   obtain ⟨⟨t421, t422, t423⟩, A160, H⟩ := H
   replace H : (some (t421, t422, t423)) = some (r1, r2, r3) := H
   have A16 := Aside0.mk A160
   clear A160
   simp only [Option.some.injEq, Prod.mk.injEq] at H
   obtain ⟨rfl, rfl, rfl⟩ := H
   go_enter Try.func50, Try.ntmps50
   go_wp2_with (first | ((with_reducible refine gate_dst (N := 3) rfl ?_); refine be_ (N := 3) (cs := #[.int .i64 a0_0, .int .i64 a0_1]) (t := 25) ?_; intro gb416 hg w17 hbox hb; have BK416 := am_ (hbox); have GW416 := am_ (hy_ hg (hb_ HB.out) : w.heap.size ≤ gb416); have GE416 := GW416; replace HB := am_ (below_step (hb_ HB.out) hb); clear hb hbox hg) | ((with_reducible refine gate_dst (N := 4) rfl ?_); refine be_ (N := 4) (cs := #[.int .i64 a1_0, .int .i64 a1_1]) (t := 27) ?_; intro gb417 hg w18 hbox hb; have BK417 := am_ (hbox); have GW417 := am_ (hy_ hg (hb1_ HB.out GE416.out) : w.heap.size ≤ gb417); have GE417 := GW417; have NB416_417 := am_ (bl_ hg BK416.out : gb416 ≠ gb417); have NB417_416 := nb_ NB416_417; replace BK416 := am_ (bb_ BK416.out hb); replace HB := am_ (below_step (hb1_ HB.out GE416.out) hb); clear hb hbox hg) | ((with_reducible refine gate_dst (N := 6) rfl ?_); refine be_ (N := 6) (cs := #[.int .i64 0, .int .i64 0]) (t := 25) ?_; intro gb418 hg w19 hbox hb; have BK418 := am_ (hbox); have GW418 := am_ (hy_ hg (hb2_ HB.out GE416.out GE417.out) : w.heap.size ≤ gb418); have GE418 := GW418; have NB416_418 := am_ (bl_ hg BK416.out : gb416 ≠ gb418); have NB418_416 := nb_ NB416_418; have NB417_418 := am_ (bl_ hg BK417.out : gb417 ≠ gb418); have NB418_417 := nb_ NB417_418; replace BK416 := am_ (bb_ BK416.out hb); replace BK417 := am_ (bb_ BK417.out hb); replace HB := am_ (below_step (hb2_ HB.out GE416.out GE417.out) hb); clear hb hbox hg; have hnb20 := NB417_416.out; have hnc20 := NB416_417.out; have hnb21 := NB417_418.out; have hnc21 := NB418_417.out; obtain ⟨hcz22_0, hcz22_1, hfz22_0, hfz22_1⟩ := bc2_ BK417.out) | ((with_reducible refine gate_callee (f := 71) rfl ?_); refine gl_ Try.func71 #[.agg #[.int .i64 a1_0, .int .i64 a1_1], .int .i64 a2] ?_; (with_reducible refine (impl_MostTime.calls a1_0 a1_1 a2 t419 true _ A4.out).mono ?_); rintro e w23 ⟨rfl, hb⟩; refine ⟨_, rfl, ?_⟩; replace BK416 := am_ (bb_ BK416.out hb); replace BK417 := am_ (bb_ BK417.out hb); replace BK418 := am_ (bb_ BK418.out hb); replace HB := am_ (below_step (hb3_ HB.out GE416.out GE417.out GE418.out) hb); (try clear hb); (try clear hb2); (try clear hk); (try clear hi); have hnb24 := NB416_418.out; have hnc24 := NB418_416.out; obtain ⟨hcz25_0, hcz25_1, hfz25_0, hfz25_1⟩ := bc2_ BK416.out) | ((with_reducible refine gate_callee (f := 87) rfl ?_); refine gl_ Try.func87 #[.agg #[.int .i64 a0_0, .int .i64 a0_1], .int .i64 0, .int .i64 t419] ?_; (with_reducible refine (impl_Spread.calls a0_0 a0_1 0 t419 t421 t422 t423 _ A16.out).mono ?_); rintro e w26 ⟨rfl, hb⟩; refine ⟨_, rfl, ?_⟩; replace BK416 := am_ (bb_ BK416.out hb); replace BK417 := am_ (bb_ BK417.out hb); replace BK418 := am_ (bb_ BK418.out hb); replace HB := am_ (below_step (hb3_ HB.out GE416.out GE417.out GE418.out) hb); (try clear hb); (try clear hb2); (try clear hk); (try clear hi); obtain ⟨hcz27_0, hcz27_1, hfz27_0, hfz27_1⟩ := bc2_ BK418.out))
   refine bodyPost_ret (results_ct rfl _ _ gb418 25 #[.int .i64 t421, .int .i64 t422] (0, 0) _ rfl (by (with_reducible repeat (first | refine blk_drewN ?_ _ | refine blk_drew ?_ | refine blk_alloc ?_ _)); refine blk_put (cs := #[.int .i64 t421, .int .i64 0]) ?_ 1 _ rfl; (with_reducible repeat (first | refine blk_drewN ?_ _ | refine blk_drew ?_ | refine blk_alloc ?_ _)); refine blk_put (cs := #[.int .i64 0, .int .i64 0]) ?_ 0 _ rfl; (with_reducible repeat (first | refine blk_drewN ?_ _ | refine blk_drew ?_ | refine blk_alloc ?_ _)); exact BK418.out) Try.underlying25 rfl (by kernel_rfl)) rfl ?_
   exact ⟨er_, hb3_ HB.out GE416.out GE417.out GE418.out⟩
 ·replace c5 := Bool.eq_false_iff.mpr c5
  subst c5
  have H1 : (some (0, 0, false)) = some (r1, r2, r3) := by rw [if_neg (show ¬ (false = true) by decide)] at H; exact H
  clear H
  have H := H1
  clear H1
  simp only [Option.some.injEq, Prod.mk.injEq] at H
  obtain ⟨rfl, rfl, rfl⟩ := H
  go_enter Try.func50, Try.ntmps50
  go_wp2_with (first | ((with_reducible refine gate_dst (N := 3) rfl ?_); refine be_ (N := 3) (cs := #[.int .i64 a0_0, .int .i64 a0_1]) (t := 25) ?_; intro gb416 hg w28 hbox hb; have BK416 := am_ (hbox); have GW416 := am_ (hy_ hg (hb_ HB.out) : w.heap.size ≤ gb416); have GE416 := GW416; replace HB := am_ (below_step (hb_ HB.out) hb); clear hb hbox hg) | ((with_reducible refine gate_dst (N := 4) rfl ?_); refine be_ (N := 4) (cs := #[.int .i64 a1_0, .int .i64 a1_1]) (t := 27) ?_; intro gb417 hg w29 hbox hb; have BK417 := am_ (hbox); have GW417 := am_ (hy_ hg (hb1_ HB.out GE416.out) : w.heap.size ≤ gb417); have GE417 := GW417; have NB416_417 := am_ (bl_ hg BK416.out : gb416 ≠ gb417); have NB417_416 := nb_ NB416_417; replace BK416 := am_ (bb_ BK416.out hb); replace HB := am_ (below_step (hb1_ HB.out GE416.out) hb); clear hb hbox hg) | ((with_reducible refine gate_dst (N := 6) rfl ?_); refine be_ (N := 6) (cs := #[.int .i64 0, .int .i64 0]) (t := 25) ?_; intro gb418 hg w30 hbox hb; have BK418 := am_ (hbox); have GW418 := am_ (hy_ hg (hb2_ HB.out GE416.out GE417.out) : w.heap.size ≤ gb418); have GE418 := GW418; have NB416_418 := am_ (bl_ hg BK416.out : gb416 ≠ gb418); have NB418_416 := nb_ NB416_418; have NB417_418 := am_ (bl_ hg BK417.out : gb417 ≠ gb418); have NB418_417 := nb_ NB417_418; replace BK416 := am_ (bb_ BK416.out hb); replace BK417 := am_ (bb_ BK417.out hb); replace HB := am_ (below_step (hb2_ HB.out GE416.out GE417.out) hb); clear hb hbox hg; have hnb31 := NB417_416.out; have hnc31 := NB416_417.out; have hnb32 := NB417_418.out; have hnc32 := NB418_417.out; obtain ⟨hcz33_0, hcz33_1, hfz33_0, hfz33_1⟩ := bc2_ BK417.out) | ((with_reducible refine gate_callee (f := 71) rfl ?_); refine gl_ Try.func71 #[.agg #[.int .i64 a1_0, .int .i64 a1_1], .int .i64 a2] ?_; (with_reducible refine (impl_MostTime.calls a1_0 a1_1 a2 t419 false _ A4.out).mono ?_); rintro e w34 ⟨rfl, hb⟩; refine ⟨_, rfl, ?_⟩; replace BK416 := am_ (bb_ BK416.out hb); replace BK417 := am_ (bb_ BK417.out hb); replace BK418 := am_ (bb_ BK418.out hb); replace HB := am_ (below_step (hb3_ HB.out GE416.out GE417.out GE418.out) hb); (try clear hb); (try clear hb2); (try clear hk); (try clear hi); have hnb35 := NB418_416.out; have hnc35 := NB416_418.out; obtain ⟨hcz36_0, hcz36_1, hfz36_0, hfz36_1⟩ := bc2_ BK418.out))
  refine bodyPost_ret (results_ct rfl _ _ gb418 25 #[.int .i64 0, .int .i64 0] (0, 0) _ rfl (by (with_reducible repeat (first | refine blk_drewN ?_ _ | refine blk_drew ?_ | refine blk_alloc ?_ _)); refine blk_put (cs := #[.int .i64 0, .int .i64 0]) ?_ 1 _ rfl; (with_reducible repeat (first | refine blk_drewN ?_ _ | refine blk_drew ?_ | refine blk_alloc ?_ _)); refine blk_put (cs := #[.int .i64 0, .int .i64 0]) ?_ 0 _ rfl; (with_reducible repeat (first | refine blk_drewN ?_ _ | refine blk_drew ?_ | refine blk_alloc ?_ _)); exact BK418.out) Try.underlying25 rfl (by kernel_rfl)) rfl ?_
  exact ⟨er_, hb3_ HB.out GE416.out GE417.out GE418.out⟩
def impl_isSlot.f (k : Nat) (a0_0 : Int) (a0_1 : Int) (l0_2 : List (S42)) (a1 : Int) : Option (Bool) := (impl_PlanOk.f k a0_0 a0_1 l0_2).bind fun t425 => (if t425 = true then ((impl_in.f a1 0 (wrap64 ((l0_2.length : Int) - 1))).bind fun t426 => (some t426)) else (some false))
set_option maxHeartbeats 8000000 in
set_option maxRecDepth 100000 in
theorem impl_isSlot.calls (k : Nat) (a0_0 : Int) (a0_1 : Int) (A0_2 : Option Addr) (c0_2 : Nat) (l0_2 : List (S42)) (a1 : Int) (r : Bool) (w : World) (hr0_2 : Kd.C k42 w A0_2 l0_2.length l0_2) (hc0_2 : l0_2.length ≤ c0_2) (h : impl_isSlot.f k a0_0 a0_1 l0_2 a1 = some r) :
  Calls Try.prog 58 #[.agg #[.int .i64 a0_0, .int .i64 a0_1, .slice A0_2 l0_2.length c0_2], .int .i64 a1] w fun e w' => e = .returned (.bool r) ∧ Below w.heap.size w w' := by
 have hu30 := Try.underlying30
 have HR0_2 := Aside0.mk hr0_2
 have HC0_2 := Aside0.mk hc0_2
 clear hr0_2 hc0_2
 have HB := am_ (Below.refl w.heap.size w)
 have H : ((impl_PlanOk.f k a0_0 a0_1 l0_2).bind fun t425 => (if t425 = true then ((impl_in.f a1 0 (wrap64 ((l0_2.length : Int) - 1))).bind fun t426 => (some t426)) else (some false))) = some r := h
 clear h
 replace H := Option.bind_eq_some_iff.mp H
 obtain ⟨t425, A30, H⟩ := H
 replace H : (if t425 = true then ((impl_in.f a1 0 (wrap64 ((l0_2.length : Int) - 1))).bind fun t426 => (some t426)) else (some false)) = some r := H
 have A3 := Aside0.mk A30
 clear A30
 by_cases c4 : t425 = true
 ·subst c4
  have H1 : ((impl_in.f a1 0 (wrap64 ((l0_2.length : Int) - 1))).bind fun t426 => (some t426)) = some r := by rw [if_pos rfl] at H; exact H
  clear H
  have H := H1
  clear H1
  replace H := Option.bind_eq_some_iff.mp H
  obtain ⟨t426, A50, H⟩ := H
  replace H : (some t426) = some r := H
  have A5 := Aside0.mk A50
  clear A50
  obtain rfl := Option.some.inj H
  go_enter Try.func58, Try.ntmps58
  go_wp2_with (first | ((with_reducible refine gate_dst (N := 2) rfl ?_); (try (refine gate_guard (by rfl) ?_; dsimp only)); refine be_ (N := 2) (cs := #[.int .i64 a0_0, .int .i64 a0_1, .slice A0_2 l0_2.length c0_2]) (t := 30) ?_; intro gb424 hg w6 hbox hb; have BK424 := am_ (hbox); have GW424 := am_ (hy_ hg (hb_ HB.out) : w.heap.size ≤ gb424); have GE424 := GW424; replace HB := am_ (below_step (hb_ HB.out) hb); clear hb hbox hg; obtain ⟨hcz7_0, hcz7_1, hcz7_2, hfz7_0, hfz7_1, hfz7_2⟩ := bc3_ BK424.out) | ((with_reducible refine gate_callee (f := 34) rfl ?_); refine gl_ Try.func34 #[.agg #[.int .i64 a0_0, .int .i64 a0_1, .slice A0_2 l0_2.length c0_2]] ?_; (with_reducible refine (impl_PlanOk.calls k a0_0 a0_1 _ _ l0_2 true _ ?side1 ?side2 A3.out).mono ?_); (case side1 => exact kc_ (Kd.C_below HR0_2.out HB.out)); (case side2 => exact HC0_2.out); rintro e w8 ⟨rfl, hb⟩; refine ⟨_, rfl, ?_⟩; replace BK424 := am_ (bb_ BK424.out hb); replace HB := am_ (below_step (hb1_ HB.out GE424.out) hb); (try clear hb); (try clear hb2); (try clear hk); (try clear hi); obtain ⟨hcz9_0, hcz9_1, hcz9_2, hfz9_0, hfz9_1, hfz9_2⟩ := bc3_ BK424.out) | (go_at_call 48; (with_reducible refine (impl_in.calls a1 0 (wrap64 ((l0_2.length : Int) - 1)) t426 _ A5.out).mono ?_); rintro e w' ⟨rfl, ⟨nd, rfl⟩⟩))
  go_ret
  exact ⟨er_, hb1_ HB.out GE424.out⟩
 ·replace c4 := Bool.eq_false_iff.mpr c4
  subst c4
  have H1 : (some false) = some r := by rw [if_neg (show ¬ (false = true) by decide)] at H; exact H
  clear H
  have H := H1
  clear H1
  obtain rfl := Option.some.inj H
  go_enter Try.func58, Try.ntmps58
  go_wp2_with (first | ((with_reducible refine gate_dst (N := 2) rfl ?_); (try (refine gate_guard (by rfl) ?_; dsimp only)); refine be_ (N := 2) (cs := #[.int .i64 a0_0, .int .i64 a0_1, .slice A0_2 l0_2.length c0_2]) (t := 30) ?_; intro gb424 hg w10 hbox hb; have BK424 := am_ (hbox); have GW424 := am_ (hy_ hg (hb_ HB.out) : w.heap.size ≤ gb424); have GE424 := GW424; replace HB := am_ (below_step (hb_ HB.out) hb); clear hb hbox hg; obtain ⟨hcz11_0, hcz11_1, hcz11_2, hfz11_0, hfz11_1, hfz11_2⟩ := bc3_ BK424.out) | ((with_reducible refine gate_callee (f := 34) rfl ?_); refine gl_ Try.func34 #[.agg #[.int .i64 a0_0, .int .i64 a0_1, .slice A0_2 l0_2.length c0_2]] ?_; (with_reducible refine (impl_PlanOk.calls k a0_0 a0_1 _ _ l0_2 false _ ?side1 ?side2 A3.out).mono ?_); (case side1 => exact kc_ (Kd.C_below HR0_2.out HB.out)); (case side2 => exact HC0_2.out); rintro e w12 ⟨rfl, hb⟩; refine ⟨_, rfl, ?_⟩; replace BK424 := am_ (bb_ BK424.out hb); replace HB := am_ (below_step (hb1_ HB.out GE424.out) hb); (try clear hb); (try clear hb2); (try clear hk); (try clear hi)))
  go_ret
  exact ⟨er_, hb1_ HB.out GE424.out⟩
def impl_Plan_from.l0 : Nat → Int → List (S42) → Int → Int → Int → Int → List (S42) → Option (Int)
 | 0, _, _, _, _, _, _, _ => none
 | k + 1, x5, x11, x12, x13, x428000, x428001, x428002 => if x13 < x12 then (if 0 ≤ x13 then (if x13 < (x11.length : Int) then (impl_Plan_from.l0 k (wrap64 (x5 + (wrap64 (((rd_T42 x11 x13).f1) + x428001)))) x11 x12 (wrap64 (x13 + 1)) x428000 x428001 x428002) else (none)) else (none)) else (some x5)
def impl_Plan_from.f (k : Nat) (a0_0 : Int) (a0_1 : Int) (l0_2 : List (S42)) (a1 : Int) : Option (Int) := if 0 ≤ a1 then (if a1 ≤ (l0_2.length : Int) then ((some (l0_2.take (a1 : Int).toNat : List (S42))).bind fun y428 => (impl_Plan_from.l0 k 0 y428 (y428.length : Int) 0 a0_0 a0_1 l0_2)) else (none)) else (none)
set_option maxHeartbeats 8000000 in
set_option maxRecDepth 100000 in
theorem impl_Plan_from.calls (k : Nat) (a0_0 : Int) (a0_1 : Int) (A0_2 : Option Addr) (c0_2 : Nat) (l0_2 : List (S42)) (a1 : Int) (r : Int) (w : World) (hr0_2 : Kd.C k42 w A0_2 l0_2.length l0_2) (hc0_2 : l0_2.length ≤ c0_2) (h : impl_Plan_from.f k a0_0 a0_1 l0_2 a1 = some r) :
  Calls Try.prog 60 #[.agg #[.int .i64 a0_0, .int .i64 a0_1, .slice A0_2 l0_2.length c0_2], .int .i64 a1] w fun e w' => e = .returned (.int .i64 r) ∧ Below w.heap.size w w' := by
 have hu30 := Try.underlying30
 have hu42 := Try.underlying42
 have HR0_2 := Aside0.mk hr0_2
 have HC0_2 := Aside0.mk hc0_2
 clear hr0_2 hc0_2
 have HB := am_ (Below.refl w.heap.size w)
 have H : (if 0 ≤ a1 then (if a1 ≤ (l0_2.length : Int) then ((some (l0_2.take (a1 : Int).toNat : List (S42))).bind fun y428 => (impl_Plan_from.l0 k 0 y428 (y428.length : Int) 0 a0_0 a0_1 l0_2)) else (none)) else (none)) = some r := h
 clear h
 by_cases c3 : 0 ≤ a1
 ·rw [if_pos c3] at H
  have c3b0 := eq_true c3
  have c3b1 : decide (0 ≤ a1) = true := decide_eq_true c3
  clear c3
  by_cases c4 : a1 ≤ (l0_2.length : Int)
  ·rw [if_pos c4] at H
   have c4b0 := eq_true c4
   have c4b1 : decide (a1 ≤ (l0_2.length : Int)) = true := decide_eq_true c4
   clear c4
   obtain ⟨y428, hy428⟩ : ∃ y_ : List (S42), y_ = (l0_2.take (a1 : Int).toNat) := ⟨_, rfl⟩
   replace H : (impl_Plan_from.l0 k 0 y428 (y428.length : Int) 0 a0_0 a0_1 l0_2) = some r := by first | (rw [hy428]; with_reducible exact H) | (have H2_ := (Option.bind_some _ _).symm.trans H; rw [hy428]; with_reducible exact H2_) | (have H2_ := (Option.bind_some _ _).symm.trans H; with_reducible exact H2_) | with_reducible exact H | (rw [hy428]; exact H) | exact H
   have Ny428 := Aside0.mk hy428
   clear hy428
   have H' := Aside0.mk H
   clear H
   go_enter Try.func60, Try.ntmps60
   go_wp2_with (first | ((with_reducible refine gate_dst (N := 2) rfl ?_); refine be_ (N := 2) (cs := #[.int .i64 a0_0, .int .i64 a0_1, .slice A0_2 l0_2.length c0_2]) (t := 30) ?_; intro gb427 hg w5 hbox hb; have BK427 := am_ (hbox); have GW427 := am_ (hy_ hg (hb_ HB.out) : w.heap.size ≤ gb427); have GE427 := GW427; replace HB := am_ (below_step (hb_ HB.out) hb); clear hb hbox hg; obtain ⟨hcz6_0, hcz6_1, hcz6_2, hfz6_0, hfz6_1, hfz6_2⟩ := bc3_ BK427.out; have q7 : (a1 : Int) ≤ ((l0_2.length : Int) : Int) := of_decide_eq_true (by first | (with_reducible assumption) | assumption); obtain ⟨i07, hi07, _, hsz7, _⟩ := info_parts info42; have hroom7 : l0_2.length ≤ c0_2 := HC0_2.out; have hC7 : Kd.C k42 _ A0_2 l0_2.length l0_2 := HR0_2.out; have hcut7 := cut_to (P := Try.prog) 28 42 .i64 Try.underlying28 hi07 A0_2 l0_2.length c0_2 a1 (of_decide_eq_true (by first | (with_reducible assumption) | assumption)) q7 hroom7; have hr7 := Kd.C_take (m := (a1 : Int).toNat) hC7 (by omega); have hy7 : y428.length = (a1 : Int).toNat := (by rw [Ny428.out, List.length_take]; omega); rw [← Ny428.out] at hr7; rw [← hy7] at hcut7; have HR431 := Aside0.mk hr7; have HC431 := am_ (show y428.length ≤ c0_2 from by omega); clear hr7 hC7 hroom7 hi07 hsz7; have KY7 := Aside0.mk hy7; clear hy7; replace q7 := eq_true q7))
   go_loopg [5, 13] k (fun kq v5 v13 w' => ∃ (x5_1 : Int) (x13_1 : Int), v5 = .int .i64 x5_1 ∧ v13 = .int .i64 x13_1 ∧ Aside0 (impl_Plan_from.l0 kq x5_1 y428 (y428.length : Int) x13_1 a0_0 a0_1 l0_2 = some r) ∧ Aside0 (kq ≤ k) ∧ Aside0 (w'.heap[gb427]? = some (.cells #[.int .i64 a0_0, .int .i64 a0_1, (.slice A0_2 l0_2.length c0_2)] 30 (0, 0))) ∧ Aside0 (Below w.heap.size w w'))
   case atStart => exact ⟨(0), (0), (by first | rfl | (simp; done) | (simp [*]; done)), (by first | rfl | (simp; done) | (simp [*]; done)), H', ⟨Nat.le_refl _⟩, ⟨bk_ BK427.out⟩, ⟨hb1_ HB.out GE427.out⟩⟩
   case round =>
    clear H'
    try clear p2
    try clear c3
    try clear c3b0
    try clear c3b1
    try clear c4
    try clear c4b0
    try clear c4b1
    try clear c6
    try clear q7
    try clear hcz6_0
    try clear hcz6_1
    try clear hcz6_2
    try clear hfz6_0
    try clear hfz6_1
    try clear hfz6_2
    try clear q7
    obtain ⟨x5_1, x13_1, rfl, rfl, HA, HK1, BK427, HB⟩ := hrel
    cases gk with
    | zero => exact absurd HA.out (by simp [impl_Plan_from.l0])
    | succ k1 =>
     have H := HA.out
     clear HA
     simp only [impl_Plan_from.l0] at H
     by_cases c8 : x13_1 < (y428.length : Int)
     ·rw [if_pos c8] at H
      have c8b0 : decide (x13_1 < (y428.length : Int)) = true := decide_eq_true c8
      clear c8
      by_cases c9 : 0 ≤ x13_1
      ·rw [if_pos c9] at H
       have c9b0 : decide (0 ≤ x13_1) = true := decide_eq_true c9
       clear c9
       by_cases c10 : x13_1 < (y428.length : Int)
       ·rw [if_pos c10] at H
        have c10b0 : decide (x13_1 < (y428.length : Int)) = true := decide_eq_true c10
        clear c10
        have H' := Aside0.mk H
        clear H
        have p432 : 0 ≤ (x13_1 : Int) := of_decide_eq_true (by first | (with_reducible assumption) | assumption)
        have q432 : x13_1 < (y428.length : Int) := of_decide_eq_true (by first | (with_reducible assumption) | assumption)
        obtain ⟨ad432, e432, hx432_0, hx432_1⟩ := at_T42 HR431.out x13_1 p432 q432
        cases e432
        replace hx432_0 := (HB.out.cell (World.block_lt_of_cell? w _ hx432_0)).trans hx432_0
        replace hx432_1 := (HB.out.cell (World.block_lt_of_cell? w _ hx432_1)).trans hx432_1
        replace p432 := eq_true p432
        replace q432 := eq_true q432
        go_wp2_with (first | ((with_reducible refine gate_dst (N := 7) rfl ?_); refine be_ (N := 7) (cs := #[.int .i64 0, .int .i64 0]) (t := 42) ?_; intro gb433 hg w11 hbox hb; have BK433 := am_ (hbox); have GW433 := am_ (hy_ hg (hb1_ HB.out GE427.out) : w.heap.size ≤ gb433); have GE433 := GW433; have NB427_433 := am_ (bl_ hg BK427.out : gb427 ≠ gb433); have NB433_427 := nb_ NB427_433; replace BK427 := am_ (bb_ BK427.out hb); replace HB := am_ (below_step (hb1_ HB.out GE427.out) hb); clear hb hbox hg; have hnb12 := NB433_427.out; have hnc12 := NB427_433.out; obtain ⟨hcz13_0, hcz13_1, hfz13_0, hfz13_1⟩ := bc2_ BK433.out; have hcz14_0 := bc_ BK427.out 0 (.int .i64 a0_0) rfl; have hcz14_1 := bc_ BK427.out 1 (.int .i64 a0_1) rfl; have hcz14_2 : w11.cell? ⟨gb427, 2, none⟩ = some (.slice (some ad432) l0_2.length c0_2) := (blk_cell BK427.out 2).trans rfl; have hfz14_0 := blk_frozen BK427.out 0; have hfz14_1 := blk_frozen BK427.out 1; have hfz14_2 := blk_frozen BK427.out 2))
        go_roundg k1
        case measure => have := HK1.out; omega
        case rel => exact ⟨(wrap64 (x5_1 + (wrap64 (((rd_T42 y428 x13_1).f1) + a0_1)))), (wrap64 (x13_1 + 1)), (by first | rfl | (simp; done) | (simp [*]; done)), (by first | rfl | (simp; done) | (simp [*]; done)), H', ⟨by have := HK1.out; omega⟩, ⟨by (with_reducible repeat (first | refine blk_drewN ?_ _ | refine blk_drew ?_ | refine blk_alloc ?_ _)); refine blk_far ?_ NB427_433.out _; (with_reducible repeat (first | refine blk_drewN ?_ _ | refine blk_drew ?_ | refine blk_alloc ?_ _)); refine blk_far ?_ NB427_433.out _; (with_reducible repeat (first | refine blk_drewN ?_ _ | refine blk_drew ?_ | refine blk_alloc ?_ _)); exact BK427.out⟩, ⟨hb2_ HB.out GE427.out GE433.out⟩⟩
       ·rw [if_neg c10] at H
        exact absurd H (by simp)
      ·rw [if_neg c9] at H
       exact absurd H (by simp)
     ·rw [if_neg c8] at H
      have c8b0 : decide (x13_1 < (y428.length : Int)) = false := decide_eq_false c8
      clear c8
      obtain rfl := Option.some.inj H
      go_wp2
      go_ret
      exact ⟨er_, hb1_ HB.out GE427.out⟩
  ·rw [if_neg c4] at H
   exact absurd H (by simp)
 ·rw [if_neg c3] at H
  exact absurd H (by simp)
def impl_Plan_round.f (k : Nat) (a0_0 : Int) (a0_1 : Int) (l0_2 : List (S42)) : Option (Int) := (impl_Plan_from.f k a0_0 a0_1 l0_2 (l0_2.length : Int)).bind fun t435 => (some t435)
set_option maxHeartbeats 8000000 in
set_option maxRecDepth 100000 in
theorem impl_Plan_round.calls (k : Nat) (a0_0 : Int) (a0_1 : Int) (A0_2 : Option Addr) (c0_2 : Nat) (l0_2 : List (S42)) (r : Int) (w : World) (hr0_2 : Kd.C k42 w A0_2 l0_2.length l0_2) (hc0_2 : l0_2.length ≤ c0_2) (h : impl_Plan_round.f k a0_0 a0_1 l0_2 = some r) :
  Calls Try.prog 59 #[.agg #[.int .i64 a0_0, .int .i64 a0_1, .slice A0_2 l0_2.length c0_2]] w fun e w' => e = .returned (.int .i64 r) ∧ Below w.heap.size w w' := by
 have hu30 := Try.underlying30
 have HR0_2 := Aside0.mk hr0_2
 have HC0_2 := Aside0.mk hc0_2
 clear hr0_2 hc0_2
 have HB := am_ (Below.refl w.heap.size w)
 have H : ((impl_Plan_from.f k a0_0 a0_1 l0_2 (l0_2.length : Int)).bind fun t435 => (some t435)) = some r := h
 clear h
 replace H := Option.bind_eq_some_iff.mp H
 obtain ⟨t435, A20, H⟩ := H
 replace H : (some t435) = some r := H
 have A2 := Aside0.mk A20
 clear A20
 obtain rfl := Option.some.inj H
 go_enter Try.func59, Try.ntmps59
 go_wp2_with (first | ((with_reducible refine gate_dst (N := 1) rfl ?_); refine be_ (N := 1) (cs := #[.int .i64 a0_0, .int .i64 a0_1, .slice A0_2 l0_2.length c0_2]) (t := 30) ?_; intro gb434 hg w3 hbox hb; have BK434 := am_ (hbox); have GW434 := am_ (hy_ hg (hb_ HB.out) : w.heap.size ≤ gb434); have GE434 := GW434; replace HB := am_ (below_step (hb_ HB.out) hb); clear hb hbox hg; obtain ⟨hcz4_0, hcz4_1, hcz4_2, hfz4_0, hfz4_1, hfz4_2⟩ := bc3_ BK434.out) | ((with_reducible refine gate_callee (f := 60) rfl ?_); refine gl_ Try.func60 #[.agg #[.int .i64 a0_0, .int .i64 a0_1, .slice A0_2 l0_2.length c0_2], .int .i64 (l0_2.length : Int)] ?_; (with_reducible refine (impl_Plan_from.calls k a0_0 a0_1 _ _ l0_2 (l0_2.length : Int) t435 _ ?side1 ?side2 A2.out).mono ?_); (case side1 => exact kc_ (Kd.C_below HR0_2.out HB.out)); (case side2 => exact HC0_2.out); rintro e w5 ⟨rfl, hb⟩; refine ⟨_, rfl, ?_⟩; replace BK434 := am_ (bb_ BK434.out hb); replace HB := am_ (below_step (hb1_ HB.out GE434.out) hb); (try clear hb); (try clear hb2); (try clear hk); (try clear hi)))
 go_ret
 exact ⟨er_, hb1_ HB.out GE434.out⟩
def impl_Occurrence.j0 : Nat → Int → Int → Bool → Int → Int → List (S42) → Option (Int × Int × Bool)
 | 0, _, _, _, _, _, _ => none
 | k + 1, x1, x2, x20, x437000, x437001, x437002 => if x20 = true then (some (0, 0, false)) else ((impl_Plan_round.f k x437000 x437001 x437002).bind fun t441 => ((impl_Plan_from.f k x437000 x437001 x437002 x1).bind fun t442 => (if 0 ≤ x1 then (if x1 < (x437002.length : Int) then ((impl_ival.f (wrap64 ((wrap64 (x437000 + (wrap64 (x2 * t441)))) + t442)) (wrap64 ((wrap64 ((wrap64 (x437000 + (wrap64 (x2 * t441)))) + t442)) + ((rd_T42 x437002 x1).f1)))).bind fun bt444 => (some (bt444.1, bt444.2.1, bt444.2.2))) else (none)) else (none))))
def impl_Occurrence.f (k : Nat) (a0_0 : Int) (a0_1 : Int) (l0_2 : List (S42)) (a1 : Int) (a2 : Int) : Option (Int × Int × Bool) := (impl_isSlot.f k a0_0 a0_1 l0_2 a1).bind fun t438 => (if t438 = true then ((impl_Plan_round.f k a0_0 a0_1 l0_2).bind fun t439 => (if t439 = 0 then (none) else ((impl_in.f a2 0 (wrap64 (Int.tdiv (1000000000000 : Int) t439))).bind fun t440 => (impl_Occurrence.j0 k a1 a2 (!t440) a0_0 a0_1 l0_2)))) else (impl_Occurrence.j0 k a1 a2 true a0_0 a0_1 l0_2))
def impl_Occurrence.T3 : Bool × List (List Nat × List Nat) := (true, [([], []), ([0], [0]), ([], []), ([], []), ([3], [3]), ([2, 4], [2, 4]), ([1, 5], [1, 5]), ([], []), ([], []), ([7, 8, 4], [7, 8]), ([6, 9], [6, 9]), ([10, 9, 0, 1, 2, 3, 4, 5, 6, 7, 8, 9, 10], [10])])
def impl_Occurrence.B3 : List Nat := [0, 1, 0, 0, 8, 28, 63, 0, 0, 408, 1023, 2047]
theorem impl_Occurrence.tab3 : rtab .any (opsOf Try.f12 3) = impl_Occurrence.T3 := by kernel_rfl
theorem impl_Occurrence.bits3 : waitsOk impl_Occurrence.T3.2 impl_Occurrence.B3 = true := by kernel_rfl
set_option maxHeartbeats 8000000 in
set_option maxRecDepth 100000 in
theorem impl_Occurrence.calls (k : Nat) (a0_0 : Int) (a0_1 : Int) (A0_2 : Option Addr) (c0_2 : Nat) (l0_2 : List (S42)) (a1 : Int) (a2 : Int) (r1 : Int) (r2 : Int) (r3 : Bool) (w : World) (hr0_2 : Kd.C k42 w A0_2 l0_2.length l0_2) (hc0_2 : l0_2.length ≤ c0_2) (h : impl_Occurrence.f k a0_0 a0_1 l0_2 a1 a2 = some (r1, r2, r3)) :
  Calls Try.prog 12 #[.agg #[.int .i64 a0_0, .int .i64 a0_1, .slice A0_2 l0_2.length c0_2], .int .i64 a1, .int .i64 a2] w fun e w' => e = .returned (.tuple #[.agg #[.int .i64 r1, .int .i64 r2], .bool r3]) ∧ Below w.heap.size w w' := by
 have hu30 := Try.underlying30
 have hu25 := Try.underlying25
 have HR0_2 := Aside0.mk hr0_2
 have HC0_2 := Aside0.mk hc0_2
 clear hr0_2 hc0_2
 have HB := am_ (Below.refl w.heap.size w)
 have H : ((impl_isSlot.f k a0_0 a0_1 l0_2 a1).bind fun t438 => (if t438 = true then ((impl_Plan_round.f k a0_0 a0_1 l0_2).bind fun t439 => (if t439 = 0 then (none) else ((impl_in.f a2 0 (wrap64 (Int.tdiv (1000000000000 : Int) t439))).bind fun t440 => (impl_Occurrence.j0 k a1 a2 (!t440) a0_0 a0_1 l0_2)))) else (impl_Occurrence.j0 k a1 a2 true a0_0 a0_1 l0_2))) = some (r1, r2, r3) := h
 clear h
 have HC4 := Aside0.mk H
 clear H
 go_enter Try.func12, Try.ntmps12
 go_upto_region 1 with (first | ((with_reducible refine gate_dst (N := 3) rfl ?_); refine be_ (N := 3) (cs := #[.int .i64 a0_0, .int .i64 a0_1, .slice A0_2 l0_2.length c0_2]) (t := 30) ?_; intro gb436 hg w5 hbox hb; have BK436 := am_ (hbox); have GW436 := am_ (hy_ hg (hb_ HB.out) : w.heap.size ≤ gb436); have GE436 := GW436; replace HB := am_ (below_step (hb_ HB.out) hb); clear hb hbox hg) | ((with_reducible refine gate_dst (N := 6) rfl ?_); refine be_ (N := 6) (cs := #[.int .i64 0, .int .i64 0]) (t := 25) ?_; intro gb437 hg w6 hbox hb; have BK437 := am_ (hbox); have GW437 := am_ (hy_ hg (hb1_ HB.out GE436.out) : w.heap.size ≤ gb437); have GE437 := GW437; have NB436_437 := am_ (bl_ hg BK436.out : gb436 ≠ gb437); have NB437_436 := nb_ NB436_437; replace BK436 := am_ (bb_ BK436.out hb); replace HB := am_ (below_step (hb1_ HB.out GE436.out) hb); clear hb hbox hg))
 (try simp only [Act.put, List.setIfInBounds_toArray, List.set_cons_zero, List.set_cons_succ])
 go_cut [20] (fun v20 wc => ∃ (kq : Nat) (x20_3 : Bool), v20 = .bool x20_3 ∧ Aside0 (impl_Occurrence.j0 kq a1 a2 x20_3 a0_0 a0_1 l0_2 = some (r1, r2, r3)) ∧ Aside0 (kq ≤ k) ∧ Aside0 (wc.heap[gb436]? = some (.cells #[.int .i64 a0_0, .int .i64 a0_1, (.slice A0_2 l0_2.length c0_2)] 30 (0, 0))) ∧ Aside0 (wc.heap[gb437]? = some (.cells #[.int .i64 0, .int .i64 0] 25 (0, 0))) ∧ Aside0 (Below w.heap.size w wc))
 case first =>
  have H := HC4.out
  clear HC4
  replace H := Option.bind_eq_some_iff.mp H
  obtain ⟨t438, A70, H⟩ := H
  replace H : (if t438 = true then ((impl_Plan_round.f k a0_0 a0_1 l0_2).bind fun t439 => (if t439 = 0 then (none) else ((impl_in.f a2 0 (wrap64 (Int.tdiv (1000000000000 : Int) t439))).bind fun t440 => (impl_Occurrence.j0 k a1 a2 (!t440) a0_0 a0_1 l0_2)))) else (impl_Occurrence.j0 k a1 a2 true a0_0 a0_1 l0_2)) = some (r1, r2, r3) := H
  have A7 := Aside0.mk A70
  clear A70
  by_cases c8 : t438 = true
  ·subst c8
   have H1 : ((impl_Plan_round.f k a0_0 a0_1 l0_2).bind fun t439 => (if t439 = 0 then (none) else ((impl_in.f a2 0 (wrap64 (Int.tdiv (1000000000000 : Int) t439))).bind fun t440 => (impl_Occurrence.j0 k a1 a2 (!t440) a0_0 a0_1 l0_2)))) = some (r1, r2, r3) := by rw [if_pos rfl] at H; exact H
   clear H
   have H := H1
   clear H1
   replace H := Option.bind_eq_some_iff.mp H
   obtain ⟨t439, A90, H⟩ := H
   replace H : (if t439 = 0 then (none) else ((impl_in.f a2 0 (wrap64 (Int.tdiv (1000000000000 : Int) t439))).bind fun t440 => (impl_Occurrence.j0 k a1 a2 (!t440) a0_0 a0_1 l0_2))) = some (r1, r2, r3) := H
   have A9 := Aside0.mk A90
   clear A90
   by_cases c10 : t439 = 0
   ·rw [if_pos c10] at H
    exact absurd H (by simp)
   ·rw [if_neg c10] at H
    have c10b0 : (t439 == 0) = false := beq_eq_false_iff_ne.mpr c10
    have c10b1 : (t439 != 0) = true := bne_iff_ne.mpr c10
    (first | rw [c10b0] | (simp only [i64_w, i32_w]; rw [c10b0]) | skip)
    replace H := Option.bind_eq_some_iff.mp H
    obtain ⟨t440, A110, H⟩ := H
    replace H : (impl_Occurrence.j0 k a1 a2 (!t440) a0_0 a0_1 l0_2) = some (r1, r2, r3) := H
    have A11 := Aside0.mk A110
    clear A110
    have H' := Aside0.mk H
    clear H
    have hnb12 := NB436_437.out
    have hnc12 := NB437_436.out
    have hcz13_0 := bc_ BK436.out 0 (.int .i64 a0_0) rfl
    have hcz13_1 := bc_ BK436.out 1 (.int .i64 a0_1) rfl
    have hcz13_2 := bc_ BK436.out 2 (.slice A0_2 l0_2.length c0_2) rfl
    have hfz13_0 := blk_frozen BK436.out 0
    have hfz13_1 := blk_frozen BK436.out 1
    have hfz13_2 := blk_frozen BK436.out 2
    go_wp2_with (first | ((with_reducible refine gate_callee (f := 58) rfl ?_); refine gl_ Try.func58 #[.agg #[.int .i64 a0_0, .int .i64 a0_1, .slice A0_2 l0_2.length c0_2], .int .i64 a1] ?_; (with_reducible refine (impl_isSlot.calls k a0_0 a0_1 _ _ l0_2 a1 true _ ?side1 ?side2 A7.out).mono ?_); (case side1 => exact kc_ (Kd.C_below HR0_2.out HB.out)); (case side2 => exact HC0_2.out); rintro e w14 ⟨rfl, hb⟩; refine ⟨_, rfl, ?_⟩; replace BK436 := am_ (bb_ BK436.out hb); replace BK437 := am_ (bb_ BK437.out hb); replace HB := am_ (below_step (hb2_ HB.out GE436.out GE437.out) hb); (try clear hb); (try clear hb2); (try clear hk); (try clear hi); obtain ⟨hcz15_0, hcz15_1, hcz15_2, hfz15_0, hfz15_1, hfz15_2⟩ := bc3_ BK436.out) | (go_at_call 59; (with_reducible refine (impl_Plan_round.calls k a0_0 a0_1 _ _ l0_2 t439 _ ?side1 ?side2 A9.out).mono ?_); (case side1 => exact kc_ (Kd.C_below HR0_2.out HB.out)); (case side2 => exact HC0_2.out); rintro e w16 ⟨rfl, hb⟩; replace BK436 := am_ (bb_ BK436.out hb); replace BK437 := am_ (bb_ BK437.out hb); replace HB := am_ (below_step (hb2_ HB.out GE436.out GE437.out) hb); (try clear hb); (try clear hb2); (try clear hk); (try clear hi)) | (go_at_call 48; (with_reducible refine (impl_in.calls a2 0 (wrap64 (Int.tdiv (1000000000000 : Int) t439)) t440 _ A11.out).mono ?_); rintro e w' ⟨rfl, ⟨nd, rfl⟩⟩))
    go_meet
    case rel => exact ⟨_, (!t440), (by first | rfl | (simp; done) | (simp [*]; done)), H', ⟨by first | omega | exact Nat.le_refl _⟩, ⟨bk_ BK436.out⟩, ⟨bk_ BK437.out⟩, ⟨hb2_ HB.out GE436.out GE437.out⟩⟩
  ·replace c8 := Bool.eq_false_iff.mpr c8
   subst c8
   have H1 : (impl_Occurrence.j0 k a1 a2 true a0_0 a0_1 l0_2) = some (r1, r2, r3) := by rw [if_neg (show ¬ (false = true) by decide)] at H; exact H
   clear H
   have H := H1
   clear H1
   have H' := Aside0.mk H
   clear H
   have hnb17 := NB436_437.out
   have hnc17 := NB437_436.out
   have hcz18_0 := bc_ BK436.out 0 (.int .i64 a0_0) rfl
   have hcz18_1 := bc_ BK436.out 1 (.int .i64 a0_1) rfl
   have hcz18_2 := bc_ BK436.out 2 (.slice A0_2 l0_2.length c0_2) rfl
   have hfz18_0 := blk_frozen BK436.out 0
   have hfz18_1 := blk_frozen BK436.out 1
   have hfz18_2 := blk_frozen BK436.out 2
   go_wp2_with (first | ((with_reducible refine gate_callee (f := 58) rfl ?_); refine gl_ Try.func58 #[.agg #[.int .i64 a0_0, .int .i64 a0_1, .slice A0_2 l0_2.length c0_2], .int .i64 a1] ?_; (with_reducible refine (impl_isSlot.calls k a0_0 a0_1 _ _ l0_2 a1 false _ ?side1 ?side2 A7.out).mono ?_); (case side1 => exact kc_ (Kd.C_below HR0_2.out HB.out)); (case side2 => exact HC0_2.out); rintro e w19 ⟨rfl, hb⟩; refine ⟨_, rfl, ?_⟩; replace BK436 := am_ (bb_ BK436.out hb); replace BK437 := am_ (bb_ BK437.out hb); replace HB := am_ (below_step (hb2_ HB.out GE436.out GE437.out) hb); (try clear hb); (try clear hb2); (try clear hk); (try clear hi)))
   go_meet
   case rel => exact ⟨_, (true), (by first | rfl | (simp; done) | (simp [*]; done)), H', ⟨by first | omega | exact Nat.le_refl _⟩, ⟨bk_ BK436.out⟩, ⟨bk_ BK437.out⟩, ⟨hb2_ HB.out GE436.out GE437.out⟩⟩
 case rest =>
  clear HC4
  try clear c1
  try clear p2
  try clear c5
  try clear p6
  try clear c8
  try clear c10
  try clear c10b0
  try clear c10b1
  try clear c12
  try clear c17
  try clear hcz13_0
  try clear hcz13_1
  try clear hcz13_2
  try clear hcz15_0
  try clear hcz15_1
  try clear hcz15_2
  try clear hcz18_0
  try clear hcz18_1
  try clear hcz18_2
  try clear hfz13_0
  try clear hfz13_1
  try clear hfz13_2
  try clear hfz15_0
  try clear hfz15_1
  try clear hfz15_2
  try clear hfz18_0
  try clear hfz18_1
  try clear hfz18_2
  obtain ⟨kq, x20_3, rfl, HA, HJ3, BK436, BK437, HB⟩ := hcut
  cases kq with
  | zero => exact absurd HA.out (by simp [impl_Occurrence.j0])
  | succ kj3 =>
   have H := HA.out
   clear HA
   simp only [impl_Occurrence.j0] at H
   by_cases c20 : x20_3 = true
   ·subst c20
    have H1 : (some (0, 0, false)) = some (r1, r2, r3) := by rw [if_pos rfl] at H; exact H
    clear H
    have H := H1
    clear H1
    simp only [Option.some.injEq, Prod.mk.injEq] at H
    obtain ⟨rfl, rfl, rfl⟩ := H
    have hnb21 := NB437_436.out
    have hnc21 := NB436_437.out
    have hcz22_0 := bc_ BK437.out 0 (.int .i64 0) rfl
    have hcz22_1 := bc_ BK437.out 1 (.int .i64 0) rfl
    have hfz22_0 := blk_frozen BK437.out 0
    have hfz22_1 := blk_frozen BK437.out 1
    go_wp2
    refine bodyPost_ret (results_ct rfl _ _ gb437 25 #[.int .i64 0, .int .i64 0] (0, 0) _ rfl (by (with_reducible repeat (first | refine blk_drewN ?_ _ | refine blk_drew ?_ | refine blk_alloc ?_ _)); refine blk_put (cs := #[.int .i64 0, .int .i64 0]) ?_ 1 _ rfl; (with_reducible repeat (first | refine blk_drewN ?_ _ | refine blk_drew ?_ | refine blk_alloc ?_ _)); refine blk_put (cs := #[.int .i64 0, .int .i64 0]) ?_ 0 _ rfl; (with_reducible repeat (first | refine blk_drewN ?_ _ | refine blk_drew ?_ | refine blk_alloc ?_ _)); exact BK437.out) Try.underlying25 rfl (by kernel_rfl)) rfl ?_
    exact ⟨er_, hb2_ HB.out GE436.out GE437.out⟩
   ·replace c20 := Bool.eq_false_iff.mpr c20
    subst c20
    have H1 : ((impl_Plan_round.f kj3 a0_0 a0_1 l0_2).bind fun t441 => ((impl_Plan_from.f kj3 a0_0 a0_1 l0_2 a1).bind fun t442 => (if 0 ≤ a1 then (if a1 < (l0_2.length : Int) then ((impl_ival.f (wrap64 ((wrap64 (a0_0 + (wrap64 (a2 * t441)))) + t442)) (wrap64 ((wrap64 ((wrap64 (a0_0 + (wrap64 (a2 * t441)))) + t442)) + ((rd_T42 l0_2 a1).f1)))).bind fun bt444 => (some (bt444.1, bt444.2.1, bt444.2.2))) else (none)) else (none)))) = some (r1, r2, r3) := by rw [if_neg (show ¬ (false = true) by decide)] at H; exact H
    clear H
    have H := H1
    clear H1
    replace H := Option.bind_eq_some_iff.mp H
    obtain ⟨t441, A230, H⟩ := H
    replace H : ((impl_Plan_from.f kj3 a0_0 a0_1 l0_2 a1).bind fun t442 => (if 0 ≤ a1 then (if a1 < (l0_2.length : Int) then ((impl_ival.f (wrap64 ((wrap64 (a0_0 + (wrap64 (a2 * t441)))) + t442)) (wrap64 ((wrap64 ((wrap64 (a0_0 + (wrap64 (a2 * t441)))) + t442)) + ((rd_T42 l0_2 a1).f1)))).bind fun bt444 => (some (bt444.1, bt444.2.1, bt444.2.2))) else (none)) else (none))) = some (r1, r2, r3) := H
    have A23 := Aside0.mk A230
    clear A230
    replace H := Option.bind_eq_some_iff.mp H
    obtain ⟨t442, A240, H⟩ := H
    replace H : (if 0 ≤ a1 then (if a1 < (l0_2.length : Int) then ((impl_ival.f (wrap64 ((wrap64 (a0_0 + (wrap64 (a2 * t441)))) + t442)) (wrap64 ((wrap64 ((wrap64 (a0_0 + (wrap64 (a2 * t441)))) + t442)) + ((rd_T42 l0_2 a1).f1)))).bind fun bt444 => (some (bt444.1, bt444.2.1, bt444.2.2))) else (none)) else (none)) = some (r1, r2, r3) := H
    have A24 := Aside0.mk A240
    clear A240
    by_cases c25 : 0 ≤ a1
    ·rw [if_pos c25] at H
     have c25b0 : decide (0 ≤ a1) = true := decide_eq_true c25
     clear c25
     by_cases c26 : a1 < (l0_2.length : Int)
     ·rw [if_pos c26] at H
      have c26b0 : decide (a1 < (l0_2.length : Int)) = true := decide_eq_true c26
      clear c26
      replace H := Option.bind_eq_some_iff.mp H
      obtain ⟨⟨t444, t445, t446⟩, A270, H⟩ := H
      replace H : (some (t444, t445, t446)) = some (r1, r2, r3) := H
      have A27 := Aside0.mk A270
      clear A270
      simp only [Option.some.injEq, Prod.mk.injEq] at H
      obtain ⟨rfl, rfl, rfl⟩ := H
      try go_wp2
      have n0_ := am_ (blk_drew BK436.out)
      have n1_ := am_ (blk_drew BK437.out)
      have n2_ := am_ (below_drew1 HB.out)
      clear BK436
      clear BK437
      clear HB
      have BK436 := n0_
      have BK437 := n1_
      have HB := n2_
      clear n0_ n1_ n2_
      refine start_ (n := 12) (S := fun w' => w'.cell? ⟨gb436, 0, none⟩ = some (.int .i64 a0_0) ∧ w'.cell? ⟨gb436, 1, none⟩ = some (.int .i64 a0_1) ∧ w'.cell? ⟨gb436, 2, none⟩ = some (.slice A0_2 l0_2.length c0_2)) (ds := []) #[false, false, false, false, false, false, false, false, false, false, false, false] (by kernel_rfl) rfl rfl ⟨(blk_cell BK436.out 0).trans rfl, (blk_cell BK436.out 1).trans rfl, (blk_cell BK436.out 2).trans rfl⟩ (fun hHeld => ?_); refine with_tabW impl_Occurrence.tab3 impl_Occurrence.bits3 (fun HT_ HW_ => ?_)
      generalize wc.drew = w28 at BK436 BK437 HB hHeld ⊢
      refine pure_ (i := 0) (N := some 22) (v := ?_) (a' := ?_) #[true, false, false, false, false, false, false, false, false, false, false, false] rfl rfl (any_of HT_.out (by kernel_rfl)) (fun _ _ _ h => h) (Or.inl ⟨by rfl, ?_⟩) ?_ ?_
      rotate_left
      ·intro w'
       go_simp
       with_reducible rfl
      rotate_left
      ·simp only [Act.put, List.setIfInBounds_toArray, List.set_cons_zero, List.set_cons_succ, i64_w, i32_w]
       rfl
      refine pure_ (i := 2) (N := some 24) (v := ?_) (a' := ?_) #[true, false, true, false, false, false, false, false, false, false, false, false] rfl rfl (any_of HT_.out (by kernel_rfl)) (fun _ _ _ h => h) (Or.inl ⟨by rfl, ?_⟩) ?_ ?_
      rotate_left
      ·intro w'
       go_simp
       with_reducible rfl
      rotate_left
      ·simp only [Act.put, List.setIfInBounds_toArray, List.set_cons_zero, List.set_cons_succ, i64_w, i32_w]
       rfl
      refine pure_ (i := 8) (N := some 30) (v := ?_) (a' := ?_) #[true, false, true, false, false, false, false, false, true, false, false, false] rfl rfl (any_of HT_.out (by kernel_rfl)) (fun _ _ _ h => h) (Or.inl ⟨by rfl, ?_⟩) ?_ ?_
      rotate_left
      ·intro w'
       go_simp
       with_reducible rfl
      rotate_left
      ·simp only [Act.put, List.setIfInBounds_toArray, List.set_cons_zero, List.set_cons_succ, i64_w, i32_w]
       rfl
      refine take_ (i := 1) (N := some 23) (v := ?_) (a' := ?_) #[true, true, true, false, false, false, false, false, true, false, false, false] rfl rfl (take_ofW HT_.out HW_.out (by kernel_rfl)) (fun _ _ _ h => h) (Or.inl ⟨by rfl, ?_⟩) hHeld ?_ ?_
      rotate_left
      ·rintro w' ⟨s0, s1, s2⟩
       go_simp
       with_reducible rfl
      rotate_left
      ·simp only [Act.put, List.setIfInBounds_toArray, List.set_cons_zero, List.set_cons_succ, i64_w, i32_w]
       rfl
      refine take_ (i := 3) (N := some 25) (v := ?_) (a' := ?_) #[true, true, true, true, false, false, false, false, true, false, false, false] rfl rfl (take_ofW HT_.out HW_.out (by kernel_rfl)) (fun _ _ _ h => h) (Or.inl ⟨by rfl, ?_⟩) hHeld ?_ ?_
      rotate_left
      ·rintro w' ⟨s0, s1, s2⟩
       go_simp
       with_reducible rfl
      rotate_left
      ·simp only [Act.put, List.setIfInBounds_toArray, List.set_cons_zero, List.set_cons_succ, i64_w, i32_w]
       rfl
      refine take_ (i := 7) (N := some 29) (v := ?_) (a' := ?_) #[true, true, true, true, false, false, false, true, true, false, false, false] rfl rfl (take_ofW HT_.out HW_.out (by kernel_rfl)) (fun _ _ _ h => h) (Or.inl ⟨by rfl, ?_⟩) hHeld ?_ ?_
      rotate_left
      ·rintro w' ⟨s0, s1, s2⟩
       go_simp
       with_reducible rfl
      rotate_left
      ·simp only [Act.put, List.setIfInBounds_toArray, List.set_cons_zero, List.set_cons_succ, i64_w, i32_w]
       rfl
      refine one_ (i := 4) (N := some 26) #[true, true, true, true, true, false, false, true, true, false, false, false] rfl rfl (one_of HT_.out (by kernel_rfl)) (by decide) (fun K hK => ?_)
      refine goes_ Try.func59 (by kernel_rfl) rfl #[.agg #[.int .i64 a0_0, .int .i64 a0_1, .slice A0_2 l0_2.length c0_2]] (by rfl) rfl rfl arr_ ?_
      with_reducible refine (impl_Plan_round.calls kj3 a0_0 a0_1 _ _ l0_2 t441 _ ?side1 ?side2 A23.out).mono ?_
      (case side1 => exact kc_ (Kd.C_below HR0_2.out HB.out))
      (case side2 => exact HC0_2.out)
      rintro e w29 ⟨rfl, hb⟩
      refine ⟨_, rfl, ?_⟩
      have n0_ := am_ (bb_ BK436.out hb)
      have n1_ := am_ (bb_ BK437.out hb)
      have n2_ := am_ (below_step (hb2_ HB.out GE436.out GE437.out) hb)
      clear BK436
      clear BK437
      clear HB
      have BK436 := n0_
      have BK437 := n1_
      have HB := n2_
      clear n0_ n1_ n2_
      (try clear hb)
      (try clear hb2)
      (try clear hk)
      (try clear hi)
      refine hK.out _ _ ⟨(blk_cell BK436.out 0).trans rfl, (blk_cell BK436.out 1).trans rfl, (blk_cell BK436.out 2).trans rfl⟩ (fun hHeld => ?_)
      clear hK K
      refine norm_ (a' := ?_) ?_ ?_
      rotate_left
      ·show Act.put _ (some 26) _ = _
       simp only [Act.put, List.setIfInBounds_toArray, List.set_cons_zero, List.set_cons_succ, i64_w, i32_w]
       rfl
      refine pure_ (i := 5) (N := some 27) (v := ?_) (a' := ?_) #[true, true, true, true, true, true, false, true, true, false, false, false] rfl rfl (any_of HT_.out (by kernel_rfl)) (fun _ _ _ h => h) (Or.inl ⟨by rfl, ?_⟩) ?_ ?_
      rotate_left
      ·intro w'
       go_simp
       with_reducible rfl
      rotate_left
      ·simp only [Act.put, List.setIfInBounds_toArray, List.set_cons_zero, List.set_cons_succ, i64_w, i32_w]
       rfl
      refine pure_ (i := 6) (N := some 28) (v := ?_) (a' := ?_) #[true, true, true, true, true, true, true, true, true, false, false, false] rfl rfl (any_of HT_.out (by kernel_rfl)) (fun _ _ _ h => h) (Or.inl ⟨by rfl, ?_⟩) ?_ ?_
      rotate_left
      ·intro w'
       go_simp
       with_reducible rfl
      rotate_left
      ·simp only [Act.put, List.setIfInBounds_toArray, List.set_cons_zero, List.set_cons_succ, i64_w, i32_w]
       rfl
      refine one_ (i := 9) (N := some 31) #[true, true, true, true, true, true, true, true, true, true, false, false] rfl rfl (one_of HT_.out (by kernel_rfl)) (by decide) (fun K hK => ?_)
      refine goes_ Try.func60 (by kernel_rfl) rfl #[.agg #[.int .i64 a0_0, .int .i64 a0_1, .slice A0_2 l0_2.length c0_2], .int .i64 a1] (by rfl) rfl rfl arr_ ?_
      with_reducible refine (impl_Plan_from.calls kj3 a0_0 a0_1 _ _ l0_2 a1 t442 _ ?side1 ?side2 A24.out).mono ?_
      (case side1 => exact kc_ (Kd.C_below HR0_2.out HB.out))
      (case side2 => exact HC0_2.out)
      rintro e w30 ⟨rfl, hb⟩
      refine ⟨_, rfl, ?_⟩
      have n0_ := am_ (bb_ BK436.out hb)
      have n1_ := am_ (bb_ BK437.out hb)
      have n2_ := am_ (below_step (hb2_ HB.out GE436.out GE437.out) hb)
      clear BK436
      clear BK437
      clear HB
      have BK436 := n0_
      have BK437 := n1_
      have HB := n2_
      clear n0_ n1_ n2_
      (try clear hb)
      (try clear hb2)
      (try clear hk)
      (try clear hi)
      refine hK.out _ _ ⟨(blk_cell BK436.out 0).trans rfl, (blk_cell BK436.out 1).trans rfl, (blk_cell BK436.out 2).trans rfl⟩ (fun hHeld => ?_)
      clear hK K
      refine norm_ (a' := ?_) ?_ ?_
      rotate_left
      ·show Act.put _ (some 31) _ = _
       simp only [Act.put, List.setIfInBounds_toArray, List.set_cons_zero, List.set_cons_succ, i64_w, i32_w]
       rfl
      refine pure_ (i := 10) (N := some 32) (v := ?_) (a' := ?_) #[true, true, true, true, true, true, true, true, true, true, true, false] rfl rfl (any_of HT_.out (by kernel_rfl)) (fun _ _ _ h => h) (Or.inl ⟨by rfl, ?_⟩) ?_ ?_
      rotate_left
      ·intro w'
       go_simp
       with_reducible rfl
      rotate_left
      ·simp only [Act.put, List.setIfInBounds_toArray, List.set_cons_zero, List.set_cons_succ, i64_w, i32_w]
       rfl
      refine pure_ (i := 11) (N := some 8) (v := ?_) (a' := ?_) #[true, true, true, true, true, true, true, true, true, true, true, true] rfl rfl (any_of HT_.out (by kernel_rfl)) (fun _ _ _ h => h) (Or.inl ⟨by rfl, ?_⟩) ?_ ?_
      rotate_left
      ·intro w'
       go_simp
       with_reducible rfl
      rotate_left
      ·simp only [Act.put, List.setIfInBounds_toArray, List.set_cons_zero, List.set_cons_succ, i64_w, i32_w]
       rfl
      refine done_ (done_of HT_.out (by kernel_rfl)) ?_
      have hnb31 := NB436_437.out
      have hnc31 := NB437_436.out
      have hcz32_0 := bc_ BK436.out 0 (.int .i64 a0_0) rfl
      have hcz32_1 := bc_ BK436.out 1 (.int .i64 a0_1) rfl
      have hcz32_2 := bc_ BK436.out 2 (.slice A0_2 l0_2.length c0_2) rfl
      have hfz32_0 := blk_frozen BK436.out 0
      have hfz32_1 := blk_frozen BK436.out 1
      have hfz32_2 := blk_frozen BK436.out 2
      have p443 : 0 ≤ (a1 : Int) := of_decide_eq_true (by first | (with_reducible assumption) | assumption)
      have q443 : a1 < (l0_2.length : Int) := of_decide_eq_true (by first | (with_reducible assumption) | assumption)
      obtain ⟨ad443, e443, hx443_0, hx443_1⟩ := at_T42 HR0_2.out a1 p443 q443
      cases e443
      replace hx443_0 := (HB.out.cell (World.block_lt_of_cell? w _ hx443_0)).trans hx443_0
      replace hx443_1 := (HB.out.cell (World.block_lt_of_cell? w _ hx443_1)).trans hx443_1
      replace p443 := eq_true p443
      replace q443 := eq_true q443
      try go_wp2_with (first | ((with_reducible refine gate_callee (f := 61) rfl ?_); refine gl_ Try.func61 #[.int .i64 (wrap64 ((wrap64 (a0_0 + (wrap64 (a2 * t441)))) + t442)), .int .i64 (wrap64 ((wrap64 ((wrap64 (a0_0 + (wrap64 (a2 * t441)))) + t442)) + ((rd_T42 l0_2 a1).f1)))] ?_; (with_reducible refine (impl_ival.calls (wrap64 ((wrap64 (a0_0 + (wrap64 (a2 * t441)))) + t442)) (wrap64 ((wrap64 ((wrap64 (a0_0 + (wrap64 (a2 * t441)))) + t442)) + ((rd_T42 l0_2 a1).f1))) t444 t445 t446 _ A27.out).mono ?_); rintro e w33 ⟨rfl, hb⟩; refine ⟨_, rfl, ?_⟩; replace BK436 := am_ (bb_ BK436.out hb); replace BK437 := am_ (bb_ BK437.out hb); replace HB := am_ (below_step (hb2_ HB.out GE436.out GE437.out) hb); (try clear hb); (try clear hb2); (try clear hk); (try clear hi); obtain ⟨hcz34_0, hcz34_1, hfz34_0, hfz34_1⟩ := bc2_ BK437.out))
      refine bodyPost_ret (results_ct rfl _ _ gb437 25 #[.int .i64 t444, .int .i64 t445] (0, 0) _ rfl (by (with_reducible repeat (first | refine blk_drewN ?_ _ | refine blk_drew ?_ | refine blk_alloc ?_ _)); refine blk_put (cs := #[.int .i64 t444, .int .i64 0]) ?_ 1 _ rfl; (with_reducible repeat (first | refine blk_drewN ?_ _ | refine blk_drew ?_ | refine blk_alloc ?_ _)); refine blk_put (cs := #[.int .i64 0, .int .i64 0]) ?_ 0 _ rfl; (with_reducible repeat (first | refine blk_drewN ?_ _ | refine blk_drew ?_ | refine blk_alloc ?_ _)); exact BK437.out) Try.underlying25 rfl (by kernel_rfl)) rfl ?_
      exact ⟨er_, hb2_ HB.out GE436.out GE437.out⟩
     ·rw [if_neg c26] at H
      exact absurd H (by simp)
    ·rw [if_neg c25] at H
     exact absurd H (by simp)
end Go.Proofs.Ytllpmpfchidhoaa.P
