/- Texts of the seat's proofs, part 7: functions of the program told as plain functions, with their contracts, and what is shown of them. No condition. -/
import Derived.Test.YtejohmompmjhnaaUKFEGW
import Derived.Test.YtejohmompmjhnaaKFEGW1
import Derived.Test.YtejohmompmjhnaaKFEGW4
import Derived.Test.YtejohmompmjhnaaKFEGW3
import Derived.Test.YtejohmompmjhnaaKFEGW5
set_option linter.unusedVariables false
set_option linter.unusedSimpArgs false
namespace Go.Proofs.Ytejohmompmjhnaa.P
open Go.RowKit Go.Proofs.YtejohmompmjhnaaW.PrintWords Go.Proofs.YtejohmompmjhnaaW.PrintLast Go.Proofs.YtejohmompmjhnaaW.PrintMore
attribute [local go_sem] max2_int min2_int max_two min_two max_three min_three max_four min_four
set_option linter.unusedVariables false
set_option linter.unusedSimpArgs false
attribute [local go_sem high] eqA62
def impl_LocalOk.f (a0_0 : Bool) (a0_1 : Int) (a0_2 : Int) (a0_3 : Int) : Option (Bool) := if a0_0 = true then ((impl_IvalOk.f a0_1 a0_2).bind fun t776 => (if t776 = true then ((impl_isTime.f a0_3).bind fun t777 => (some t777)) else (some false))) else (some (!a0_0 && ((a0_1 == 0 && (a0_2 == 0)) && (a0_3 == 0))))
set_option maxHeartbeats 8000000 in
set_option maxRecDepth 100000 in
theorem impl_LocalOk.calls (a0_0 : Bool) (a0_1 : Int) (a0_2 : Int) (a0_3 : Int) (r : Bool) (w : World) (h : impl_LocalOk.f a0_0 a0_1 a0_2 a0_3 = some r) :
    Calls Try.prog 95 #[.agg #[.bool a0_0, .int .i64 a0_1, .int .i64 a0_2, .int .i64 a0_3]] w fun e w' => e = .returned (.bool r) ∧ Below w.heap.size w w' := by
  have hu62 := Try.underlying62
  have hu32 := Try.underlying32
  have HB := am_ (Below.refl w.heap.size w)
  have H : (if a0_0 = true then ((impl_IvalOk.f a0_1 a0_2).bind fun t776 => (if t776 = true then ((impl_isTime.f a0_3).bind fun t777 => (some t777)) else (some false))) else (some (!a0_0 && ((a0_1 == 0 && (a0_2 == 0)) && (a0_3 == 0))))) = some r := h
  clear h
  by_cases c2 : a0_0 = true
  · subst c2
    have H1 : ((impl_IvalOk.f a0_1 a0_2).bind fun t776 => (if t776 = true then ((impl_isTime.f a0_3).bind fun t777 => (some t777)) else (some false))) = some r := by rw [if_pos rfl] at H; exact H
    clear H
    have H := H1
    clear H1
    replace H := Option.bind_eq_some_iff.mp H
    obtain ⟨t776, A30, H⟩ := H
    replace H : (if t776 = true then ((impl_isTime.f a0_3).bind fun t777 => (some t777)) else (some false)) = some r := H
    have A3 := Aside0.mk A30
    clear A30
    by_cases c4 : t776 = true
    · subst c4
      have H1 : ((impl_isTime.f a0_3).bind fun t777 => (some t777)) = some r := by rw [if_pos rfl] at H; exact H
      clear H
      have H := H1
      clear H1
      replace H := Option.bind_eq_some_iff.mp H
      obtain ⟨t777, A50, H⟩ := H
      replace H : (some t777) = some r := H
      have A5 := Aside0.mk A50
      clear A50
      obtain rfl := Option.some.inj H
      go_enter Try.func95, Try.ntmps95
      go_wp2_with (first | ((with_reducible refine gate_dst (N := 1) rfl ?_); refine box_event ?hg (N := 1) ?hd (cs := #[.bool true, .int .i64 a0_1, .int .i64 a0_2, .int .i64 a0_3]) (t := 62) ?hr ?_; (case hd => rfl); (case hg => rfl); (case hr => first|(go_simp;done)|(go_simp;rfl)); intro gb775 hg w6 hbox hb; have n0_ := am_ (below_step (hb_ HB.out) hb); have n1_ := am_ (hbox); have n2_ := am_ (hy_ hg (hb_ HB.out) : w.heap.size ≤ gb775); have n3_ := am_ (hy_ hg (hb_ HB.out) : w.heap.size ≤ gb775); clear HB; have HB := n0_; have BK775 := n1_; have GW775 := n2_; have GE775 := n3_; clear n0_ n1_ n2_ n3_; clear hb hbox hg; have hcz7_0 := bc_ BK775.out 0 (.bool true) rfl; have hcz7_1 := bc_ BK775.out 1 (.int .i64 a0_1) rfl; have hcz7_2 := bc_ BK775.out 2 (.int .i64 a0_2) rfl; have hcz7_3 := bc_ BK775.out 3 (.int .i64 a0_3) rfl; have hfz7_0 := blk_frozen BK775.out 0; have hfz7_1 := blk_frozen BK775.out 1; have hfz7_2 := blk_frozen BK775.out 2; have hfz7_3 := blk_frozen BK775.out 3) | ((with_reducible refine gate_callee (f := 43) rfl ?_); refine goesL_ (some 11) rfl rfl Try.func43 (by kernel_rfl) rfl #[.agg #[.int .i64 a0_1, .int .i64 a0_2]] rfl arr_ ?_; (with_reducible refine (impl_IvalOk.calls a0_1 a0_2 true _ A3.out).mono ?_); rintro e w8 ⟨rfl, hb⟩; refine ⟨_, rfl, ?_⟩; have n0_ := am_ (bb_ BK775.out hb); have n1_ := am_ (below_step (hb1_ HB.out GE775.out) hb); clear BK775; clear HB; have BK775 := n0_; have HB := n1_; clear n0_ n1_; (try clear hb); (try clear hb2); (try clear hk); (try clear hi); have hcz9_0 := bc_ BK775.out 0 (.bool true) rfl; have hcz9_1 := bc_ BK775.out 1 (.int .i64 a0_1) rfl; have hcz9_2 := bc_ BK775.out 2 (.int .i64 a0_2) rfl; have hcz9_3 := bc_ BK775.out 3 (.int .i64 a0_3) rfl; have hfz9_0 := blk_frozen BK775.out 0; have hfz9_1 := blk_frozen BK775.out 1; have hfz9_2 := blk_frozen BK775.out 2; have hfz9_3 := blk_frozen BK775.out 3) | (go_at_call 75; (with_reducible refine (impl_isTime.calls a0_3 t777 _ A5.out).mono ?_); rintro e w' ⟨rfl, ⟨nd, rfl⟩⟩))
      go_ret
      exact ⟨er_, hb1_ HB.out GE775.out⟩
    · replace c4 := Bool.eq_false_iff.mpr c4
      subst c4
      have H1 : (some false) = some r := by rw [if_neg (show ¬ (false = true) by decide)] at H; exact H
      clear H
      have H := H1
      clear H1
      obtain rfl := Option.some.inj H
      go_enter Try.func95, Try.ntmps95
      go_wp2_with (first | ((with_reducible refine gate_dst (N := 1) rfl ?_); refine box_event ?hg (N := 1) ?hd (cs := #[.bool true, .int .i64 a0_1, .int .i64 a0_2, .int .i64 a0_3]) (t := 62) ?hr ?_; (case hd => rfl); (case hg => rfl); (case hr => first|(go_simp;done)|(go_simp;rfl)); intro gb775 hg w10 hbox hb; have n0_ := am_ (below_step (hb_ HB.out) hb); have n1_ := am_ (hbox); have n2_ := am_ (hy_ hg (hb_ HB.out) : w.heap.size ≤ gb775); have n3_ := am_ (hy_ hg (hb_ HB.out) : w.heap.size ≤ gb775); clear HB; have HB := n0_; have BK775 := n1_; have GW775 := n2_; have GE775 := n3_; clear n0_ n1_ n2_ n3_; clear hb hbox hg; have hcz11_0 := bc_ BK775.out 0 (.bool true) rfl; have hcz11_1 := bc_ BK775.out 1 (.int .i64 a0_1) rfl; have hcz11_2 := bc_ BK775.out 2 (.int .i64 a0_2) rfl; have hcz11_3 := bc_ BK775.out 3 (.int .i64 a0_3) rfl; have hfz11_0 := blk_frozen BK775.out 0; have hfz11_1 := blk_frozen BK775.out 1; have hfz11_2 := blk_frozen BK775.out 2; have hfz11_3 := blk_frozen BK775.out 3) | ((with_reducible refine gate_callee (f := 43) rfl ?_); refine goesL_ (some 11) rfl rfl Try.func43 (by kernel_rfl) rfl #[.agg #[.int .i64 a0_1, .int .i64 a0_2]] rfl arr_ ?_; (with_reducible refine (impl_IvalOk.calls a0_1 a0_2 false _ A3.out).mono ?_); rintro e w12 ⟨rfl, hb⟩; refine ⟨_, rfl, ?_⟩; have n0_ := am_ (bb_ BK775.out hb); have n1_ := am_ (below_step (hb1_ HB.out GE775.out) hb); clear BK775; clear HB; have BK775 := n0_; have HB := n1_; clear n0_ n1_; (try clear hb); (try clear hb2); (try clear hk); (try clear hi)))
      go_ret
      exact ⟨er_, hb1_ HB.out GE775.out⟩
  · replace c2 := Bool.eq_false_iff.mpr c2
    subst c2
    have H1 : (some (!false && ((a0_1 == 0 && (a0_2 == 0)) && (a0_3 == 0)))) = some r := by rw [if_neg (show ¬ (false = true) by decide)] at H; exact H
    clear H
    have H := H1
    clear H1
    obtain rfl := Option.some.inj H
    go_enter Try.func95, Try.ntmps95
    go_wp2_with (first | ((with_reducible refine gate_dst (N := 1) rfl ?_); refine box_event ?hg (N := 1) ?hd (cs := #[.bool false, .int .i64 a0_1, .int .i64 a0_2, .int .i64 a0_3]) (t := 62) ?hr ?_; (case hd => rfl); (case hg => rfl); (case hr => first|(go_simp;done)|(go_simp;rfl)); intro gb775 hg w13 hbox hb; have n0_ := am_ (below_step (hb_ HB.out) hb); have n1_ := am_ (hbox); have n2_ := am_ (hy_ hg (hb_ HB.out) : w.heap.size ≤ gb775); have n3_ := am_ (hy_ hg (hb_ HB.out) : w.heap.size ≤ gb775); clear HB; have HB := n0_; have BK775 := n1_; have GW775 := n2_; have GE775 := n3_; clear n0_ n1_ n2_ n3_; clear hb hbox hg; have hcz14_0 := bc_ BK775.out 0 (.bool false) rfl; have hcz14_1 := bc_ BK775.out 1 (.int .i64 a0_1) rfl; have hcz14_2 := bc_ BK775.out 2 (.int .i64 a0_2) rfl; have hcz14_3 := bc_ BK775.out 3 (.int .i64 a0_3) rfl; have hfz14_0 := blk_frozen BK775.out 0; have hfz14_1 := blk_frozen BK775.out 1; have hfz14_2 := blk_frozen BK775.out 2; have hfz14_3 := blk_frozen BK775.out 3))
    go_ret
    exact ⟨er_, hb1_ HB.out GE775.out⟩
end Go.Proofs.Ytejohmompmjhnaa.P
namespace Go.Proofs.Ytejohmompmjhnaa.P
open Go.RowKit Go.Proofs.YtejohmompmjhnaaW.PrintWords Go.Proofs.YtejohmompmjhnaaW.PrintLast Go.Proofs.YtejohmompmjhnaaW.PrintMore
attribute [local go_sem] max2_int min2_int max_two min_two max_three min_three max_four min_four
set_option linter.unusedVariables false
set_option linter.unusedSimpArgs false
def impl_down.f (a0 : Int) (a1 : Int) : Option (Int) := if a1 = 0 then (none) else (if (Int.tmod a0 a1) < 0 then (some (wrap64 ((wrap64 (Int.tdiv a0 a1)) - 1))) else (some (wrap64 (Int.tdiv a0 a1))))
set_option maxHeartbeats 8000000 in
set_option maxRecDepth 100000 in
theorem impl_down.calls (a0 : Int) (a1 : Int) (r : Int) (w : World) (h : impl_down.f a0 a1 = some r) :
    Calls Try.prog 104 #[.int .i64 a0, .int .i64 a1] w fun e w' => e = .returned (.int .i64 r) ∧ Drawn0 w w' := by
  have H : (if a1 = 0 then (none) else (if (Int.tmod a0 a1) < 0 then (some (wrap64 ((wrap64 (Int.tdiv a0 a1)) - 1))) else (some (wrap64 (Int.tdiv a0 a1))))) = some r := h
  clear h
  by_cases c3 : a1 = 0
  · rw [if_pos c3] at H
    exact absurd H (by simp)
  · rw [if_neg c3] at H
    have c3b0 : (a1 == 0) = false := beq_eq_false_iff_ne.mpr c3
    have c3b1 : (a1 != 0) = true := bne_iff_ne.mpr c3
    by_cases c4 : (Int.tmod a0 a1) < 0
    · rw [if_pos c4] at H
      have c4b0 : decide ((Int.tmod a0 a1) < 0) = true := decide_eq_true c4
      clear c4
      obtain rfl := Option.some.inj H
      go_enter Try.func104, Try.ntmps104
      go_wp2
      go_ret
      exact ⟨by first | rfl | (simp; done) | (simp [*]; done), by repeat (first | exact Drawn0.refl _ | apply Drawn0.step)⟩
    · rw [if_neg c4] at H
      have c4b0 : decide ((Int.tmod a0 a1) < 0) = false := decide_eq_false c4
      clear c4
      obtain rfl := Option.some.inj H
      go_enter Try.func104, Try.ntmps104
      go_wp2
      go_ret
      exact ⟨by first | rfl | (simp; done) | (simp [*]; done), by repeat (first | exact Drawn0.refl _ | apply Drawn0.step)⟩
def impl_up.f (a0 : Int) (a1 : Int) : Option (Int) := (impl_down.f (wrap64 (-a0)) a1).bind fun t778 => (some (wrap64 (-t778)))
set_option maxHeartbeats 8000000 in
set_option maxRecDepth 100000 in
theorem impl_up.calls (a0 : Int) (a1 : Int) (r : Int) (w : World) (h : impl_up.f a0 a1 = some r) :
    Calls Try.prog 100 #[.int .i64 a0, .int .i64 a1] w fun e w' => e = .returned (.int .i64 r) ∧ Drawn0 w w' := by
  have H : ((impl_down.f (wrap64 (-a0)) a1).bind fun t778 => (some (wrap64 (-t778)))) = some r := h
  clear h
  replace H := Option.bind_eq_some_iff.mp H
  obtain ⟨t778, A30, H⟩ := H
  replace H : (some (wrap64 (-t778))) = some r := H
  have A3 := Aside0.mk A30
  clear A30
  obtain rfl := Option.some.inj H
  go_enter Try.func100, Try.ntmps100
  go_wp2_with (first | ((with_reducible refine gate_callee (f := 104) rfl ?_); refine goesL_ (some 8) rfl rfl Try.func104 (by kernel_rfl) rfl #[.int .i64 (wrap64 (-a0)), .int .i64 a1] rfl arr_ ?_; (with_reducible refine (impl_down.calls (wrap64 (-a0)) a1 t778 _ A3.out).mono ?_); rintro e w' ⟨rfl, ⟨nd, rfl⟩⟩; refine ⟨_, rfl, ?_⟩))
  go_ret
  exact ⟨by first | rfl | (simp; done) | (simp [*]; done), by repeat (first | exact Drawn0.refl _ | apply Drawn0.step)⟩
end Go.Proofs.Ytejohmompmjhnaa.P
namespace Go.Proofs.Ytejohmompmjhnaa.P
open Go.RowKit Go.Proofs.YtejohmompmjhnaaW.PrintWords Go.Proofs.YtejohmompmjhnaaW.PrintLast Go.Proofs.YtejohmompmjhnaaW.PrintMore
attribute [local go_sem] max2_int min2_int max_two min_two max_three min_three max_four min_four
set_option linter.unusedVariables false
set_option linter.unusedSimpArgs false
set_option maxHeartbeats 8000000 in
set_option maxRecDepth 100000 in
theorem impl_LeastTime_1.calls (gx gd : Nat) (num den x y : Int) (w : World) (hx : w.heap[gx]? = some (.cells #[.int .i64 x] 3 (0, 0))) (hd : w.heap[gd]? = some (.cells #[.int .i64 num, .int .i64 den] 34 (0, 0))) (hu : impl_up.f (wrap64 (x * den)) (wrap64 (den + num)) = some y) :
    Calls Try.prog 99 #[.pointer (some ⟨gx, 0, none⟩), .pointer (some ⟨gd, 0, none⟩)] w fun e w' => e = .returned (.int .i64 y) ∧ Below w.heap.size w w' := by
  have hu0 := Try.underlying34
  have HB := am_ (Below.refl w.heap.size w)
  have h1 : w.cell? ⟨gx, 0, none⟩ = some (.int .i64 x) := (blk_cell hx 0).trans rfl
  have h2 : w.cell? ⟨gd, 0, none⟩ = some (.int .i64 num) := (blk_cell hd 0).trans rfl
  have h3 : w.cell? ⟨gd, 1, none⟩ = some (.int .i64 den) := (blk_cell hd 1).trans rfl
  have z1 := blk_frozen hx 0
  have z2 := blk_frozen hd 0
  have z3 := blk_frozen hd 1
  clear hx hd
  have A1 := Aside0.mk hu
  clear hu
  go_enter Try.func99, Try.ntmps99
  go_wp2_with (first | (go_at_call 100; (with_reducible refine (impl_up.calls (wrap64 (x * den)) (wrap64 (den + num)) y _ A1.out).mono ?_); rintro e w' ⟨rfl, ⟨nd, rfl⟩⟩))
  go_ret
  exact ⟨rfl, hb_ HB.out⟩
end Go.Proofs.Ytejohmompmjhnaa.P
namespace Go.Proofs.Ytejohmompmjhnaa.P
open Go.RowKit Go.Proofs.YtejohmompmjhnaaW.PrintWords Go.Proofs.YtejohmompmjhnaaW.PrintLast Go.Proofs.YtejohmompmjhnaaW.PrintMore
attribute [local go_sem] max2_int min2_int max_two min_two max_three min_three max_four min_four
set_option linter.unusedVariables false
set_option linter.unusedSimpArgs false
def impl_LeastTime.f (a0_0 : Int) (a0_1 : Int) (a1 : Int) : Option (Int × Bool) := (impl_DriftOk.f a0_0 a0_1).bind fun t1 => (if t1 = true then ((impl_up.f (wrap64 (a1 * a0_1)) (wrap64 (a0_1 + a0_0))).bind fun y => (impl_bounded.f a0_0 a0_1 a1 y)) else (impl_bounded.f a0_0 a0_1 a1 0))
set_option maxHeartbeats 8000000 in
set_option maxRecDepth 100000 in
theorem impl_LeastTime.calls (num den x : Int) (r1 : Int) (r2 : Bool) (w : World) (h : impl_LeastTime.f num den x = some (r1, r2)) :
    Calls Try.prog 80 #[.agg #[.int .i64 num, .int .i64 den], .int .i64 x] w fun e w' => e = .returned (.tuple #[.int .i64 r1, .bool r2]) ∧ Below w.heap.size w w' := by
  have hu0 := Try.underlying34
  have HB := am_ (Below.refl w.heap.size w)
  unfold impl_LeastTime.f at h
  obtain ⟨t1, A1, H⟩ := Option.bind_eq_some_iff.mp h
  clear h
  have A1 := Aside0.mk A1
  cases t1 with
  | false =>
    rw [if_neg (by decide)] at H
    have H := Aside0.mk H
    go_enter Try.func80, Try.ntmps80
    go_wp2_with (first | ((with_reducible refine gate_dst (N := 2) rfl ?_); refine box_event ?hg (N := 2) ?hd (cs := #[.int .i64 num, .int .i64 den]) (t := 34) ?hr ?_; (case hd => rfl); (case hg => rfl); (case hr => first|(go_simp;done)|(go_simp;rfl)); intro gd hg w1 hbox hb; have n0_ := am_ (below_step (hb_ HB.out) hb); clear HB; have HB := n0_; clear n0_; have Bgd := am_ (hbox); clear hb hbox hg; have hcgd0_w1 : w1.cell? ⟨gd, 0, none⟩ = some (.int .i64 num) := (blk_cell Bgd.out 0).trans rfl; have hzgd0_w1 := blk_frozen Bgd.out 0; have hcgd1_w1 : w1.cell? ⟨gd, 1, none⟩ = some (.int .i64 den) := (blk_cell Bgd.out 1).trans rfl; have hzgd1_w1 := blk_frozen Bgd.out 1) | ((with_reducible refine gate_dst (N := 3) rfl ?_); refine box_event ?hg (N := 3) ?hd (cs := #[.int .i64 x]) (t := 3) ?hr ?_; (case hd => rfl); (case hg => rfl); (case hr => first|(go_simp;done)|(go_simp;rfl)); intro gx hg w2 hbox hb; have oBgd := am_ (blk_below (bk_ Bgd.out) hb); have n0_ := am_ (below_step (hb_ HB.out) hb); clear HB; have HB := n0_; clear n0_; clear Bgd; have Bgd := oBgd; clear oBgd; have Bgx := am_ (hbox); clear hb hbox hg; have hcgd0_w2 : w2.cell? ⟨gd, 0, none⟩ = some (.int .i64 num) := (blk_cell Bgd.out 0).trans rfl; have hzgd0_w2 := blk_frozen Bgd.out 0; have hcgd1_w2 : w2.cell? ⟨gd, 1, none⟩ = some (.int .i64 den) := (blk_cell Bgd.out 1).trans rfl; have hzgd1_w2 := blk_frozen Bgd.out 1; have hcgx0_w2 : w2.cell? ⟨gx, 0, none⟩ = some (.int .i64 x) := (blk_cell Bgx.out 0).trans rfl; have hzgx0_w2 := blk_frozen Bgx.out 0) | ((go_at_call 90); (with_reducible refine (impl_bounded.calls num den x 0 99 #[.pointer (some ⟨gx, 0, none⟩), .pointer (some ⟨gd, 0, none⟩)] r1 r2 _ Try.f99 Try.func99 (by kernel_rfl) rfl ?_ H.out).mono ?_); (exact fun h1 => absurd (A1.out.symm.trans h1) (by simp)); rintro e w4 ⟨rfl, hb⟩; have n0_ := am_ (below_step (hb_ HB.out) hb); clear HB; have HB := n0_; clear n0_; (try clear hb)))
    go_ret2
    exact ⟨rfl, hb_ HB.out⟩
  | true =>
    rw [if_pos rfl] at H
    obtain ⟨y, A2, H⟩ := Option.bind_eq_some_iff.mp H
    have A2 := Aside0.mk A2
    have H := Aside0.mk H
    go_enter Try.func80, Try.ntmps80
    go_wp2_with (first | ((with_reducible refine gate_dst (N := 2) rfl ?_); refine box_event ?hg (N := 2) ?hd (cs := #[.int .i64 num, .int .i64 den]) (t := 34) ?hr ?_; (case hd => rfl); (case hg => rfl); (case hr => first|(go_simp;done)|(go_simp;rfl)); intro gd hg w1 hbox hb; have n0_ := am_ (below_step (hb_ HB.out) hb); clear HB; have HB := n0_; clear n0_; have Bgd := am_ (hbox); clear hb hbox hg; have hcgd0_w1 : w1.cell? ⟨gd, 0, none⟩ = some (.int .i64 num) := (blk_cell Bgd.out 0).trans rfl; have hzgd0_w1 := blk_frozen Bgd.out 0; have hcgd1_w1 : w1.cell? ⟨gd, 1, none⟩ = some (.int .i64 den) := (blk_cell Bgd.out 1).trans rfl; have hzgd1_w1 := blk_frozen Bgd.out 1) | ((with_reducible refine gate_dst (N := 3) rfl ?_); refine box_event ?hg (N := 3) ?hd (cs := #[.int .i64 x]) (t := 3) ?hr ?_; (case hd => rfl); (case hg => rfl); (case hr => first|(go_simp;done)|(go_simp;rfl)); intro gx hg w2 hbox hb; have oBgd := am_ (blk_below (bk_ Bgd.out) hb); have n0_ := am_ (below_step (hb_ HB.out) hb); clear HB; have HB := n0_; clear n0_; clear Bgd; have Bgd := oBgd; clear oBgd; have Bgx := am_ (hbox); clear hb hbox hg; have hcgd0_w2 : w2.cell? ⟨gd, 0, none⟩ = some (.int .i64 num) := (blk_cell Bgd.out 0).trans rfl; have hzgd0_w2 := blk_frozen Bgd.out 0; have hcgd1_w2 : w2.cell? ⟨gd, 1, none⟩ = some (.int .i64 den) := (blk_cell Bgd.out 1).trans rfl; have hzgd1_w2 := blk_frozen Bgd.out 1; have hcgx0_w2 : w2.cell? ⟨gx, 0, none⟩ = some (.int .i64 x) := (blk_cell Bgx.out 0).trans rfl; have hzgx0_w2 := blk_frozen Bgx.out 0) | ((go_at_call 90); (with_reducible refine (impl_bounded.calls num den x y 99 #[.pointer (some ⟨gx, 0, none⟩), .pointer (some ⟨gd, 0, none⟩)] r1 r2 _ Try.f99 Try.func99 (by kernel_rfl) rfl ?_ H.out).mono ?_); (exact fun _ _ W hW => impl_LeastTime_1.calls gx gd num den x y W (blk_below (bk_ Bgx.out) hW) (blk_below (bk_ Bgd.out) hW) A2.out); rintro e w4 ⟨rfl, hb⟩; have n0_ := am_ (below_step (hb_ HB.out) hb); clear HB; have HB := n0_; clear n0_; (try clear hb)))
    go_ret2
    exact ⟨rfl, hb_ HB.out⟩
def impl_both.f (a0_0 : Int) (a0_1 : Int) (a1 : Int) : Option (Int × Int × Bool) := (impl_LeastTime.f a0_0 a0_1 a1).bind fun bt781 => ((impl_MostTime.f a0_0 a0_1 a1).bind fun bt783 => (if bt781.2 = true then (if bt783.2 = true then (some (bt781.1, bt783.1, true)) else (some (0, 0, false))) else (some (0, 0, false))))
set_option maxHeartbeats 8000000 in
set_option maxRecDepth 100000 in
theorem impl_both.calls (a0_0 : Int) (a0_1 : Int) (a1 : Int) (r1 : Int) (r2 : Int) (r3 : Bool) (w : World) (h : impl_both.f a0_0 a0_1 a1 = some (r1, r2, r3)) :
    Calls Try.prog 102 #[.agg #[.int .i64 a0_0, .int .i64 a0_1], .int .i64 a1, .func (.func 80) #[] #[], .func (.func 52) #[] #[]] w fun e w' => e = .returned (.tuple #[.agg #[.int .i64 r1, .int .i64 r2], .bool r3]) ∧ Below w.heap.size w w' := by
  have hu34 := Try.underlying34
  have hu32 := Try.underlying32
  have HB := am_ (Below.refl w.heap.size w)
  have H : ((impl_LeastTime.f a0_0 a0_1 a1).bind fun bt781 => ((impl_MostTime.f a0_0 a0_1 a1).bind fun bt783 => (if bt781.2 = true then (if bt783.2 = true then (some (bt781.1, bt783.1, true)) else (some (0, 0, false))) else (some (0, 0, false))))) = some (r1, r2, r3) := h
  clear h
  replace H := Option.bind_eq_some_iff.mp H
  obtain ⟨⟨t781, t782⟩, A30, H⟩ := H
  replace H : ((impl_MostTime.f a0_0 a0_1 a1).bind fun bt783 => (if t782 = true then (if bt783.2 = true then (some (t781, bt783.1, true)) else (some (0, 0, false))) else (some (0, 0, false)))) = some (r1, r2, r3) := H
  have A3 := Aside0.mk A30
  clear A30
  replace H := Option.bind_eq_some_iff.mp H
  obtain ⟨⟨t783, t784⟩, A40, H⟩ := H
  replace H : (if t782 = true then (if t784 = true then (some (t781, t783, true)) else (some (0, 0, false))) else (some (0, 0, false))) = some (r1, r2, r3) := H
  have A4 := Aside0.mk A40
  clear A40
  by_cases c5 : t782 = true
  · subst c5
    have H1 : (if t784 = true then (some (t781, t783, true)) else (some (0, 0, false))) = some (r1, r2, r3) := by rw [if_pos rfl] at H; exact H
    clear H
    have H := H1
    clear H1
    by_cases c6 : t784 = true
    · subst c6
      have H1 : (some (t781, t783, true)) = some (r1, r2, r3) := by rw [if_pos rfl] at H; exact H
      clear H
      have H := H1
      clear H1
      simp only [Option.some.injEq, Prod.mk.injEq] at H
      obtain ⟨rfl, rfl, rfl⟩ := H
      go_enter Try.func102, Try.ntmps102
      go_wp2_with (first | ((with_reducible refine gate_dst (N := 4) rfl ?_); refine box_event ?hg (N := 4) ?hd (cs := #[.int .i64 a0_0, .int .i64 a0_1]) (t := 34) ?hr ?_; (case hd => rfl); (case hg => rfl); (case hr => first|(go_simp;done)|(go_simp;rfl)); intro gb779 hg w7 hbox hb; have n0_ := am_ (below_step (hb_ HB.out) hb); have n1_ := am_ (hbox); have n2_ := am_ (hy_ hg (hb_ HB.out) : w.heap.size ≤ gb779); have n3_ := am_ (hy_ hg (hb_ HB.out) : w.heap.size ≤ gb779); clear HB; have HB := n0_; have BK779 := n1_; have GW779 := n2_; have GE779 := n3_; clear n0_ n1_ n2_ n3_; clear hb hbox hg) | ((with_reducible refine gate_dst (N := 8) rfl ?_); refine box_event ?hg (N := 8) ?hd (cs := #[.int .i64 0, .int .i64 0]) (t := 32) ?hr ?_; (case hd => rfl); (case hg => rfl); (case hr => first|(go_simp;done)|(go_simp;rfl)); intro gb780 hg w8 hbox hb; have n0_ := am_ (bb_ BK779.out hb); have n1_ := am_ (below_step (hb1_ HB.out GE779.out) hb); have n2_ := am_ (hbox); have n3_ := am_ (hy_ hg (hb1_ HB.out GE779.out) : w.heap.size ≤ gb780); have n4_ := am_ (hy_ hg (hb1_ HB.out GE779.out) : w.heap.size ≤ gb780); have n5_ := am_ ((bl_ hg BK779.out : gb779 ≠ gb780)); have n6_ := am_ ((bg_ hg BK779.out : gb780 ≠ gb779)); clear BK779; clear HB; have BK779 := n0_; have HB := n1_; have BK780 := n2_; have GW780 := n3_; have GE780 := n4_; have NB779_780 := n5_; have NB780_779 := n6_; clear n0_ n1_ n2_ n3_ n4_ n5_ n6_; clear hb hbox hg; have hnb9 := NB779_780.out; have hnc9 := NB780_779.out; have hcz10_0 := bc_ BK779.out 0 (.int .i64 a0_0) rfl; have hcz10_1 := bc_ BK779.out 1 (.int .i64 a0_1) rfl; have hfz10_0 := blk_frozen BK779.out 0; have hfz10_1 := blk_frozen BK779.out 1) | (go_at_call 80; (with_reducible refine (impl_LeastTime.calls a0_0 a0_1 a1 t781 true _ A3.out).mono ?_); rintro e w11 ⟨rfl, hb⟩; have n0_ := am_ (bb_ BK779.out hb); have n1_ := am_ (bb_ BK780.out hb); have n2_ := am_ (below_step (hb2_ HB.out GE779.out GE780.out) hb); clear BK779; clear BK780; clear HB; have BK779 := n0_; have BK780 := n1_; have HB := n2_; clear n0_ n1_ n2_; (try clear hb); (try clear hb2); (try clear hk); (try clear hi); have hcz12_0 := bc_ BK779.out 0 (.int .i64 a0_0) rfl; have hcz12_1 := bc_ BK779.out 1 (.int .i64 a0_1) rfl; have hfz12_0 := blk_frozen BK779.out 0; have hfz12_1 := blk_frozen BK779.out 1) | (go_at_call 52; (with_reducible refine (impl_MostTime.calls a0_0 a0_1 a1 t783 true _ A4.out).mono ?_); rintro e w13 ⟨rfl, hb⟩; have n0_ := am_ (bb_ BK779.out hb); have n1_ := am_ (bb_ BK780.out hb); have n2_ := am_ (below_step (hb2_ HB.out GE779.out GE780.out) hb); clear BK779; clear BK780; clear HB; have BK779 := n0_; have BK780 := n1_; have HB := n2_; clear n0_ n1_ n2_; (try clear hb); (try clear hb2); (try clear hk); (try clear hi); have hcz14_0 := bc_ BK780.out 0 (.int .i64 0) rfl; have hcz14_1 := bc_ BK780.out 1 (.int .i64 0) rfl; have hfz14_0 := blk_frozen BK780.out 0; have hfz14_1 := blk_frozen BK780.out 1))
      refine bodyPost_ret (results_ct rfl _ _ gb780 32 #[.int .i64 t781, .int .i64 t783] (0, 0) _ rfl (by (with_reducible repeat (first | refine blk_drewN ?_ _ | refine blk_drew ?_ | refine blk_alloc ?_ _)); refine blk_put (cs := #[.int .i64 t781, .int .i64 0]) ?_ 1 _ rfl; (with_reducible repeat (first | refine blk_drewN ?_ _ | refine blk_drew ?_ | refine blk_alloc ?_ _)); refine blk_put (cs := #[.int .i64 0, .int .i64 0]) ?_ 0 _ rfl; (with_reducible repeat (first | refine blk_drewN ?_ _ | refine blk_drew ?_ | refine blk_alloc ?_ _)); exact BK780.out) Try.underlying32 rfl (by kernel_rfl)) rfl ?_
      exact ⟨er_, hb2_ HB.out GE779.out GE780.out⟩
    · replace c6 := Bool.eq_false_iff.mpr c6
      subst c6
      have H1 : (some (0, 0, false)) = some (r1, r2, r3) := by rw [if_neg (show ¬ (false = true) by decide)] at H; exact H
      clear H
      have H := H1
      clear H1
      simp only [Option.some.injEq, Prod.mk.injEq] at H
      obtain ⟨rfl, rfl, rfl⟩ := H
      go_enter Try.func102, Try.ntmps102
      go_wp2_with (first | ((with_reducible refine gate_dst (N := 4) rfl ?_); refine box_event ?hg (N := 4) ?hd (cs := #[.int .i64 a0_0, .int .i64 a0_1]) (t := 34) ?hr ?_; (case hd => rfl); (case hg => rfl); (case hr => first|(go_simp;done)|(go_simp;rfl)); intro gb779 hg w15 hbox hb; have n0_ := am_ (below_step (hb_ HB.out) hb); have n1_ := am_ (hbox); have n2_ := am_ (hy_ hg (hb_ HB.out) : w.heap.size ≤ gb779); have n3_ := am_ (hy_ hg (hb_ HB.out) : w.heap.size ≤ gb779); clear HB; have HB := n0_; have BK779 := n1_; have GW779 := n2_; have GE779 := n3_; clear n0_ n1_ n2_ n3_; clear hb hbox hg) | ((with_reducible refine gate_dst (N := 8) rfl ?_); refine box_event ?hg (N := 8) ?hd (cs := #[.int .i64 0, .int .i64 0]) (t := 32) ?hr ?_; (case hd => rfl); (case hg => rfl); (case hr => first|(go_simp;done)|(go_simp;rfl)); intro gb780 hg w16 hbox hb; have n0_ := am_ (bb_ BK779.out hb); have n1_ := am_ (below_step (hb1_ HB.out GE779.out) hb); have n2_ := am_ (hbox); have n3_ := am_ (hy_ hg (hb1_ HB.out GE779.out) : w.heap.size ≤ gb780); have n4_ := am_ (hy_ hg (hb1_ HB.out GE779.out) : w.heap.size ≤ gb780); have n5_ := am_ ((bl_ hg BK779.out : gb779 ≠ gb780)); have n6_ := am_ ((bg_ hg BK779.out : gb780 ≠ gb779)); clear BK779; clear HB; have BK779 := n0_; have HB := n1_; have BK780 := n2_; have GW780 := n3_; have GE780 := n4_; have NB779_780 := n5_; have NB780_779 := n6_; clear n0_ n1_ n2_ n3_ n4_ n5_ n6_; clear hb hbox hg; have hnb17 := NB779_780.out; have hnc17 := NB780_779.out; have hcz18_0 := bc_ BK779.out 0 (.int .i64 a0_0) rfl; have hcz18_1 := bc_ BK779.out 1 (.int .i64 a0_1) rfl; have hfz18_0 := blk_frozen BK779.out 0; have hfz18_1 := blk_frozen BK779.out 1) | (go_at_call 80; (with_reducible refine (impl_LeastTime.calls a0_0 a0_1 a1 t781 true _ A3.out).mono ?_); rintro e w19 ⟨rfl, hb⟩; have n0_ := am_ (bb_ BK779.out hb); have n1_ := am_ (bb_ BK780.out hb); have n2_ := am_ (below_step (hb2_ HB.out GE779.out GE780.out) hb); clear BK779; clear BK780; clear HB; have BK779 := n0_; have BK780 := n1_; have HB := n2_; clear n0_ n1_ n2_; (try clear hb); (try clear hb2); (try clear hk); (try clear hi); have hcz20_0 := bc_ BK779.out 0 (.int .i64 a0_0) rfl; have hcz20_1 := bc_ BK779.out 1 (.int .i64 a0_1) rfl; have hfz20_0 := blk_frozen BK779.out 0; have hfz20_1 := blk_frozen BK779.out 1) | (go_at_call 52; (with_reducible refine (impl_MostTime.calls a0_0 a0_1 a1 t783 false _ A4.out).mono ?_); rintro e w21 ⟨rfl, hb⟩; have n0_ := am_ (bb_ BK779.out hb); have n1_ := am_ (bb_ BK780.out hb); have n2_ := am_ (below_step (hb2_ HB.out GE779.out GE780.out) hb); clear BK779; clear BK780; clear HB; have BK779 := n0_; have BK780 := n1_; have HB := n2_; clear n0_ n1_ n2_; (try clear hb); (try clear hb2); (try clear hk); (try clear hi); have hcz22_0 := bc_ BK780.out 0 (.int .i64 0) rfl; have hcz22_1 := bc_ BK780.out 1 (.int .i64 0) rfl; have hfz22_0 := blk_frozen BK780.out 0; have hfz22_1 := blk_frozen BK780.out 1))
      refine bodyPost_ret (results_ct rfl _ _ gb780 32 #[.int .i64 0, .int .i64 0] (0, 0) _ rfl (by (with_reducible repeat (first | refine blk_drewN ?_ _ | refine blk_drew ?_ | refine blk_alloc ?_ _)); refine blk_put (cs := #[.int .i64 0, .int .i64 0]) ?_ 1 _ rfl; (with_reducible repeat (first | refine blk_drewN ?_ _ | refine blk_drew ?_ | refine blk_alloc ?_ _)); refine blk_put (cs := #[.int .i64 0, .int .i64 0]) ?_ 0 _ rfl; (with_reducible repeat (first | refine blk_drewN ?_ _ | refine blk_drew ?_ | refine blk_alloc ?_ _)); exact BK780.out) Try.underlying32 rfl (by kernel_rfl)) rfl ?_
      exact ⟨er_, hb2_ HB.out GE779.out GE780.out⟩
  · replace c5 := Bool.eq_false_iff.mpr c5
    subst c5
    have H1 : (some (0, 0, false)) = some (r1, r2, r3) := by rw [if_neg (show ¬ (false = true) by decide)] at H; exact H
    clear H
    have H := H1
    clear H1
    simp only [Option.some.injEq, Prod.mk.injEq] at H
    obtain ⟨rfl, rfl, rfl⟩ := H
    go_enter Try.func102, Try.ntmps102
    go_wp2_with (first | ((with_reducible refine gate_dst (N := 4) rfl ?_); refine box_event ?hg (N := 4) ?hd (cs := #[.int .i64 a0_0, .int .i64 a0_1]) (t := 34) ?hr ?_; (case hd => rfl); (case hg => rfl); (case hr => first|(go_simp;done)|(go_simp;rfl)); intro gb779 hg w23 hbox hb; have n0_ := am_ (below_step (hb_ HB.out) hb); have n1_ := am_ (hbox); have n2_ := am_ (hy_ hg (hb_ HB.out) : w.heap.size ≤ gb779); have n3_ := am_ (hy_ hg (hb_ HB.out) : w.heap.size ≤ gb779); clear HB; have HB := n0_; have BK779 := n1_; have GW779 := n2_; have GE779 := n3_; clear n0_ n1_ n2_ n3_; clear hb hbox hg) | ((with_reducible refine gate_dst (N := 8) rfl ?_); refine box_event ?hg (N := 8) ?hd (cs := #[.int .i64 0, .int .i64 0]) (t := 32) ?hr ?_; (case hd => rfl); (case hg => rfl); (case hr => first|(go_simp;done)|(go_simp;rfl)); intro gb780 hg w24 hbox hb; have n0_ := am_ (bb_ BK779.out hb); have n1_ := am_ (below_step (hb1_ HB.out GE779.out) hb); have n2_ := am_ (hbox); have n3_ := am_ (hy_ hg (hb1_ HB.out GE779.out) : w.heap.size ≤ gb780); have n4_ := am_ (hy_ hg (hb1_ HB.out GE779.out) : w.heap.size ≤ gb780); have n5_ := am_ ((bl_ hg BK779.out : gb779 ≠ gb780)); have n6_ := am_ ((bg_ hg BK779.out : gb780 ≠ gb779)); clear BK779; clear HB; have BK779 := n0_; have HB := n1_; have BK780 := n2_; have GW780 := n3_; have GE780 := n4_; have NB779_780 := n5_; have NB780_779 := n6_; clear n0_ n1_ n2_ n3_ n4_ n5_ n6_; clear hb hbox hg; have hnb25 := NB779_780.out; have hnc25 := NB780_779.out; have hcz26_0 := bc_ BK779.out 0 (.int .i64 a0_0) rfl; have hcz26_1 := bc_ BK779.out 1 (.int .i64 a0_1) rfl; have hfz26_0 := blk_frozen BK779.out 0; have hfz26_1 := blk_frozen BK779.out 1) | (go_at_call 80; (with_reducible refine (impl_LeastTime.calls a0_0 a0_1 a1 t781 false _ A3.out).mono ?_); rintro e w27 ⟨rfl, hb⟩; have n0_ := am_ (bb_ BK779.out hb); have n1_ := am_ (bb_ BK780.out hb); have n2_ := am_ (below_step (hb2_ HB.out GE779.out GE780.out) hb); clear BK779; clear BK780; clear HB; have BK779 := n0_; have BK780 := n1_; have HB := n2_; clear n0_ n1_ n2_; (try clear hb); (try clear hb2); (try clear hk); (try clear hi); have hcz28_0 := bc_ BK779.out 0 (.int .i64 a0_0) rfl; have hcz28_1 := bc_ BK779.out 1 (.int .i64 a0_1) rfl; have hfz28_0 := blk_frozen BK779.out 0; have hfz28_1 := blk_frozen BK779.out 1) | (go_at_call 52; (with_reducible refine (impl_MostTime.calls a0_0 a0_1 a1 t783 t784 _ A4.out).mono ?_); rintro e w29 ⟨rfl, hb⟩; have n0_ := am_ (bb_ BK779.out hb); have n1_ := am_ (bb_ BK780.out hb); have n2_ := am_ (below_step (hb2_ HB.out GE779.out GE780.out) hb); clear BK779; clear BK780; clear HB; have BK779 := n0_; have BK780 := n1_; have HB := n2_; clear n0_ n1_ n2_; (try clear hb); (try clear hb2); (try clear hk); (try clear hi); have hcz30_0 := bc_ BK780.out 0 (.int .i64 0) rfl; have hcz30_1 := bc_ BK780.out 1 (.int .i64 0) rfl; have hfz30_0 := blk_frozen BK780.out 0; have hfz30_1 := blk_frozen BK780.out 1))
    refine bodyPost_ret (results_ct rfl _ _ gb780 32 #[.int .i64 0, .int .i64 0] (0, 0) _ rfl (by (with_reducible repeat (first | refine blk_drewN ?_ _ | refine blk_drew ?_ | refine blk_alloc ?_ _)); refine blk_put (cs := #[.int .i64 0, .int .i64 0]) ?_ 1 _ rfl; (with_reducible repeat (first | refine blk_drewN ?_ _ | refine blk_drew ?_ | refine blk_alloc ?_ _)); refine blk_put (cs := #[.int .i64 0, .int .i64 0]) ?_ 0 _ rfl; (with_reducible repeat (first | refine blk_drewN ?_ _ | refine blk_drew ?_ | refine blk_alloc ?_ _)); exact BK780.out) Try.underlying32 rfl (by kernel_rfl)) rfl ?_
    exact ⟨er_, hb2_ HB.out GE779.out GE780.out⟩
def impl_Between.f (a0_0 : Int) (a0_1 : Int) (a1 : Int) : Option (Int × Int × Bool) := (impl_both.f a0_0 a0_1 a1).bind fun bt787 => (some (bt787.1, bt787.2.1, bt787.2.2))
set_option maxHeartbeats 8000000 in
set_option maxRecDepth 100000 in
theorem impl_Between.calls (a0_0 : Int) (a0_1 : Int) (a1 : Int) (r1 : Int) (r2 : Int) (r3 : Bool) (w : World) (h : impl_Between.f a0_0 a0_1 a1 = some (r1, r2, r3)) :
    Calls Try.prog 96 #[.agg #[.int .i64 a0_0, .int .i64 a0_1], .int .i64 a1] w fun e w' => e = .returned (.tuple #[.agg #[.int .i64 r1, .int .i64 r2], .bool r3]) ∧ Below w.heap.size w w' := by
  have hu34 := Try.underlying34
  have hu32 := Try.underlying32
  have HB := am_ (Below.refl w.heap.size w)
  have H : ((impl_both.f a0_0 a0_1 a1).bind fun bt787 => (some (bt787.1, bt787.2.1, bt787.2.2))) = some (r1, r2, r3) := h
  clear h
  replace H := Option.bind_eq_some_iff.mp H
  obtain ⟨⟨t787, t788, t789⟩, A30, H⟩ := H
  replace H : (some (t787, t788, t789)) = some (r1, r2, r3) := H
  have A3 := Aside0.mk A30
  clear A30
  simp only [Option.some.injEq, Prod.mk.injEq] at H
  obtain ⟨rfl, rfl, rfl⟩ := H
  go_enter Try.func96, Try.ntmps96
  go_wp2_with (first | ((with_reducible refine gate_dst (N := 2) rfl ?_); refine box_event ?hg (N := 2) ?hd (cs := #[.int .i64 a0_0, .int .i64 a0_1]) (t := 34) ?hr ?_; (case hd => rfl); (case hg => rfl); (case hr => first|(go_simp;done)|(go_simp;rfl)); intro gb785 hg w4 hbox hb; have n0_ := am_ (below_step (hb_ HB.out) hb); have n1_ := am_ (hbox); have n2_ := am_ (hy_ hg (hb_ HB.out) : w.heap.size ≤ gb785); have n3_ := am_ (hy_ hg (hb_ HB.out) : w.heap.size ≤ gb785); clear HB; have HB := n0_; have BK785 := n1_; have GW785 := n2_; have GE785 := n3_; clear n0_ n1_ n2_ n3_; clear hb hbox hg) | ((with_reducible refine gate_dst (N := 4) rfl ?_); refine box_event ?hg (N := 4) ?hd (cs := #[.int .i64 0, .int .i64 0]) (t := 32) ?hr ?_; (case hd => rfl); (case hg => rfl); (case hr => first|(go_simp;done)|(go_simp;rfl)); intro gb786 hg w5 hbox hb; have n0_ := am_ (bb_ BK785.out hb); have n1_ := am_ (below_step (hb1_ HB.out GE785.out) hb); have n2_ := am_ (hbox); have n3_ := am_ (hy_ hg (hb1_ HB.out GE785.out) : w.heap.size ≤ gb786); have n4_ := am_ (hy_ hg (hb1_ HB.out GE785.out) : w.heap.size ≤ gb786); have n5_ := am_ ((bl_ hg BK785.out : gb785 ≠ gb786)); have n6_ := am_ ((bg_ hg BK785.out : gb786 ≠ gb785)); clear BK785; clear HB; have BK785 := n0_; have HB := n1_; have BK786 := n2_; have GW786 := n3_; have GE786 := n4_; have NB785_786 := n5_; have NB786_785 := n6_; clear n0_ n1_ n2_ n3_ n4_ n5_ n6_; clear hb hbox hg; have hnb6 := NB785_786.out; have hnc6 := NB786_785.out; have hcz7_0 := bc_ BK785.out 0 (.int .i64 a0_0) rfl; have hcz7_1 := bc_ BK785.out 1 (.int .i64 a0_1) rfl; have hfz7_0 := blk_frozen BK785.out 0; have hfz7_1 := blk_frozen BK785.out 1) | ((with_reducible refine gate_callee (f := 102) rfl ?_); refine goesL_ (some 8) rfl rfl Try.func102 (by kernel_rfl) rfl #[.agg #[.int .i64 a0_0, .int .i64 a0_1], .int .i64 a1, .func (.func 80) #[] #[], .func (.func 52) #[] #[]] rfl arr_ ?_; (with_reducible refine (impl_both.calls a0_0 a0_1 a1 t787 t788 t789 _ A3.out).mono ?_); rintro e w8 ⟨rfl, hb⟩; refine ⟨_, rfl, ?_⟩; have n0_ := am_ (bb_ BK785.out hb); have n1_ := am_ (bb_ BK786.out hb); have n2_ := am_ (below_step (hb2_ HB.out GE785.out GE786.out) hb); clear BK785; clear BK786; clear HB; have BK785 := n0_; have BK786 := n1_; have HB := n2_; clear n0_ n1_ n2_; (try clear hb); (try clear hb2); (try clear hk); (try clear hi); have hcz9_0 := bc_ BK786.out 0 (.int .i64 0) rfl; have hcz9_1 := bc_ BK786.out 1 (.int .i64 0) rfl; have hfz9_0 := blk_frozen BK786.out 0; have hfz9_1 := blk_frozen BK786.out 1))
  refine bodyPost_ret (results_ct rfl _ _ gb786 32 #[.int .i64 t787, .int .i64 t788] (0, 0) _ rfl (by (with_reducible repeat (first | refine blk_drewN ?_ _ | refine blk_drew ?_ | refine blk_alloc ?_ _)); refine blk_put (cs := #[.int .i64 t787, .int .i64 0]) ?_ 1 _ rfl; (with_reducible repeat (first | refine blk_drewN ?_ _ | refine blk_drew ?_ | refine blk_alloc ?_ _)); refine blk_put (cs := #[.int .i64 0, .int .i64 0]) ?_ 0 _ rfl; (with_reducible repeat (first | refine blk_drewN ?_ _ | refine blk_drew ?_ | refine blk_alloc ?_ _)); exact BK786.out) Try.underlying32 rfl (by kernel_rfl)) rfl ?_
  exact ⟨er_, hb2_ HB.out GE785.out GE786.out⟩
def impl_PlusIval.f (a0_0 : Int) (a0_1 : Int) (a1_0 : Int) (a1_1 : Int) : Option (Int × Int × Bool) := (impl_IvalOk.f a0_0 a0_1).bind fun t793 => (if t793 = true then ((impl_IvalOk.f a1_0 a1_1).bind fun t794 => (if t794 = true then ((impl_ival.f (wrap64 (a0_0 + a1_0)) (wrap64 (a0_1 + a1_1))).bind fun bt795 => (some (bt795.1, bt795.2.1, bt795.2.2))) else (some (0, 0, false)))) else (some (0, 0, false)))
set_option maxHeartbeats 8000000 in
set_option maxRecDepth 100000 in
theorem impl_PlusIval.calls (a0_0 : Int) (a0_1 : Int) (a1_0 : Int) (a1_1 : Int) (r1 : Int) (r2 : Int) (r3 : Bool) (w : World) (h : impl_PlusIval.f a0_0 a0_1 a1_0 a1_1 = some (r1, r2, r3)) :
    Calls Try.prog 97 #[.agg #[.int .i64 a0_0, .int .i64 a0_1], .agg #[.int .i64 a1_0, .int .i64 a1_1]] w fun e w' => e = .returned (.tuple #[.agg #[.int .i64 r1, .int .i64 r2], .bool r3]) ∧ Below w.heap.size w w' := by
  have hu32 := Try.underlying32
  have HB := am_ (Below.refl w.heap.size w)
  have H : ((impl_IvalOk.f a0_0 a0_1).bind fun t793 => (if t793 = true then ((impl_IvalOk.f a1_0 a1_1).bind fun t794 => (if t794 = true then ((impl_ival.f (wrap64 (a0_0 + a1_0)) (wrap64 (a0_1 + a1_1))).bind fun bt795 => (some (bt795.1, bt795.2.1, bt795.2.2))) else (some (0, 0, false)))) else (some (0, 0, false)))) = some (r1, r2, r3) := h
  clear h
  replace H := Option.bind_eq_some_iff.mp H
  obtain ⟨t793, A30, H⟩ := H
  replace H : (if t793 = true then ((impl_IvalOk.f a1_0 a1_1).bind fun t794 => (if t794 = true then ((impl_ival.f (wrap64 (a0_0 + a1_0)) (wrap64 (a0_1 + a1_1))).bind fun bt795 => (some (bt795.1, bt795.2.1, bt795.2.2))) else (some (0, 0, false)))) else (some (0, 0, false))) = some (r1, r2, r3) := H
  have A3 := Aside0.mk A30
  clear A30
  by_cases c4 : t793 = true
  · subst c4
    have H1 : ((impl_IvalOk.f a1_0 a1_1).bind fun t794 => (if t794 = true then ((impl_ival.f (wrap64 (a0_0 + a1_0)) (wrap64 (a0_1 + a1_1))).bind fun bt795 => (some (bt795.1, bt795.2.1, bt795.2.2))) else (some (0, 0, false)))) = some (r1, r2, r3) := by rw [if_pos rfl] at H; exact H
    clear H
    have H := H1
    clear H1
    replace H := Option.bind_eq_some_iff.mp H
    obtain ⟨t794, A50, H⟩ := H
    replace H : (if t794 = true then ((impl_ival.f (wrap64 (a0_0 + a1_0)) (wrap64 (a0_1 + a1_1))).bind fun bt795 => (some (bt795.1, bt795.2.1, bt795.2.2))) else (some (0, 0, false))) = some (r1, r2, r3) := H
    have A5 := Aside0.mk A50
    clear A50
    by_cases c6 : t794 = true
    · subst c6
      have H1 : ((impl_ival.f (wrap64 (a0_0 + a1_0)) (wrap64 (a0_1 + a1_1))).bind fun bt795 => (some (bt795.1, bt795.2.1, bt795.2.2))) = some (r1, r2, r3) := by rw [if_pos rfl] at H; exact H
      clear H
      have H := H1
      clear H1
      replace H := Option.bind_eq_some_iff.mp H
      obtain ⟨⟨t795, t796, t797⟩, A70, H⟩ := H
      replace H : (some (t795, t796, t797)) = some (r1, r2, r3) := H
      have A7 := Aside0.mk A70
      clear A70
      simp only [Option.some.injEq, Prod.mk.injEq] at H
      obtain ⟨rfl, rfl, rfl⟩ := H
      go_enter Try.func97, Try.ntmps97
      go_wp2_with (first | ((with_reducible refine gate_dst (N := 2) rfl ?_); refine box_event ?hg (N := 2) ?hd (cs := #[.int .i64 a0_0, .int .i64 a0_1]) (t := 32) ?hr ?_; (case hd => rfl); (case hg => rfl); (case hr => first|(go_simp;done)|(go_simp;rfl)); intro gb790 hg w8 hbox hb; have n0_ := am_ (below_step (hb_ HB.out) hb); have n1_ := am_ (hbox); have n2_ := am_ (hy_ hg (hb_ HB.out) : w.heap.size ≤ gb790); have n3_ := am_ (hy_ hg (hb_ HB.out) : w.heap.size ≤ gb790); clear HB; have HB := n0_; have BK790 := n1_; have GW790 := n2_; have GE790 := n3_; clear n0_ n1_ n2_ n3_; clear hb hbox hg) | ((with_reducible refine gate_dst (N := 3) rfl ?_); refine box_event ?hg (N := 3) ?hd (cs := #[.int .i64 a1_0, .int .i64 a1_1]) (t := 32) ?hr ?_; (case hd => rfl); (case hg => rfl); (case hr => first|(go_simp;done)|(go_simp;rfl)); intro gb791 hg w9 hbox hb; have n0_ := am_ (bb_ BK790.out hb); have n1_ := am_ (below_step (hb1_ HB.out GE790.out) hb); have n2_ := am_ (hbox); have n3_ := am_ (hy_ hg (hb1_ HB.out GE790.out) : w.heap.size ≤ gb791); have n4_ := am_ (hy_ hg (hb1_ HB.out GE790.out) : w.heap.size ≤ gb791); have n5_ := am_ ((bl_ hg BK790.out : gb790 ≠ gb791)); have n6_ := am_ ((bg_ hg BK790.out : gb791 ≠ gb790)); clear BK790; clear HB; have BK790 := n0_; have HB := n1_; have BK791 := n2_; have GW791 := n3_; have GE791 := n4_; have NB790_791 := n5_; have NB791_790 := n6_; clear n0_ n1_ n2_ n3_ n4_ n5_ n6_; clear hb hbox hg) | ((with_reducible refine gate_dst (N := 4) rfl ?_); refine box_event ?hg (N := 4) ?hd (cs := #[.int .i64 0, .int .i64 0]) (t := 32) ?hr ?_; (case hd => rfl); (case hg => rfl); (case hr => first|(go_simp;done)|(go_simp;rfl)); intro gb792 hg w10 hbox hb; have n0_ := am_ (bb_ BK790.out hb); have n1_ := am_ (bb_ BK791.out hb); have n2_ := am_ (below_step (hb2_ HB.out GE790.out GE791.out) hb); have n3_ := am_ (hbox); have n4_ := am_ (hy_ hg (hb2_ HB.out GE790.out GE791.out) : w.heap.size ≤ gb792); have n5_ := am_ (hy_ hg (hb2_ HB.out GE790.out GE791.out) : w.heap.size ≤ gb792); have n6_ := am_ ((bl_ hg BK790.out : gb790 ≠ gb792)); have n7_ := am_ ((bg_ hg BK790.out : gb792 ≠ gb790)); have n8_ := am_ ((bl_ hg BK791.out : gb791 ≠ gb792)); have n9_ := am_ ((bg_ hg BK791.out : gb792 ≠ gb791)); clear BK790; clear BK791; clear HB; have BK790 := n0_; have BK791 := n1_; have HB := n2_; have BK792 := n3_; have GW792 := n4_; have GE792 := n5_; have NB790_792 := n6_; have NB792_790 := n7_; have NB791_792 := n8_; have NB792_791 := n9_; clear n0_ n1_ n2_ n3_ n4_ n5_ n6_ n7_ n8_ n9_; clear hb hbox hg; have hnb11 := NB790_791.out; have hnc11 := NB791_790.out; have hnb12 := NB790_792.out; have hnc12 := NB792_790.out; have hcz13_0 := bc_ BK790.out 0 (.int .i64 a0_0) rfl; have hcz13_1 := bc_ BK790.out 1 (.int .i64 a0_1) rfl; have hfz13_0 := blk_frozen BK790.out 0; have hfz13_1 := blk_frozen BK790.out 1) | ((with_reducible refine gate_callee (f := 43) rfl ?_); refine goesL_ (some 7) rfl rfl Try.func43 (by kernel_rfl) rfl #[.agg #[.int .i64 a0_0, .int .i64 a0_1]] rfl arr_ ?_; (with_reducible refine (impl_IvalOk.calls a0_0 a0_1 true _ A3.out).mono ?_); rintro e w14 ⟨rfl, hb⟩; refine ⟨_, rfl, ?_⟩; have n0_ := am_ (bb_ BK790.out hb); have n1_ := am_ (bb_ BK791.out hb); have n2_ := am_ (bb_ BK792.out hb); have n3_ := am_ (below_step (hb3_ HB.out GE790.out GE791.out GE792.out) hb); clear BK790; clear BK791; clear BK792; clear HB; have BK790 := n0_; have BK791 := n1_; have BK792 := n2_; have HB := n3_; clear n0_ n1_ n2_ n3_; (try clear hb); (try clear hb2); (try clear hk); (try clear hi); have hnb15 := NB791_792.out; have hnc15 := NB792_791.out; have hcz16_0 := bc_ BK791.out 0 (.int .i64 a1_0) rfl; have hcz16_1 := bc_ BK791.out 1 (.int .i64 a1_1) rfl; have hfz16_0 := blk_frozen BK791.out 0; have hfz16_1 := blk_frozen BK791.out 1) | (go_at_call 43; (with_reducible refine (impl_IvalOk.calls a1_0 a1_1 true _ A5.out).mono ?_); rintro e w17 ⟨rfl, hb⟩; have n0_ := am_ (bb_ BK790.out hb); have n1_ := am_ (bb_ BK791.out hb); have n2_ := am_ (bb_ BK792.out hb); have n3_ := am_ (below_step (hb3_ HB.out GE790.out GE791.out GE792.out) hb); clear BK790; clear BK791; clear BK792; clear HB; have BK790 := n0_; have BK791 := n1_; have BK792 := n2_; have HB := n3_; clear n0_ n1_ n2_ n3_; (try clear hb); (try clear hb2); (try clear hk); (try clear hi); have hcz18_0 := bc_ BK790.out 0 (.int .i64 a0_0) rfl; have hcz18_1 := bc_ BK790.out 1 (.int .i64 a0_1) rfl; have hfz18_0 := blk_frozen BK790.out 0; have hfz18_1 := blk_frozen BK790.out 1; have hcz19_0 := bc_ BK791.out 0 (.int .i64 a1_0) rfl; have hcz19_1 := bc_ BK791.out 1 (.int .i64 a1_1) rfl; have hfz19_0 := blk_frozen BK791.out 0; have hfz19_1 := blk_frozen BK791.out 1) | ((with_reducible refine gate_callee (f := 66) rfl ?_); refine goesL_ (some 25) rfl rfl Try.func66 (by kernel_rfl) rfl #[.int .i64 (wrap64 (a0_0 + a1_0)), .int .i64 (wrap64 (a0_1 + a1_1))] rfl arr_ ?_; (with_reducible refine (impl_ival.calls (wrap64 (a0_0 + a1_0)) (wrap64 (a0_1 + a1_1)) t795 t796 t797 _ A7.out).mono ?_); rintro e w20 ⟨rfl, hb⟩; refine ⟨_, rfl, ?_⟩; have n0_ := am_ (bb_ BK790.out hb); have n1_ := am_ (bb_ BK791.out hb); have n2_ := am_ (bb_ BK792.out hb); have n3_ := am_ (below_step (hb3_ HB.out GE790.out GE791.out GE792.out) hb); clear BK790; clear BK791; clear BK792; clear HB; have BK790 := n0_; have BK791 := n1_; have BK792 := n2_; have HB := n3_; clear n0_ n1_ n2_ n3_; (try clear hb); (try clear hb2); (try clear hk); (try clear hi); have hcz21_0 := bc_ BK792.out 0 (.int .i64 0) rfl; have hcz21_1 := bc_ BK792.out 1 (.int .i64 0) rfl; have hfz21_0 := blk_frozen BK792.out 0; have hfz21_1 := blk_frozen BK792.out 1))
      refine bodyPost_ret (results_ct rfl _ _ gb792 32 #[.int .i64 t795, .int .i64 t796] (0, 0) _ rfl (by (with_reducible repeat (first | refine blk_drewN ?_ _ | refine blk_drew ?_ | refine blk_alloc ?_ _)); refine blk_put (cs := #[.int .i64 t795, .int .i64 0]) ?_ 1 _ rfl; (with_reducible repeat (first | refine blk_drewN ?_ _ | refine blk_drew ?_ | refine blk_alloc ?_ _)); refine blk_put (cs := #[.int .i64 0, .int .i64 0]) ?_ 0 _ rfl; (with_reducible repeat (first | refine blk_drewN ?_ _ | refine blk_drew ?_ | refine blk_alloc ?_ _)); exact BK792.out) Try.underlying32 rfl (by kernel_rfl)) rfl ?_
      exact ⟨er_, hb3_ HB.out GE790.out GE791.out GE792.out⟩
    · replace c6 := Bool.eq_false_iff.mpr c6
      subst c6
      have H1 : (some (0, 0, false)) = some (r1, r2, r3) := by rw [if_neg (show ¬ (false = true) by decide)] at H; exact H
      clear H
      have H := H1
      clear H1
      simp only [Option.some.injEq, Prod.mk.injEq] at H
      obtain ⟨rfl, rfl, rfl⟩ := H
      go_enter Try.func97, Try.ntmps97
      go_wp2_with (first | ((with_reducible refine gate_dst (N := 2) rfl ?_); refine box_event ?hg (N := 2) ?hd (cs := #[.int .i64 a0_0, .int .i64 a0_1]) (t := 32) ?hr ?_; (case hd => rfl); (case hg => rfl); (case hr => first|(go_simp;done)|(go_simp;rfl)); intro gb790 hg w22 hbox hb; have n0_ := am_ (below_step (hb_ HB.out) hb); have n1_ := am_ (hbox); have n2_ := am_ (hy_ hg (hb_ HB.out) : w.heap.size ≤ gb790); have n3_ := am_ (hy_ hg (hb_ HB.out) : w.heap.size ≤ gb790); clear HB; have HB := n0_; have BK790 := n1_; have GW790 := n2_; have GE790 := n3_; clear n0_ n1_ n2_ n3_; clear hb hbox hg) | ((with_reducible refine gate_dst (N := 3) rfl ?_); refine box_event ?hg (N := 3) ?hd (cs := #[.int .i64 a1_0, .int .i64 a1_1]) (t := 32) ?hr ?_; (case hd => rfl); (case hg => rfl); (case hr => first|(go_simp;done)|(go_simp;rfl)); intro gb791 hg w23 hbox hb; have n0_ := am_ (bb_ BK790.out hb); have n1_ := am_ (below_step (hb1_ HB.out GE790.out) hb); have n2_ := am_ (hbox); have n3_ := am_ (hy_ hg (hb1_ HB.out GE790.out) : w.heap.size ≤ gb791); have n4_ := am_ (hy_ hg (hb1_ HB.out GE790.out) : w.heap.size ≤ gb791); have n5_ := am_ ((bl_ hg BK790.out : gb790 ≠ gb791)); have n6_ := am_ ((bg_ hg BK790.out : gb791 ≠ gb790)); clear BK790; clear HB; have BK790 := n0_; have HB := n1_; have BK791 := n2_; have GW791 := n3_; have GE791 := n4_; have NB790_791 := n5_; have NB791_790 := n6_; clear n0_ n1_ n2_ n3_ n4_ n5_ n6_; clear hb hbox hg) | ((with_reducible refine gate_dst (N := 4) rfl ?_); refine box_event ?hg (N := 4) ?hd (cs := #[.int .i64 0, .int .i64 0]) (t := 32) ?hr ?_; (case hd => rfl); (case hg => rfl); (case hr => first|(go_simp;done)|(go_simp;rfl)); intro gb792 hg w24 hbox hb; have n0_ := am_ (bb_ BK790.out hb); have n1_ := am_ (bb_ BK791.out hb); have n2_ := am_ (below_step (hb2_ HB.out GE790.out GE791.out) hb); have n3_ := am_ (hbox); have n4_ := am_ (hy_ hg (hb2_ HB.out GE790.out GE791.out) : w.heap.size ≤ gb792); have n5_ := am_ (hy_ hg (hb2_ HB.out GE790.out GE791.out) : w.heap.size ≤ gb792); have n6_ := am_ ((bl_ hg BK790.out : gb790 ≠ gb792)); have n7_ := am_ ((bg_ hg BK790.out : gb792 ≠ gb790)); have n8_ := am_ ((bl_ hg BK791.out : gb791 ≠ gb792)); have n9_ := am_ ((bg_ hg BK791.out : gb792 ≠ gb791)); clear BK790; clear BK791; clear HB; have BK790 := n0_; have BK791 := n1_; have HB := n2_; have BK792 := n3_; have GW792 := n4_; have GE792 := n5_; have NB790_792 := n6_; have NB792_790 := n7_; have NB791_792 := n8_; have NB792_791 := n9_; clear n0_ n1_ n2_ n3_ n4_ n5_ n6_ n7_ n8_ n9_; clear hb hbox hg; have hnb25 := NB790_791.out; have hnc25 := NB791_790.out; have hnb26 := NB790_792.out; have hnc26 := NB792_790.out; have hcz27_0 := bc_ BK790.out 0 (.int .i64 a0_0) rfl; have hcz27_1 := bc_ BK790.out 1 (.int .i64 a0_1) rfl; have hfz27_0 := blk_frozen BK790.out 0; have hfz27_1 := blk_frozen BK790.out 1) | ((with_reducible refine gate_callee (f := 43) rfl ?_); refine goesL_ (some 7) rfl rfl Try.func43 (by kernel_rfl) rfl #[.agg #[.int .i64 a0_0, .int .i64 a0_1]] rfl arr_ ?_; (with_reducible refine (impl_IvalOk.calls a0_0 a0_1 true _ A3.out).mono ?_); rintro e w28 ⟨rfl, hb⟩; refine ⟨_, rfl, ?_⟩; have n0_ := am_ (bb_ BK790.out hb); have n1_ := am_ (bb_ BK791.out hb); have n2_ := am_ (bb_ BK792.out hb); have n3_ := am_ (below_step (hb3_ HB.out GE790.out GE791.out GE792.out) hb); clear BK790; clear BK791; clear BK792; clear HB; have BK790 := n0_; have BK791 := n1_; have BK792 := n2_; have HB := n3_; clear n0_ n1_ n2_ n3_; (try clear hb); (try clear hb2); (try clear hk); (try clear hi); have hnb29 := NB791_792.out; have hnc29 := NB792_791.out; have hcz30_0 := bc_ BK791.out 0 (.int .i64 a1_0) rfl; have hcz30_1 := bc_ BK791.out 1 (.int .i64 a1_1) rfl; have hfz30_0 := blk_frozen BK791.out 0; have hfz30_1 := blk_frozen BK791.out 1) | (go_at_call 43; (with_reducible refine (impl_IvalOk.calls a1_0 a1_1 false _ A5.out).mono ?_); rintro e w31 ⟨rfl, hb⟩; have n0_ := am_ (bb_ BK790.out hb); have n1_ := am_ (bb_ BK791.out hb); have n2_ := am_ (bb_ BK792.out hb); have n3_ := am_ (below_step (hb3_ HB.out GE790.out GE791.out GE792.out) hb); clear BK790; clear BK791; clear BK792; clear HB; have BK790 := n0_; have BK791 := n1_; have BK792 := n2_; have HB := n3_; clear n0_ n1_ n2_ n3_; (try clear hb); (try clear hb2); (try clear hk); (try clear hi); have hcz32_0 := bc_ BK792.out 0 (.int .i64 0) rfl; have hcz32_1 := bc_ BK792.out 1 (.int .i64 0) rfl; have hfz32_0 := blk_frozen BK792.out 0; have hfz32_1 := blk_frozen BK792.out 1))
      refine bodyPost_ret (results_ct rfl _ _ gb792 32 #[.int .i64 0, .int .i64 0] (0, 0) _ rfl (by (with_reducible repeat (first | refine blk_drewN ?_ _ | refine blk_drew ?_ | refine blk_alloc ?_ _)); refine blk_put (cs := #[.int .i64 0, .int .i64 0]) ?_ 1 _ rfl; (with_reducible repeat (first | refine blk_drewN ?_ _ | refine blk_drew ?_ | refine blk_alloc ?_ _)); refine blk_put (cs := #[.int .i64 0, .int .i64 0]) ?_ 0 _ rfl; (with_reducible repeat (first | refine blk_drewN ?_ _ | refine blk_drew ?_ | refine blk_alloc ?_ _)); exact BK792.out) Try.underlying32 rfl (by kernel_rfl)) rfl ?_
      exact ⟨er_, hb3_ HB.out GE790.out GE791.out GE792.out⟩
  · replace c4 := Bool.eq_false_iff.mpr c4
    subst c4
    have H1 : (some (0, 0, false)) = some (r1, r2, r3) := by rw [if_neg (show ¬ (false = true) by decide)] at H; exact H
    clear H
    have H := H1
    clear H1
    simp only [Option.some.injEq, Prod.mk.injEq] at H
    obtain ⟨rfl, rfl, rfl⟩ := H
    go_enter Try.func97, Try.ntmps97
    go_wp2_with (first | ((with_reducible refine gate_dst (N := 2) rfl ?_); refine box_event ?hg (N := 2) ?hd (cs := #[.int .i64 a0_0, .int .i64 a0_1]) (t := 32) ?hr ?_; (case hd => rfl); (case hg => rfl); (case hr => first|(go_simp;done)|(go_simp;rfl)); intro gb790 hg w33 hbox hb; have n0_ := am_ (below_step (hb_ HB.out) hb); have n1_ := am_ (hbox); have n2_ := am_ (hy_ hg (hb_ HB.out) : w.heap.size ≤ gb790); have n3_ := am_ (hy_ hg (hb_ HB.out) : w.heap.size ≤ gb790); clear HB; have HB := n0_; have BK790 := n1_; have GW790 := n2_; have GE790 := n3_; clear n0_ n1_ n2_ n3_; clear hb hbox hg) | ((with_reducible refine gate_dst (N := 3) rfl ?_); refine box_event ?hg (N := 3) ?hd (cs := #[.int .i64 a1_0, .int .i64 a1_1]) (t := 32) ?hr ?_; (case hd => rfl); (case hg => rfl); (case hr => first|(go_simp;done)|(go_simp;rfl)); intro gb791 hg w34 hbox hb; have n0_ := am_ (bb_ BK790.out hb); have n1_ := am_ (below_step (hb1_ HB.out GE790.out) hb); have n2_ := am_ (hbox); have n3_ := am_ (hy_ hg (hb1_ HB.out GE790.out) : w.heap.size ≤ gb791); have n4_ := am_ (hy_ hg (hb1_ HB.out GE790.out) : w.heap.size ≤ gb791); have n5_ := am_ ((bl_ hg BK790.out : gb790 ≠ gb791)); have n6_ := am_ ((bg_ hg BK790.out : gb791 ≠ gb790)); clear BK790; clear HB; have BK790 := n0_; have HB := n1_; have BK791 := n2_; have GW791 := n3_; have GE791 := n4_; have NB790_791 := n5_; have NB791_790 := n6_; clear n0_ n1_ n2_ n3_ n4_ n5_ n6_; clear hb hbox hg) | ((with_reducible refine gate_dst (N := 4) rfl ?_); refine box_event ?hg (N := 4) ?hd (cs := #[.int .i64 0, .int .i64 0]) (t := 32) ?hr ?_; (case hd => rfl); (case hg => rfl); (case hr => first|(go_simp;done)|(go_simp;rfl)); intro gb792 hg w35 hbox hb; have n0_ := am_ (bb_ BK790.out hb); have n1_ := am_ (bb_ BK791.out hb); have n2_ := am_ (below_step (hb2_ HB.out GE790.out GE791.out) hb); have n3_ := am_ (hbox); have n4_ := am_ (hy_ hg (hb2_ HB.out GE790.out GE791.out) : w.heap.size ≤ gb792); have n5_ := am_ (hy_ hg (hb2_ HB.out GE790.out GE791.out) : w.heap.size ≤ gb792); have n6_ := am_ ((bl_ hg BK790.out : gb790 ≠ gb792)); have n7_ := am_ ((bg_ hg BK790.out : gb792 ≠ gb790)); have n8_ := am_ ((bl_ hg BK791.out : gb791 ≠ gb792)); have n9_ := am_ ((bg_ hg BK791.out : gb792 ≠ gb791)); clear BK790; clear BK791; clear HB; have BK790 := n0_; have BK791 := n1_; have HB := n2_; have BK792 := n3_; have GW792 := n4_; have GE792 := n5_; have NB790_792 := n6_; have NB792_790 := n7_; have NB791_792 := n8_; have NB792_791 := n9_; clear n0_ n1_ n2_ n3_ n4_ n5_ n6_ n7_ n8_ n9_; clear hb hbox hg; have hnb36 := NB790_791.out; have hnc36 := NB791_790.out; have hnb37 := NB790_792.out; have hnc37 := NB792_790.out; have hcz38_0 := bc_ BK790.out 0 (.int .i64 a0_0) rfl; have hcz38_1 := bc_ BK790.out 1 (.int .i64 a0_1) rfl; have hfz38_0 := blk_frozen BK790.out 0; have hfz38_1 := blk_frozen BK790.out 1) | ((with_reducible refine gate_callee (f := 43) rfl ?_); refine goesL_ (some 7) rfl rfl Try.func43 (by kernel_rfl) rfl #[.agg #[.int .i64 a0_0, .int .i64 a0_1]] rfl arr_ ?_; (with_reducible refine (impl_IvalOk.calls a0_0 a0_1 false _ A3.out).mono ?_); rintro e w39 ⟨rfl, hb⟩; refine ⟨_, rfl, ?_⟩; have n0_ := am_ (bb_ BK790.out hb); have n1_ := am_ (bb_ BK791.out hb); have n2_ := am_ (bb_ BK792.out hb); have n3_ := am_ (below_step (hb3_ HB.out GE790.out GE791.out GE792.out) hb); clear BK790; clear BK791; clear BK792; clear HB; have BK790 := n0_; have BK791 := n1_; have BK792 := n2_; have HB := n3_; clear n0_ n1_ n2_ n3_; (try clear hb); (try clear hb2); (try clear hk); (try clear hi); have hnb40 := NB792_791.out; have hnc40 := NB791_792.out; have hcz41_0 := bc_ BK792.out 0 (.int .i64 0) rfl; have hcz41_1 := bc_ BK792.out 1 (.int .i64 0) rfl; have hfz41_0 := blk_frozen BK792.out 0; have hfz41_1 := blk_frozen BK792.out 1))
    refine bodyPost_ret (results_ct rfl _ _ gb792 32 #[.int .i64 0, .int .i64 0] (0, 0) _ rfl (by (with_reducible repeat (first | refine blk_drewN ?_ _ | refine blk_drew ?_ | refine blk_alloc ?_ _)); refine blk_put (cs := #[.int .i64 0, .int .i64 0]) ?_ 1 _ rfl; (with_reducible repeat (first | refine blk_drewN ?_ _ | refine blk_drew ?_ | refine blk_alloc ?_ _)); refine blk_put (cs := #[.int .i64 0, .int .i64 0]) ?_ 0 _ rfl; (with_reducible repeat (first | refine blk_drewN ?_ _ | refine blk_drew ?_ | refine blk_alloc ?_ _)); exact BK792.out) Try.underlying32 rfl (by kernel_rfl)) rfl ?_
    exact ⟨er_, hb3_ HB.out GE790.out GE791.out GE792.out⟩
def impl_CarryOn.j0 : Nat → Int → Bool → Bool → Int → Int → Int → Int → Int → Option (Int × Int × Int)
  | 0, _, _, _, _, _, _, _, _ => none
  | k + 1, x2, x12, x799000, x799001, x799002, x799003, x800000, x800001 => if x12 = true then (some (0, 0, 1)) else (if x799000 = true then (if x2 < x799003 then (some (0, 0, 3)) else ((impl_Between.f x800000 x800001 (wrap64 (x2 - x799003))).bind fun bt804 => ((impl_PlusIval.f x799001 x799002 bt804.1 bt804.2.1).bind fun bt808 => (if bt804.2.2 = true then (if bt808.2.2 = true then (some (bt808.1, bt808.2.1, 0)) else (some (0, 0, 4))) else (some (0, 0, 4)))))) else (some (0, 0, 2)))
def impl_CarryOn.f (k : Nat) (a0_0 : Bool) (a0_1 : Int) (a0_2 : Int) (a0_3 : Int) (a1_0 : Int) (a1_1 : Int) (a2 : Int) : Option (Int × Int × Int) := (impl_LocalOk.f a0_0 a0_1 a0_2 a0_3).bind fun t801 => (if t801 = true then ((impl_DriftOk.f a1_0 a1_1).bind fun t802 => (if t802 = true then ((impl_isTime.f a2).bind fun t803 => (impl_CarryOn.j0 k a2 (!t803) a0_0 a0_1 a0_2 a0_3 a1_0 a1_1)) else (impl_CarryOn.j0 k a2 true a0_0 a0_1 a0_2 a0_3 a1_0 a1_1))) else (impl_CarryOn.j0 k a2 true a0_0 a0_1 a0_2 a0_3 a1_0 a1_1))
theorem impl_CarryOn.mono_l : ∀ k, (∀ y0 y1 y2 y3 y4 y5 y6 y7, LeO (impl_CarryOn.j0 k y0 y1 y2 y3 y4 y5 y6 y7) (impl_CarryOn.j0 (k + 1) y0 y1 y2 y3 y4 y5 y6 y7))
  | 0 => fun _ _ _ _ _ _ _ _ r h => by simp [impl_CarryOn.j0] at h
  | k + 1 => by
    have ih0 := impl_CarryOn.mono_l k
    · intro y0 y1 y2 y3 y4 y5 y6 y7
      unfold impl_CarryOn.j0
      repeat' first
      | (with_reducible exact ih0 _ _ _ _ _ _ _ _)
      | (with_reducible exact LeO.refl _)
      | (with_reducible exact LeO.none _)
      | (with_reducible refine LeO.ite ?_ ?_)
      | (with_reducible refine LeO.bind ?_ (fun _ => ?_))
      | exact ih0 _ _ _ _ _ _ _ _
      | exact LeO.none _
      | refine LeO.ite ?_ ?_
      | refine LeO.bind ?_ (fun _ => ?_)
theorem impl_CarryOn.mono : ∀ a0 a1 a2 a3 a4 a5 a6 k, LeO (impl_CarryOn.f k a0 a1 a2 a3 a4 a5 a6) (impl_CarryOn.f (k + 1) a0 a1 a2 a3 a4 a5 a6) := by
  intro a0 a1 a2 a3 a4 a5 a6 k
  have ih0 := impl_CarryOn.mono_l k
  unfold impl_CarryOn.f
  repeat' first
      | (with_reducible exact ih0 _ _ _ _ _ _ _ _)
      | (with_reducible exact LeO.refl _)
      | (with_reducible exact LeO.none _)
      | (with_reducible refine LeO.ite ?_ ?_)
      | (with_reducible refine LeO.bind ?_ (fun _ => ?_))
      | exact ih0 _ _ _ _ _ _ _ _
      | exact LeO.none _
      | refine LeO.ite ?_ ?_
      | refine LeO.bind ?_ (fun _ => ?_)
set_option maxHeartbeats 8000000 in
set_option maxRecDepth 100000 in
theorem impl_CarryOn.calls (k : Nat) (a0_0 : Bool) (a0_1 : Int) (a0_2 : Int) (a0_3 : Int) (a1_0 : Int) (a1_1 : Int) (a2 : Int) (r1 : Int) (r2 : Int) (r3 : Int) (w : World) (h : impl_CarryOn.f k a0_0 a0_1 a0_2 a0_3 a1_0 a1_1 a2 = some (r1, r2, r3)) :
    Calls Try.prog 76 #[.agg #[.bool a0_0, .int .i64 a0_1, .int .i64 a0_2, .int .i64 a0_3], .agg #[.int .i64 a1_0, .int .i64 a1_1], .int .i64 a2] w fun e w' => e = .returned (.tuple #[.agg #[.int .i64 r1, .int .i64 r2], .int .i64 r3]) ∧ Below w.heap.size w w' := by
  have hu62 := Try.underlying62
  have hu34 := Try.underlying34
  have hu32 := Try.underlying32
  have HB := am_ (Below.refl w.heap.size w)
  have H : ((impl_LocalOk.f a0_0 a0_1 a0_2 a0_3).bind fun t801 => (if t801 = true then ((impl_DriftOk.f a1_0 a1_1).bind fun t802 => (if t802 = true then ((impl_isTime.f a2).bind fun t803 => (impl_CarryOn.j0 k a2 (!t803) a0_0 a0_1 a0_2 a0_3 a1_0 a1_1)) else (impl_CarryOn.j0 k a2 true a0_0 a0_1 a0_2 a0_3 a1_0 a1_1))) else (impl_CarryOn.j0 k a2 true a0_0 a0_1 a0_2 a0_3 a1_0 a1_1))) = some (r1, r2, r3) := h
  clear h
  have HC4 := Aside0.mk H
  clear H
  go_enter Try.func76, Try.ntmps76
  go_upto_region 1 with (first | ((with_reducible refine gate_dst (N := 3) rfl ?_); refine box_event ?hg (N := 3) ?hd (cs := #[.bool a0_0, .int .i64 a0_1, .int .i64 a0_2, .int .i64 a0_3]) (t := 62) ?hr ?_; (case hd => rfl); (case hg => rfl); (case hr => first|(go_simp;done)|(go_simp;rfl)); intro gb798 hg w5 hbox hb; have n0_ := am_ (below_step (hb_ HB.out) hb); have n1_ := am_ (hbox); have n2_ := am_ (hy_ hg (hb_ HB.out) : w.heap.size ≤ gb798); have n3_ := am_ (hy_ hg (hb_ HB.out) : w.heap.size ≤ gb798); clear HB; have HB := n0_; have BK798 := n1_; have GW798 := n2_; have GE798 := n3_; clear n0_ n1_ n2_ n3_; clear hb hbox hg) | ((with_reducible refine gate_dst (N := 4) rfl ?_); refine box_event ?hg (N := 4) ?hd (cs := #[.int .i64 a1_0, .int .i64 a1_1]) (t := 34) ?hr ?_; (case hd => rfl); (case hg => rfl); (case hr => first|(go_simp;done)|(go_simp;rfl)); intro gb799 hg w6 hbox hb; have n0_ := am_ (bb_ BK798.out hb); have n1_ := am_ (below_step (hb1_ HB.out GE798.out) hb); have n2_ := am_ (hbox); have n3_ := am_ (hy_ hg (hb1_ HB.out GE798.out) : w.heap.size ≤ gb799); have n4_ := am_ (hy_ hg (hb1_ HB.out GE798.out) : w.heap.size ≤ gb799); have n5_ := am_ ((bl_ hg BK798.out : gb798 ≠ gb799)); have n6_ := am_ ((bg_ hg BK798.out : gb799 ≠ gb798)); clear BK798; clear HB; have BK798 := n0_; have HB := n1_; have BK799 := n2_; have GW799 := n3_; have GE799 := n4_; have NB798_799 := n5_; have NB799_798 := n6_; clear n0_ n1_ n2_ n3_ n4_ n5_ n6_; clear hb hbox hg) | ((with_reducible refine gate_dst (N := 6) rfl ?_); refine box_event ?hg (N := 6) ?hd (cs := #[.int .i64 0, .int .i64 0]) (t := 32) ?hr ?_; (case hd => rfl); (case hg => rfl); (case hr => first|(go_simp;done)|(go_simp;rfl)); intro gb800 hg w7 hbox hb; have n0_ := am_ (bb_ BK798.out hb); have n1_ := am_ (bb_ BK799.out hb); have n2_ := am_ (below_step (hb2_ HB.out GE798.out GE799.out) hb); have n3_ := am_ (hbox); have n4_ := am_ (hy_ hg (hb2_ HB.out GE798.out GE799.out) : w.heap.size ≤ gb800); have n5_ := am_ (hy_ hg (hb2_ HB.out GE798.out GE799.out) : w.heap.size ≤ gb800); have n6_ := am_ ((bl_ hg BK798.out : gb798 ≠ gb800)); have n7_ := am_ ((bg_ hg BK798.out : gb800 ≠ gb798)); have n8_ := am_ ((bl_ hg BK799.out : gb799 ≠ gb800)); have n9_ := am_ ((bg_ hg BK799.out : gb800 ≠ gb799)); clear BK798; clear BK799; clear HB; have BK798 := n0_; have BK799 := n1_; have HB := n2_; have BK800 := n3_; have GW800 := n4_; have GE800 := n5_; have NB798_800 := n6_; have NB800_798 := n7_; have NB799_800 := n8_; have NB800_799 := n9_; clear n0_ n1_ n2_ n3_ n4_ n5_ n6_ n7_ n8_ n9_; clear hb hbox hg))
  (try simp only [Act.put, List.setIfInBounds_toArray, List.set_cons_zero, List.set_cons_succ])
  go_cut [12] (fun v12 wc => ∃ (kq : Nat) (x12_3 : Bool), v12 = .bool x12_3 ∧ Aside0 (impl_CarryOn.j0 kq a2 x12_3 a0_0 a0_1 a0_2 a0_3 a1_0 a1_1 = some (r1, r2, r3)) ∧ Aside0 (kq ≤ k) ∧ Aside0 (wc.heap[gb798]? = some (.cells #[.bool a0_0, .int .i64 a0_1, .int .i64 a0_2, .int .i64 a0_3] 62 (0, 0))) ∧ Aside0 (wc.heap[gb799]? = some (.cells #[.int .i64 a1_0, .int .i64 a1_1] 34 (0, 0))) ∧ Aside0 (wc.heap[gb800]? = some (.cells #[.int .i64 0, .int .i64 0] 32 (0, 0))) ∧ Aside0 (Below w.heap.size w wc))
  case first =>
    have H := HC4.out
    clear HC4
    replace H := Option.bind_eq_some_iff.mp H
    obtain ⟨t801, A80, H⟩ := H
    replace H : (if t801 = true then ((impl_DriftOk.f a1_0 a1_1).bind fun t802 => (if t802 = true then ((impl_isTime.f a2).bind fun t803 => (impl_CarryOn.j0 k a2 (!t803) a0_0 a0_1 a0_2 a0_3 a1_0 a1_1)) else (impl_CarryOn.j0 k a2 true a0_0 a0_1 a0_2 a0_3 a1_0 a1_1))) else (impl_CarryOn.j0 k a2 true a0_0 a0_1 a0_2 a0_3 a1_0 a1_1)) = some (r1, r2, r3) := H
    have A8 := Aside0.mk A80
    clear A80
    by_cases c9 : t801 = true
    · subst c9
      have H1 : ((impl_DriftOk.f a1_0 a1_1).bind fun t802 => (if t802 = true then ((impl_isTime.f a2).bind fun t803 => (impl_CarryOn.j0 k a2 (!t803) a0_0 a0_1 a0_2 a0_3 a1_0 a1_1)) else (impl_CarryOn.j0 k a2 true a0_0 a0_1 a0_2 a0_3 a1_0 a1_1))) = some (r1, r2, r3) := by rw [if_pos rfl] at H; exact H
      clear H
      have H := H1
      clear H1
      replace H := Option.bind_eq_some_iff.mp H
      obtain ⟨t802, A100, H⟩ := H
      replace H : (if t802 = true then ((impl_isTime.f a2).bind fun t803 => (impl_CarryOn.j0 k a2 (!t803) a0_0 a0_1 a0_2 a0_3 a1_0 a1_1)) else (impl_CarryOn.j0 k a2 true a0_0 a0_1 a0_2 a0_3 a1_0 a1_1)) = some (r1, r2, r3) := H
      have A10 := Aside0.mk A100
      clear A100
      by_cases c11 : t802 = true
      · subst c11
        have H1 : ((impl_isTime.f a2).bind fun t803 => (impl_CarryOn.j0 k a2 (!t803) a0_0 a0_1 a0_2 a0_3 a1_0 a1_1)) = some (r1, r2, r3) := by rw [if_pos rfl] at H; exact H
        clear H
        have H := H1
        clear H1
        replace H := Option.bind_eq_some_iff.mp H
        obtain ⟨t803, A120, H⟩ := H
        replace H : (impl_CarryOn.j0 k a2 (!t803) a0_0 a0_1 a0_2 a0_3 a1_0 a1_1) = some (r1, r2, r3) := H
        have A12 := Aside0.mk A120
        clear A120
        have H' := Aside0.mk H
        clear H
        have hnb13 := NB798_799.out
        have hnc13 := NB799_798.out
        have hnb14 := NB798_800.out
        have hnc14 := NB800_798.out
        have hcz15_0 := bc_ BK798.out 0 (.bool a0_0) rfl
        have hcz15_1 := bc_ BK798.out 1 (.int .i64 a0_1) rfl
        have hcz15_2 := bc_ BK798.out 2 (.int .i64 a0_2) rfl
        have hcz15_3 := bc_ BK798.out 3 (.int .i64 a0_3) rfl
        have hfz15_0 := blk_frozen BK798.out 0
        have hfz15_1 := blk_frozen BK798.out 1
        have hfz15_2 := blk_frozen BK798.out 2
        have hfz15_3 := blk_frozen BK798.out 3
        go_wp2_with (first | ((with_reducible refine gate_callee (f := 95) rfl ?_); refine goesL_ (some 14) rfl rfl Try.func95 (by kernel_rfl) rfl #[.agg #[.bool a0_0, .int .i64 a0_1, .int .i64 a0_2, .int .i64 a0_3]] rfl arr_ ?_; (with_reducible refine (impl_LocalOk.calls a0_0 a0_1 a0_2 a0_3 true _ A8.out).mono ?_); rintro e w16 ⟨rfl, hb⟩; refine ⟨_, rfl, ?_⟩; have n0_ := am_ (bb_ BK798.out hb); have n1_ := am_ (bb_ BK799.out hb); have n2_ := am_ (bb_ BK800.out hb); have n3_ := am_ (below_step (hb3_ HB.out GE798.out GE799.out GE800.out) hb); clear BK798; clear BK799; clear BK800; clear HB; have BK798 := n0_; have BK799 := n1_; have BK800 := n2_; have HB := n3_; clear n0_ n1_ n2_ n3_; (try clear hb); (try clear hb2); (try clear hk); (try clear hi); have hnb17 := NB799_800.out; have hnc17 := NB800_799.out; have hcz18_0 := bc_ BK799.out 0 (.int .i64 a1_0) rfl; have hcz18_1 := bc_ BK799.out 1 (.int .i64 a1_1) rfl; have hfz18_0 := blk_frozen BK799.out 0; have hfz18_1 := blk_frozen BK799.out 1) | (go_at_call 44; (with_reducible refine (impl_DriftOk.calls a1_0 a1_1 true _ A10.out).mono ?_); rintro e w19 ⟨rfl, hb⟩; have n0_ := am_ (bb_ BK798.out hb); have n1_ := am_ (bb_ BK799.out hb); have n2_ := am_ (bb_ BK800.out hb); have n3_ := am_ (below_step (hb3_ HB.out GE798.out GE799.out GE800.out) hb); clear BK798; clear BK799; clear BK800; clear HB; have BK798 := n0_; have BK799 := n1_; have BK800 := n2_; have HB := n3_; clear n0_ n1_ n2_ n3_; (try clear hb); (try clear hb2); (try clear hk); (try clear hi)) | (go_at_call 75; (with_reducible refine (impl_isTime.calls a2 t803 _ A12.out).mono ?_); rintro e w' ⟨rfl, ⟨nd, rfl⟩⟩))
        go_meet
        case rel => exact ⟨_, (!t803), (by first | rfl | (simp; done) | (simp [*]; done)), H', ⟨by first | omega | exact Nat.le_refl _⟩, ⟨bk_ BK798.out⟩, ⟨bk_ BK799.out⟩, ⟨bk_ BK800.out⟩, ⟨hb3_ HB.out GE798.out GE799.out GE800.out⟩⟩
      · replace c11 := Bool.eq_false_iff.mpr c11
        subst c11
        have H1 : (impl_CarryOn.j0 k a2 true a0_0 a0_1 a0_2 a0_3 a1_0 a1_1) = some (r1, r2, r3) := by rw [if_neg (show ¬ (false = true) by decide)] at H; exact H
        clear H
        have H := H1
        clear H1
        have H' := Aside0.mk H
        clear H
        have hnb20 := NB798_799.out
        have hnc20 := NB799_798.out
        have hnb21 := NB798_800.out
        have hnc21 := NB800_798.out
        have hcz22_0 := bc_ BK798.out 0 (.bool a0_0) rfl
        have hcz22_1 := bc_ BK798.out 1 (.int .i64 a0_1) rfl
        have hcz22_2 := bc_ BK798.out 2 (.int .i64 a0_2) rfl
        have hcz22_3 := bc_ BK798.out 3 (.int .i64 a0_3) rfl
        have hfz22_0 := blk_frozen BK798.out 0
        have hfz22_1 := blk_frozen BK798.out 1
        have hfz22_2 := blk_frozen BK798.out 2
        have hfz22_3 := blk_frozen BK798.out 3
        go_wp2_with (first | ((with_reducible refine gate_callee (f := 95) rfl ?_); refine goesL_ (some 14) rfl rfl Try.func95 (by kernel_rfl) rfl #[.agg #[.bool a0_0, .int .i64 a0_1, .int .i64 a0_2, .int .i64 a0_3]] rfl arr_ ?_; (with_reducible refine (impl_LocalOk.calls a0_0 a0_1 a0_2 a0_3 true _ A8.out).mono ?_); rintro e w23 ⟨rfl, hb⟩; refine ⟨_, rfl, ?_⟩; have n0_ := am_ (bb_ BK798.out hb); have n1_ := am_ (bb_ BK799.out hb); have n2_ := am_ (bb_ BK800.out hb); have n3_ := am_ (below_step (hb3_ HB.out GE798.out GE799.out GE800.out) hb); clear BK798; clear BK799; clear BK800; clear HB; have BK798 := n0_; have BK799 := n1_; have BK800 := n2_; have HB := n3_; clear n0_ n1_ n2_ n3_; (try clear hb); (try clear hb2); (try clear hk); (try clear hi); have hnb24 := NB799_800.out; have hnc24 := NB800_799.out; have hcz25_0 := bc_ BK799.out 0 (.int .i64 a1_0) rfl; have hcz25_1 := bc_ BK799.out 1 (.int .i64 a1_1) rfl; have hfz25_0 := blk_frozen BK799.out 0; have hfz25_1 := blk_frozen BK799.out 1) | (go_at_call 44; (with_reducible refine (impl_DriftOk.calls a1_0 a1_1 false _ A10.out).mono ?_); rintro e w26 ⟨rfl, hb⟩; have n0_ := am_ (bb_ BK798.out hb); have n1_ := am_ (bb_ BK799.out hb); have n2_ := am_ (bb_ BK800.out hb); have n3_ := am_ (below_step (hb3_ HB.out GE798.out GE799.out GE800.out) hb); clear BK798; clear BK799; clear BK800; clear HB; have BK798 := n0_; have BK799 := n1_; have BK800 := n2_; have HB := n3_; clear n0_ n1_ n2_ n3_; (try clear hb); (try clear hb2); (try clear hk); (try clear hi)))
        go_meet
        case rel => exact ⟨_, (true), (by first | rfl | (simp; done) | (simp [*]; done)), H', ⟨by first | omega | exact Nat.le_refl _⟩, ⟨bk_ BK798.out⟩, ⟨bk_ BK799.out⟩, ⟨bk_ BK800.out⟩, ⟨hb3_ HB.out GE798.out GE799.out GE800.out⟩⟩
    · replace c9 := Bool.eq_false_iff.mpr c9
      subst c9
      have H1 : (impl_CarryOn.j0 k a2 true a0_0 a0_1 a0_2 a0_3 a1_0 a1_1) = some (r1, r2, r3) := by rw [if_neg (show ¬ (false = true) by decide)] at H; exact H
      clear H
      have H := H1
      clear H1
      have H' := Aside0.mk H
      clear H
      have hnb27 := NB798_799.out
      have hnc27 := NB799_798.out
      have hnb28 := NB798_800.out
      have hnc28 := NB800_798.out
      have hcz29_0 := bc_ BK798.out 0 (.bool a0_0) rfl
      have hcz29_1 := bc_ BK798.out 1 (.int .i64 a0_1) rfl
      have hcz29_2 := bc_ BK798.out 2 (.int .i64 a0_2) rfl
      have hcz29_3 := bc_ BK798.out 3 (.int .i64 a0_3) rfl
      have hfz29_0 := blk_frozen BK798.out 0
      have hfz29_1 := blk_frozen BK798.out 1
      have hfz29_2 := blk_frozen BK798.out 2
      have hfz29_3 := blk_frozen BK798.out 3
      go_wp2_with (first | ((with_reducible refine gate_callee (f := 95) rfl ?_); refine goesL_ (some 14) rfl rfl Try.func95 (by kernel_rfl) rfl #[.agg #[.bool a0_0, .int .i64 a0_1, .int .i64 a0_2, .int .i64 a0_3]] rfl arr_ ?_; (with_reducible refine (impl_LocalOk.calls a0_0 a0_1 a0_2 a0_3 false _ A8.out).mono ?_); rintro e w30 ⟨rfl, hb⟩; refine ⟨_, rfl, ?_⟩; have n0_ := am_ (bb_ BK798.out hb); have n1_ := am_ (bb_ BK799.out hb); have n2_ := am_ (bb_ BK800.out hb); have n3_ := am_ (below_step (hb3_ HB.out GE798.out GE799.out GE800.out) hb); clear BK798; clear BK799; clear BK800; clear HB; have BK798 := n0_; have BK799 := n1_; have BK800 := n2_; have HB := n3_; clear n0_ n1_ n2_ n3_; (try clear hb); (try clear hb2); (try clear hk); (try clear hi)))
      go_meet
      case rel => exact ⟨_, (true), (by first | rfl | (simp; done) | (simp [*]; done)), H', ⟨by first | omega | exact Nat.le_refl _⟩, ⟨bk_ BK798.out⟩, ⟨bk_ BK799.out⟩, ⟨bk_ BK800.out⟩, ⟨hb3_ HB.out GE798.out GE799.out GE800.out⟩⟩
  case rest =>
    clear HC4
    try clear c1
    try clear c2
    try clear p2
    try clear c7
    try clear c9
    try clear c11
    try clear c13
    try clear c14
    try clear c17
    try clear c20
    try clear c21
    try clear c24
    try clear c27
    try clear c28
    try clear hcz15_0
    try clear hcz15_1
    try clear hcz15_2
    try clear hcz15_3
    try clear hcz18_0
    try clear hcz18_1
    try clear hcz22_0
    try clear hcz22_1
    try clear hcz22_2
    try clear hcz22_3
    try clear hcz25_0
    try clear hcz25_1
    try clear hcz29_0
    try clear hcz29_1
    try clear hcz29_2
    try clear hcz29_3
    try clear hfz15_0
    try clear hfz15_1
    try clear hfz15_2
    try clear hfz15_3
    try clear hfz18_0
    try clear hfz18_1
    try clear hfz22_0
    try clear hfz22_1
    try clear hfz22_2
    try clear hfz22_3
    try clear hfz25_0
    try clear hfz25_1
    try clear hfz29_0
    try clear hfz29_1
    try clear hfz29_2
    try clear hfz29_3
    obtain ⟨kq, x12_3, rfl, HA, HJ3, BK798, BK799, BK800, HB⟩ := hcut
    cases kq with
    | zero => exact absurd HA.out (by simp [impl_CarryOn.j0])
    | succ kj3 =>
      have H := HA.out
      clear HA
      simp only [impl_CarryOn.j0] at H
      by_cases c31 : x12_3 = true
      · subst c31
        have H1 : (some (0, 0, 1)) = some (r1, r2, r3) := by rw [if_pos rfl] at H; exact H
        clear H
        have H := H1
        clear H1
        simp only [Option.some.injEq, Prod.mk.injEq] at H
        obtain ⟨rfl, rfl, rfl⟩ := H
        have hnb32 := NB800_798.out
        have hnc32 := NB798_800.out
        have hnb33 := NB800_799.out
        have hnc33 := NB799_800.out
        have hcz34_0 := bc_ BK800.out 0 (.int .i64 0) rfl
        have hcz34_1 := bc_ BK800.out 1 (.int .i64 0) rfl
        have hfz34_0 := blk_frozen BK800.out 0
        have hfz34_1 := blk_frozen BK800.out 1
        go_wp2
        refine bodyPost_ret (results_ct rfl _ _ gb800 32 #[.int .i64 0, .int .i64 0] (0, 0) _ rfl (by (with_reducible repeat (first | refine blk_drewN ?_ _ | refine blk_drew ?_ | refine blk_alloc ?_ _)); refine blk_put (cs := #[.int .i64 0, .int .i64 0]) ?_ 1 _ rfl; (with_reducible repeat (first | refine blk_drewN ?_ _ | refine blk_drew ?_ | refine blk_alloc ?_ _)); refine blk_put (cs := #[.int .i64 0, .int .i64 0]) ?_ 0 _ rfl; (with_reducible repeat (first | refine blk_drewN ?_ _ | refine blk_drew ?_ | refine blk_alloc ?_ _)); exact BK800.out) Try.underlying32 rfl (by kernel_rfl)) rfl ?_
        exact ⟨er_, hb3_ HB.out GE798.out GE799.out GE800.out⟩
      · replace c31 := Bool.eq_false_iff.mpr c31
        subst c31
        have H1 : (if a0_0 = true then (if a2 < a0_3 then (some (0, 0, 3)) else ((impl_Between.f a1_0 a1_1 (wrap64 (a2 - a0_3))).bind fun bt804 => ((impl_PlusIval.f a0_1 a0_2 bt804.1 bt804.2.1).bind fun bt808 => (if bt804.2.2 = true then (if bt808.2.2 = true then (some (bt808.1, bt808.2.1, 0)) else (some (0, 0, 4))) else (some (0, 0, 4)))))) else (some (0, 0, 2))) = some (r1, r2, r3) := by rw [if_neg (show ¬ (false = true) by decide)] at H; exact H
        clear H
        have H := H1
        clear H1
        by_cases c35 : a0_0 = true
        · subst c35
          have H1 : (if a2 < a0_3 then (some (0, 0, 3)) else ((impl_Between.f a1_0 a1_1 (wrap64 (a2 - a0_3))).bind fun bt804 => ((impl_PlusIval.f a0_1 a0_2 bt804.1 bt804.2.1).bind fun bt808 => (if bt804.2.2 = true then (if bt808.2.2 = true then (some (bt808.1, bt808.2.1, 0)) else (some (0, 0, 4))) else (some (0, 0, 4)))))) = some (r1, r2, r3) := by rw [if_pos rfl] at H; exact H
          clear H
          have H := H1
          clear H1
          by_cases c36 : a2 < a0_3
          · rw [if_pos c36] at H
            have c36b0 : decide (a2 < a0_3) = true := decide_eq_true c36
            clear c36
            simp only [Option.some.injEq, Prod.mk.injEq] at H
            obtain ⟨rfl, rfl, rfl⟩ := H
            have hnb37 := NB798_799.out
            have hnc37 := NB799_798.out
            have hnb38 := NB798_800.out
            have hnc38 := NB800_798.out
            have hcz39_0 := bc_ BK798.out 0 (.bool true) rfl
            have hcz39_1 := bc_ BK798.out 1 (.int .i64 a0_1) rfl
            have hcz39_2 := bc_ BK798.out 2 (.int .i64 a0_2) rfl
            have hcz39_3 := bc_ BK798.out 3 (.int .i64 a0_3) rfl
            have hfz39_0 := blk_frozen BK798.out 0
            have hfz39_1 := blk_frozen BK798.out 1
            have hfz39_2 := blk_frozen BK798.out 2
            have hfz39_3 := blk_frozen BK798.out 3
            have hnb40 := NB800_799.out
            have hnc40 := NB799_800.out
            have hcz41_0 := bc_ BK800.out 0 (.int .i64 0) rfl
            have hcz41_1 := bc_ BK800.out 1 (.int .i64 0) rfl
            have hfz41_0 := blk_frozen BK800.out 0
            have hfz41_1 := blk_frozen BK800.out 1
            go_wp2
            refine bodyPost_ret (results_ct rfl _ _ gb800 32 #[.int .i64 0, .int .i64 0] (0, 0) _ rfl (by (with_reducible repeat (first | refine blk_drewN ?_ _ | refine blk_drew ?_ | refine blk_alloc ?_ _)); refine blk_put (cs := #[.int .i64 0, .int .i64 0]) ?_ 1 _ rfl; (with_reducible repeat (first | refine blk_drewN ?_ _ | refine blk_drew ?_ | refine blk_alloc ?_ _)); refine blk_put (cs := #[.int .i64 0, .int .i64 0]) ?_ 0 _ rfl; (with_reducible repeat (first | refine blk_drewN ?_ _ | refine blk_drew ?_ | refine blk_alloc ?_ _)); exact BK800.out) Try.underlying32 rfl (by kernel_rfl)) rfl ?_
            exact ⟨er_, hb3_ HB.out GE798.out GE799.out GE800.out⟩
          · rw [if_neg c36] at H
            have c36b0 : decide (a2 < a0_3) = false := decide_eq_false c36
            clear c36
            replace H := Option.bind_eq_some_iff.mp H
            obtain ⟨⟨t804, t805, t806⟩, A420, H⟩ := H
            replace H : ((impl_PlusIval.f a0_1 a0_2 t804 t805).bind fun bt808 => (if t806 = true then (if bt808.2.2 = true then (some (bt808.1, bt808.2.1, 0)) else (some (0, 0, 4))) else (some (0, 0, 4)))) = some (r1, r2, r3) := H
            have A42 := Aside0.mk A420
            clear A420
            replace H := Option.bind_eq_some_iff.mp H
            obtain ⟨⟨t808, t809, t810⟩, A430, H⟩ := H
            replace H : (if t806 = true then (if t810 = true then (some (t808, t809, 0)) else (some (0, 0, 4))) else (some (0, 0, 4))) = some (r1, r2, r3) := H
            have A43 := Aside0.mk A430
            clear A430
            by_cases c44 : t806 = true
            · subst c44
              have H1 : (if t810 = true then (some (t808, t809, 0)) else (some (0, 0, 4))) = some (r1, r2, r3) := by rw [if_pos rfl] at H; exact H
              clear H
              have H := H1
              clear H1
              by_cases c45 : t810 = true
              · subst c45
                have H1 : (some (t808, t809, 0)) = some (r1, r2, r3) := by rw [if_pos rfl] at H; exact H
                clear H
                have H := H1
                clear H1
                simp only [Option.some.injEq, Prod.mk.injEq] at H
                obtain ⟨rfl, rfl, rfl⟩ := H
                have hnb46 := NB798_799.out
                have hnc46 := NB799_798.out
                have hnb47 := NB798_800.out
                have hnc47 := NB800_798.out
                have hcz48_0 := bc_ BK798.out 0 (.bool true) rfl
                have hcz48_1 := bc_ BK798.out 1 (.int .i64 a0_1) rfl
                have hcz48_2 := bc_ BK798.out 2 (.int .i64 a0_2) rfl
                have hcz48_3 := bc_ BK798.out 3 (.int .i64 a0_3) rfl
                have hfz48_0 := blk_frozen BK798.out 0
                have hfz48_1 := blk_frozen BK798.out 1
                have hfz48_2 := blk_frozen BK798.out 2
                have hfz48_3 := blk_frozen BK798.out 3
                have hnb49 := NB799_800.out
                have hnc49 := NB800_799.out
                have hcz50_0 := bc_ BK799.out 0 (.int .i64 a1_0) rfl
                have hcz50_1 := bc_ BK799.out 1 (.int .i64 a1_1) rfl
                have hfz50_0 := blk_frozen BK799.out 0
                have hfz50_1 := blk_frozen BK799.out 1
                go_wp2_with (first | ((with_reducible refine gate_callee (f := 96) rfl ?_); refine goesL_ (some 44) rfl rfl Try.func96 (by kernel_rfl) rfl #[.agg #[.int .i64 a1_0, .int .i64 a1_1], .int .i64 (wrap64 (a2 - a0_3))] rfl arr_ ?_; (with_reducible refine (impl_Between.calls a1_0 a1_1 (wrap64 (a2 - a0_3)) t804 t805 true _ A42.out).mono ?_); rintro e w51 ⟨rfl, hb⟩; refine ⟨_, rfl, ?_⟩; have n0_ := am_ (bb_ BK798.out hb); have n1_ := am_ (bb_ BK799.out hb); have n2_ := am_ (bb_ BK800.out hb); have n3_ := am_ (below_step (hb3_ HB.out GE798.out GE799.out GE800.out) hb); clear BK798; clear BK799; clear BK800; clear HB; have BK798 := n0_; have BK799 := n1_; have BK800 := n2_; have HB := n3_; clear n0_ n1_ n2_ n3_; (try clear hb); (try clear hb2); (try clear hk); (try clear hi)) | ((with_reducible refine gate_dst (N := 8) rfl ?_); refine box_event ?hg (N := 8) ?hd (cs := #[.int .i64 0, .int .i64 0]) (t := 32) ?hr ?_; (case hd => rfl); (case hg => rfl); (case hr => first|(go_simp;done)|(go_simp;rfl)); intro gb807 hg w52 hbox hb; have n0_ := am_ (bb_ BK798.out hb); have n1_ := am_ (bb_ BK799.out hb); have n2_ := am_ (bb_ BK800.out hb); have n3_ := am_ (below_step (hb3_ HB.out GE798.out GE799.out GE800.out) hb); have n4_ := am_ (hbox); have n5_ := am_ (hy_ hg (hb3_ HB.out GE798.out GE799.out GE800.out) : w.heap.size ≤ gb807); have n6_ := am_ (hy_ hg (hb3_ HB.out GE798.out GE799.out GE800.out) : w.heap.size ≤ gb807); have n7_ := am_ ((bl_ hg BK798.out : gb798 ≠ gb807)); have n8_ := am_ ((bg_ hg BK798.out : gb807 ≠ gb798)); have n9_ := am_ ((bl_ hg BK799.out : gb799 ≠ gb807)); have n10_ := am_ ((bg_ hg BK799.out : gb807 ≠ gb799)); have n11_ := am_ ((bl_ hg BK800.out : gb800 ≠ gb807)); have n12_ := am_ ((bg_ hg BK800.out : gb807 ≠ gb800)); clear BK798; clear BK799; clear BK800; clear HB; have BK798 := n0_; have BK799 := n1_; have BK800 := n2_; have HB := n3_; have BK807 := n4_; have GW807 := n5_; have GE807 := n6_; have NB798_807 := n7_; have NB807_798 := n8_; have NB799_807 := n9_; have NB807_799 := n10_; have NB800_807 := n11_; have NB807_800 := n12_; clear n0_ n1_ n2_ n3_ n4_ n5_ n6_ n7_ n8_ n9_ n10_ n11_ n12_; clear hb hbox hg; have hnb53 := NB807_798.out; have hnc53 := NB798_807.out; have hnb54 := NB807_799.out; have hnc54 := NB799_807.out; have hnb55 := NB807_800.out; have hnc55 := NB800_807.out; have hcz56_0 := bc_ BK807.out 0 (.int .i64 0) rfl; have hcz56_1 := bc_ BK807.out 1 (.int .i64 0) rfl; have hfz56_0 := blk_frozen BK807.out 0; have hfz56_1 := blk_frozen BK807.out 1; have hcz57_0 := bc_ BK798.out 0 (.bool true) rfl; have hcz57_1 := bc_ BK798.out 1 (.int .i64 a0_1) rfl; have hcz57_2 := bc_ BK798.out 2 (.int .i64 a0_2) rfl; have hcz57_3 := bc_ BK798.out 3 (.int .i64 a0_3) rfl; have hfz57_0 := blk_frozen BK798.out 0; have hfz57_1 := blk_frozen BK798.out 1; have hfz57_2 := blk_frozen BK798.out 2; have hfz57_3 := blk_frozen BK798.out 3) | ((with_reducible refine gate_callee (f := 97) rfl ?_); refine goesL_ (some 51) rfl rfl Try.func97 (by kernel_rfl) rfl #[.agg #[.int .i64 a0_1, .int .i64 a0_2], .agg #[.int .i64 t804, .int .i64 t805]] rfl arr_ ?_; (with_reducible refine (impl_PlusIval.calls a0_1 a0_2 t804 t805 t808 t809 true _ A43.out).mono ?_); rintro e w58 ⟨rfl, hb⟩; refine ⟨_, rfl, ?_⟩; have n0_ := am_ (blk_below (g := gb798) (o := .cells #[.bool true, .int .i64 a0_1, .int .i64 a0_2, .int .i64 a0_3] 62 (0, 0)) (by (with_reducible repeat (first | refine blk_drewN ?_ _ | refine blk_drew ?_ | refine blk_alloc ?_ _)); refine blk_far ?_ NB798_807.out _; (with_reducible repeat (first | refine blk_drewN ?_ _ | refine blk_drew ?_ | refine blk_alloc ?_ _)); refine blk_far ?_ NB798_807.out _; (with_reducible repeat (first | refine blk_drewN ?_ _ | refine blk_drew ?_ | refine blk_alloc ?_ _)); exact BK798.out) hb); have n1_ := am_ (blk_below (g := gb799) (o := .cells #[.int .i64 a1_0, .int .i64 a1_1] 34 (0, 0)) (by (with_reducible repeat (first | refine blk_drewN ?_ _ | refine blk_drew ?_ | refine blk_alloc ?_ _)); refine blk_far ?_ NB799_807.out _; (with_reducible repeat (first | refine blk_drewN ?_ _ | refine blk_drew ?_ | refine blk_alloc ?_ _)); refine blk_far ?_ NB799_807.out _; (with_reducible repeat (first | refine blk_drewN ?_ _ | refine blk_drew ?_ | refine blk_alloc ?_ _)); exact BK799.out) hb); have n2_ := am_ (blk_below (g := gb800) (o := .cells #[.int .i64 0, .int .i64 0] 32 (0, 0)) (by (with_reducible repeat (first | refine blk_drewN ?_ _ | refine blk_drew ?_ | refine blk_alloc ?_ _)); refine blk_far ?_ NB800_807.out _; (with_reducible repeat (first | refine blk_drewN ?_ _ | refine blk_drew ?_ | refine blk_alloc ?_ _)); refine blk_far ?_ NB800_807.out _; (with_reducible repeat (first | refine blk_drewN ?_ _ | refine blk_drew ?_ | refine blk_alloc ?_ _)); exact BK800.out) hb); have n3_ := am_ (blk_below (g := gb807) (o := .cells #[.int .i64 t804, .int .i64 t805] 32 (0, 0)) (by (with_reducible repeat (first | refine blk_drewN ?_ _ | refine blk_drew ?_ | refine blk_alloc ?_ _)); refine blk_put (cs := #[.int .i64 t804, .int .i64 0]) ?_ 1 _ rfl; (with_reducible repeat (first | refine blk_drewN ?_ _ | refine blk_drew ?_ | refine blk_alloc ?_ _)); refine blk_put (cs := #[.int .i64 0, .int .i64 0]) ?_ 0 _ rfl; (with_reducible repeat (first | refine blk_drewN ?_ _ | refine blk_drew ?_ | refine blk_alloc ?_ _)); exact BK807.out) hb); have n4_ := am_ (below_step (hb4_ HB.out GE798.out GE799.out GE800.out GE807.out) hb); clear BK798; clear BK799; clear BK800; clear BK807; clear HB; have BK798 := n0_; have BK799 := n1_; have BK800 := n2_; have BK807 := n3_; have HB := n4_; clear n0_ n1_ n2_ n3_ n4_; (try clear hb); (try clear hb2); (try clear hk); (try clear hi)) | ((with_reducible refine gate_dst (N := 10) rfl ?_); refine box_event ?hg (N := 10) ?hd (cs := #[.int .i64 0, .int .i64 0]) (t := 32) ?hr ?_; (case hd => rfl); (case hg => rfl); (case hr => first|(go_simp;done)|(go_simp;rfl)); intro gb811 hg w59 hbox hb; have n0_ := am_ (bb_ BK798.out hb); have n1_ := am_ (bb_ BK799.out hb); have n2_ := am_ (bb_ BK800.out hb); have n3_ := am_ (bb_ BK807.out hb); have n4_ := am_ (below_step (hb4_ HB.out GE798.out GE799.out GE800.out GE807.out) hb); have n5_ := am_ (hbox); have n6_ := am_ (hy_ hg (hb4_ HB.out GE798.out GE799.out GE800.out GE807.out) : w.heap.size ≤ gb811); have n7_ := am_ (hy_ hg (hb4_ HB.out GE798.out GE799.out GE800.out GE807.out) : w.heap.size ≤ gb811); have n8_ := am_ ((bl_ hg BK798.out : gb798 ≠ gb811)); have n9_ := am_ ((bg_ hg BK798.out : gb811 ≠ gb798)); have n10_ := am_ ((bl_ hg BK799.out : gb799 ≠ gb811)); have n11_ := am_ ((bg_ hg BK799.out : gb811 ≠ gb799)); have n12_ := am_ ((bl_ hg BK800.out : gb800 ≠ gb811)); have n13_ := am_ ((bg_ hg BK800.out : gb811 ≠ gb800)); have n14_ := am_ ((bl_ hg BK807.out : gb807 ≠ gb811)); have n15_ := am_ ((bg_ hg BK807.out : gb811 ≠ gb807)); clear BK798; clear BK799; clear BK800; clear BK807; clear HB; have BK798 := n0_; have BK799 := n1_; have BK800 := n2_; have BK807 := n3_; have HB := n4_; have BK811 := n5_; have GW811 := n6_; have GE811 := n7_; have NB798_811 := n8_; have NB811_798 := n9_; have NB799_811 := n10_; have NB811_799 := n11_; have NB800_811 := n12_; have NB811_800 := n13_; have NB807_811 := n14_; have NB811_807 := n15_; clear n0_ n1_ n2_ n3_ n4_ n5_ n6_ n7_ n8_ n9_ n10_ n11_ n12_ n13_ n14_ n15_; clear hb hbox hg; have hnb60 := NB811_798.out; have hnc60 := NB798_811.out; have hnb61 := NB811_799.out; have hnc61 := NB799_811.out; have hnb62 := NB811_800.out; have hnc62 := NB800_811.out; have hnb63 := NB811_807.out; have hnc63 := NB807_811.out; have hcz64_0 := bc_ BK811.out 0 (.int .i64 0) rfl; have hcz64_1 := bc_ BK811.out 1 (.int .i64 0) rfl; have hfz64_0 := blk_frozen BK811.out 0; have hfz64_1 := blk_frozen BK811.out 1; have hcz65_0 := bc_ BK800.out 0 (.int .i64 0) rfl; have hcz65_1 := bc_ BK800.out 1 (.int .i64 0) rfl; have hfz65_0 := blk_frozen BK800.out 0; have hfz65_1 := blk_frozen BK800.out 1))
                refine bodyPost_ret (results_ct rfl _ _ gb800 32 #[.int .i64 t808, .int .i64 t809] (0, 0) _ rfl (by (with_reducible repeat (first | refine blk_drewN ?_ _ | refine blk_drew ?_ | refine blk_alloc ?_ _)); refine blk_put (cs := #[.int .i64 t808, .int .i64 0]) ?_ 1 _ rfl; (with_reducible repeat (first | refine blk_drewN ?_ _ | refine blk_drew ?_ | refine blk_alloc ?_ _)); refine blk_put (cs := #[.int .i64 0, .int .i64 0]) ?_ 0 _ rfl; (with_reducible repeat (first | refine blk_drewN ?_ _ | refine blk_drew ?_ | refine blk_alloc ?_ _)); refine blk_far ?_ NB800_811.out _; (with_reducible repeat (first | refine blk_drewN ?_ _ | refine blk_drew ?_ | refine blk_alloc ?_ _)); refine blk_far ?_ NB800_811.out _; (with_reducible repeat (first | refine blk_drewN ?_ _ | refine blk_drew ?_ | refine blk_alloc ?_ _)); exact BK800.out) Try.underlying32 rfl (by kernel_rfl)) rfl ?_
                exact ⟨er_, hb5_ HB.out GE798.out GE799.out GE800.out GE807.out GE811.out⟩
              · replace c45 := Bool.eq_false_iff.mpr c45
                subst c45
                have H1 : (some (0, 0, 4)) = some (r1, r2, r3) := by rw [if_neg (show ¬ (false = true) by decide)] at H; exact H
                clear H
                have H := H1
                clear H1
                simp only [Option.some.injEq, Prod.mk.injEq] at H
                obtain ⟨rfl, rfl, rfl⟩ := H
                have hnb66 := NB798_799.out
                have hnc66 := NB799_798.out
                have hnb67 := NB798_800.out
                have hnc67 := NB800_798.out
                have hcz68_0 := bc_ BK798.out 0 (.bool true) rfl
                have hcz68_1 := bc_ BK798.out 1 (.int .i64 a0_1) rfl
                have hcz68_2 := bc_ BK798.out 2 (.int .i64 a0_2) rfl
                have hcz68_3 := bc_ BK798.out 3 (.int .i64 a0_3) rfl
                have hfz68_0 := blk_frozen BK798.out 0
                have hfz68_1 := blk_frozen BK798.out 1
                have hfz68_2 := blk_frozen BK798.out 2
                have hfz68_3 := blk_frozen BK798.out 3
                have hnb69 := NB799_800.out
                have hnc69 := NB800_799.out
                have hcz70_0 := bc_ BK799.out 0 (.int .i64 a1_0) rfl
                have hcz70_1 := bc_ BK799.out 1 (.int .i64 a1_1) rfl
                have hfz70_0 := blk_frozen BK799.out 0
                have hfz70_1 := blk_frozen BK799.out 1
                go_wp2_with (first | ((with_reducible refine gate_callee (f := 96) rfl ?_); refine goesL_ (some 44) rfl rfl Try.func96 (by kernel_rfl) rfl #[.agg #[.int .i64 a1_0, .int .i64 a1_1], .int .i64 (wrap64 (a2 - a0_3))] rfl arr_ ?_; (with_reducible refine (impl_Between.calls a1_0 a1_1 (wrap64 (a2 - a0_3)) t804 t805 true _ A42.out).mono ?_); rintro e w71 ⟨rfl, hb⟩; refine ⟨_, rfl, ?_⟩; have n0_ := am_ (bb_ BK798.out hb); have n1_ := am_ (bb_ BK799.out hb); have n2_ := am_ (bb_ BK800.out hb); have n3_ := am_ (below_step (hb3_ HB.out GE798.out GE799.out GE800.out) hb); clear BK798; clear BK799; clear BK800; clear HB; have BK798 := n0_; have BK799 := n1_; have BK800 := n2_; have HB := n3_; clear n0_ n1_ n2_ n3_; (try clear hb); (try clear hb2); (try clear hk); (try clear hi)) | ((with_reducible refine gate_dst (N := 8) rfl ?_); refine box_event ?hg (N := 8) ?hd (cs := #[.int .i64 0, .int .i64 0]) (t := 32) ?hr ?_; (case hd => rfl); (case hg => rfl); (case hr => first|(go_simp;done)|(go_simp;rfl)); intro gb807 hg w72 hbox hb; have n0_ := am_ (bb_ BK798.out hb); have n1_ := am_ (bb_ BK799.out hb); have n2_ := am_ (bb_ BK800.out hb); have n3_ := am_ (below_step (hb3_ HB.out GE798.out GE799.out GE800.out) hb); have n4_ := am_ (hbox); have n5_ := am_ (hy_ hg (hb3_ HB.out GE798.out GE799.out GE800.out) : w.heap.size ≤ gb807); have n6_ := am_ (hy_ hg (hb3_ HB.out GE798.out GE799.out GE800.out) : w.heap.size ≤ gb807); have n7_ := am_ ((bl_ hg BK798.out : gb798 ≠ gb807)); have n8_ := am_ ((bg_ hg BK798.out : gb807 ≠ gb798)); have n9_ := am_ ((bl_ hg BK799.out : gb799 ≠ gb807)); have n10_ := am_ ((bg_ hg BK799.out : gb807 ≠ gb799)); have n11_ := am_ ((bl_ hg BK800.out : gb800 ≠ gb807)); have n12_ := am_ ((bg_ hg BK800.out : gb807 ≠ gb800)); clear BK798; clear BK799; clear BK800; clear HB; have BK798 := n0_; have BK799 := n1_; have BK800 := n2_; have HB := n3_; have BK807 := n4_; have GW807 := n5_; have GE807 := n6_; have NB798_807 := n7_; have NB807_798 := n8_; have NB799_807 := n9_; have NB807_799 := n10_; have NB800_807 := n11_; have NB807_800 := n12_; clear n0_ n1_ n2_ n3_ n4_ n5_ n6_ n7_ n8_ n9_ n10_ n11_ n12_; clear hb hbox hg; have hnb73 := NB807_798.out; have hnc73 := NB798_807.out; have hnb74 := NB807_799.out; have hnc74 := NB799_807.out; have hnb75 := NB807_800.out; have hnc75 := NB800_807.out; have hcz76_0 := bc_ BK807.out 0 (.int .i64 0) rfl; have hcz76_1 := bc_ BK807.out 1 (.int .i64 0) rfl; have hfz76_0 := blk_frozen BK807.out 0; have hfz76_1 := blk_frozen BK807.out 1; have hcz77_0 := bc_ BK798.out 0 (.bool true) rfl; have hcz77_1 := bc_ BK798.out 1 (.int .i64 a0_1) rfl; have hcz77_2 := bc_ BK798.out 2 (.int .i64 a0_2) rfl; have hcz77_3 := bc_ BK798.out 3 (.int .i64 a0_3) rfl; have hfz77_0 := blk_frozen BK798.out 0; have hfz77_1 := blk_frozen BK798.out 1; have hfz77_2 := blk_frozen BK798.out 2; have hfz77_3 := blk_frozen BK798.out 3) | ((with_reducible refine gate_callee (f := 97) rfl ?_); refine goesL_ (some 51) rfl rfl Try.func97 (by kernel_rfl) rfl #[.agg #[.int .i64 a0_1, .int .i64 a0_2], .agg #[.int .i64 t804, .int .i64 t805]] rfl arr_ ?_; (with_reducible refine (impl_PlusIval.calls a0_1 a0_2 t804 t805 t808 t809 false _ A43.out).mono ?_); rintro e w78 ⟨rfl, hb⟩; refine ⟨_, rfl, ?_⟩; have n0_ := am_ (blk_below (g := gb798) (o := .cells #[.bool true, .int .i64 a0_1, .int .i64 a0_2, .int .i64 a0_3] 62 (0, 0)) (by (with_reducible repeat (first | refine blk_drewN ?_ _ | refine blk_drew ?_ | refine blk_alloc ?_ _)); refine blk_far ?_ NB798_807.out _; (with_reducible repeat (first | refine blk_drewN ?_ _ | refine blk_drew ?_ | refine blk_alloc ?_ _)); refine blk_far ?_ NB798_807.out _; (with_reducible repeat (first | refine blk_drewN ?_ _ | refine blk_drew ?_ | refine blk_alloc ?_ _)); exact BK798.out) hb); have n1_ := am_ (blk_below (g := gb799) (o := .cells #[.int .i64 a1_0, .int .i64 a1_1] 34 (0, 0)) (by (with_reducible repeat (first | refine blk_drewN ?_ _ | refine blk_drew ?_ | refine blk_alloc ?_ _)); refine blk_far ?_ NB799_807.out _; (with_reducible repeat (first | refine blk_drewN ?_ _ | refine blk_drew ?_ | refine blk_alloc ?_ _)); refine blk_far ?_ NB799_807.out _; (with_reducible repeat (first | refine blk_drewN ?_ _ | refine blk_drew ?_ | refine blk_alloc ?_ _)); exact BK799.out) hb); have n2_ := am_ (blk_below (g := gb800) (o := .cells #[.int .i64 0, .int .i64 0] 32 (0, 0)) (by (with_reducible repeat (first | refine blk_drewN ?_ _ | refine blk_drew ?_ | refine blk_alloc ?_ _)); refine blk_far ?_ NB800_807.out _; (with_reducible repeat (first | refine blk_drewN ?_ _ | refine blk_drew ?_ | refine blk_alloc ?_ _)); refine blk_far ?_ NB800_807.out _; (with_reducible repeat (first | refine blk_drewN ?_ _ | refine blk_drew ?_ | refine blk_alloc ?_ _)); exact BK800.out) hb); have n3_ := am_ (blk_below (g := gb807) (o := .cells #[.int .i64 t804, .int .i64 t805] 32 (0, 0)) (by (with_reducible repeat (first | refine blk_drewN ?_ _ | refine blk_drew ?_ | refine blk_alloc ?_ _)); refine blk_put (cs := #[.int .i64 t804, .int .i64 0]) ?_ 1 _ rfl; (with_reducible repeat (first | refine blk_drewN ?_ _ | refine blk_drew ?_ | refine blk_alloc ?_ _)); refine blk_put (cs := #[.int .i64 0, .int .i64 0]) ?_ 0 _ rfl; (with_reducible repeat (first | refine blk_drewN ?_ _ | refine blk_drew ?_ | refine blk_alloc ?_ _)); exact BK807.out) hb); have n4_ := am_ (below_step (hb4_ HB.out GE798.out GE799.out GE800.out GE807.out) hb); clear BK798; clear BK799; clear BK800; clear BK807; clear HB; have BK798 := n0_; have BK799 := n1_; have BK800 := n2_; have BK807 := n3_; have HB := n4_; clear n0_ n1_ n2_ n3_ n4_; (try clear hb); (try clear hb2); (try clear hk); (try clear hi)) | ((with_reducible refine gate_dst (N := 10) rfl ?_); refine box_event ?hg (N := 10) ?hd (cs := #[.int .i64 0, .int .i64 0]) (t := 32) ?hr ?_; (case hd => rfl); (case hg => rfl); (case hr => first|(go_simp;done)|(go_simp;rfl)); intro gb811 hg w79 hbox hb; have n0_ := am_ (bb_ BK798.out hb); have n1_ := am_ (bb_ BK799.out hb); have n2_ := am_ (bb_ BK800.out hb); have n3_ := am_ (bb_ BK807.out hb); have n4_ := am_ (below_step (hb4_ HB.out GE798.out GE799.out GE800.out GE807.out) hb); have n5_ := am_ (hbox); have n6_ := am_ (hy_ hg (hb4_ HB.out GE798.out GE799.out GE800.out GE807.out) : w.heap.size ≤ gb811); have n7_ := am_ (hy_ hg (hb4_ HB.out GE798.out GE799.out GE800.out GE807.out) : w.heap.size ≤ gb811); have n8_ := am_ ((bl_ hg BK798.out : gb798 ≠ gb811)); have n9_ := am_ ((bg_ hg BK798.out : gb811 ≠ gb798)); have n10_ := am_ ((bl_ hg BK799.out : gb799 ≠ gb811)); have n11_ := am_ ((bg_ hg BK799.out : gb811 ≠ gb799)); have n12_ := am_ ((bl_ hg BK800.out : gb800 ≠ gb811)); have n13_ := am_ ((bg_ hg BK800.out : gb811 ≠ gb800)); have n14_ := am_ ((bl_ hg BK807.out : gb807 ≠ gb811)); have n15_ := am_ ((bg_ hg BK807.out : gb811 ≠ gb807)); clear BK798; clear BK799; clear BK800; clear BK807; clear HB; have BK798 := n0_; have BK799 := n1_; have BK800 := n2_; have BK807 := n3_; have HB := n4_; have BK811 := n5_; have GW811 := n6_; have GE811 := n7_; have NB798_811 := n8_; have NB811_798 := n9_; have NB799_811 := n10_; have NB811_799 := n11_; have NB800_811 := n12_; have NB811_800 := n13_; have NB807_811 := n14_; have NB811_807 := n15_; clear n0_ n1_ n2_ n3_ n4_ n5_ n6_ n7_ n8_ n9_ n10_ n11_ n12_ n13_ n14_ n15_; clear hb hbox hg; have hnb80 := NB811_798.out; have hnc80 := NB798_811.out; have hnb81 := NB811_799.out; have hnc81 := NB799_811.out; have hnb82 := NB811_800.out; have hnc82 := NB800_811.out; have hnb83 := NB811_807.out; have hnc83 := NB807_811.out; have hcz84_0 := bc_ BK811.out 0 (.int .i64 0) rfl; have hcz84_1 := bc_ BK811.out 1 (.int .i64 0) rfl; have hfz84_0 := blk_frozen BK811.out 0; have hfz84_1 := blk_frozen BK811.out 1; have hcz85_0 := bc_ BK800.out 0 (.int .i64 0) rfl; have hcz85_1 := bc_ BK800.out 1 (.int .i64 0) rfl; have hfz85_0 := blk_frozen BK800.out 0; have hfz85_1 := blk_frozen BK800.out 1))
                refine bodyPost_ret (results_ct rfl _ _ gb800 32 #[.int .i64 0, .int .i64 0] (0, 0) _ rfl (by (with_reducible repeat (first | refine blk_drewN ?_ _ | refine blk_drew ?_ | refine blk_alloc ?_ _)); refine blk_put (cs := #[.int .i64 0, .int .i64 0]) ?_ 1 _ rfl; (with_reducible repeat (first | refine blk_drewN ?_ _ | refine blk_drew ?_ | refine blk_alloc ?_ _)); refine blk_put (cs := #[.int .i64 0, .int .i64 0]) ?_ 0 _ rfl; (with_reducible repeat (first | refine blk_drewN ?_ _ | refine blk_drew ?_ | refine blk_alloc ?_ _)); refine blk_far ?_ NB800_811.out _; (with_reducible repeat (first | refine blk_drewN ?_ _ | refine blk_drew ?_ | refine blk_alloc ?_ _)); refine blk_far ?_ NB800_811.out _; (with_reducible repeat (first | refine blk_drewN ?_ _ | refine blk_drew ?_ | refine blk_alloc ?_ _)); exact BK800.out) Try.underlying32 rfl (by kernel_rfl)) rfl ?_
                exact ⟨er_, hb5_ HB.out GE798.out GE799.out GE800.out GE807.out GE811.out⟩
            · replace c44 := Bool.eq_false_iff.mpr c44
              subst c44
              have H1 : (some (0, 0, 4)) = some (r1, r2, r3) := by rw [if_neg (show ¬ (false = true) by decide)] at H; exact H
              clear H
              have H := H1
              clear H1
              simp only [Option.some.injEq, Prod.mk.injEq] at H
              obtain ⟨rfl, rfl, rfl⟩ := H
              have hnb86 := NB798_799.out
              have hnc86 := NB799_798.out
              have hnb87 := NB798_800.out
              have hnc87 := NB800_798.out
              have hcz88_0 := bc_ BK798.out 0 (.bool true) rfl
              have hcz88_1 := bc_ BK798.out 1 (.int .i64 a0_1) rfl
              have hcz88_2 := bc_ BK798.out 2 (.int .i64 a0_2) rfl
              have hcz88_3 := bc_ BK798.out 3 (.int .i64 a0_3) rfl
              have hfz88_0 := blk_frozen BK798.out 0
              have hfz88_1 := blk_frozen BK798.out 1
              have hfz88_2 := blk_frozen BK798.out 2
              have hfz88_3 := blk_frozen BK798.out 3
              have hnb89 := NB799_800.out
              have hnc89 := NB800_799.out
              have hcz90_0 := bc_ BK799.out 0 (.int .i64 a1_0) rfl
              have hcz90_1 := bc_ BK799.out 1 (.int .i64 a1_1) rfl
              have hfz90_0 := blk_frozen BK799.out 0
              have hfz90_1 := blk_frozen BK799.out 1
              go_wp2_with (first | ((with_reducible refine gate_callee (f := 96) rfl ?_); refine goesL_ (some 44) rfl rfl Try.func96 (by kernel_rfl) rfl #[.agg #[.int .i64 a1_0, .int .i64 a1_1], .int .i64 (wrap64 (a2 - a0_3))] rfl arr_ ?_; (with_reducible refine (impl_Between.calls a1_0 a1_1 (wrap64 (a2 - a0_3)) t804 t805 false _ A42.out).mono ?_); rintro e w91 ⟨rfl, hb⟩; refine ⟨_, rfl, ?_⟩; have n0_ := am_ (bb_ BK798.out hb); have n1_ := am_ (bb_ BK799.out hb); have n2_ := am_ (bb_ BK800.out hb); have n3_ := am_ (below_step (hb3_ HB.out GE798.out GE799.out GE800.out) hb); clear BK798; clear BK799; clear BK800; clear HB; have BK798 := n0_; have BK799 := n1_; have BK800 := n2_; have HB := n3_; clear n0_ n1_ n2_ n3_; (try clear hb); (try clear hb2); (try clear hk); (try clear hi)) | ((with_reducible refine gate_dst (N := 8) rfl ?_); refine box_event ?hg (N := 8) ?hd (cs := #[.int .i64 0, .int .i64 0]) (t := 32) ?hr ?_; (case hd => rfl); (case hg => rfl); (case hr => first|(go_simp;done)|(go_simp;rfl)); intro gb807 hg w92 hbox hb; have n0_ := am_ (bb_ BK798.out hb); have n1_ := am_ (bb_ BK799.out hb); have n2_ := am_ (bb_ BK800.out hb); have n3_ := am_ (below_step (hb3_ HB.out GE798.out GE799.out GE800.out) hb); have n4_ := am_ (hbox); have n5_ := am_ (hy_ hg (hb3_ HB.out GE798.out GE799.out GE800.out) : w.heap.size ≤ gb807); have n6_ := am_ (hy_ hg (hb3_ HB.out GE798.out GE799.out GE800.out) : w.heap.size ≤ gb807); have n7_ := am_ ((bl_ hg BK798.out : gb798 ≠ gb807)); have n8_ := am_ ((bg_ hg BK798.out : gb807 ≠ gb798)); have n9_ := am_ ((bl_ hg BK799.out : gb799 ≠ gb807)); have n10_ := am_ ((bg_ hg BK799.out : gb807 ≠ gb799)); have n11_ := am_ ((bl_ hg BK800.out : gb800 ≠ gb807)); have n12_ := am_ ((bg_ hg BK800.out : gb807 ≠ gb800)); clear BK798; clear BK799; clear BK800; clear HB; have BK798 := n0_; have BK799 := n1_; have BK800 := n2_; have HB := n3_; have BK807 := n4_; have GW807 := n5_; have GE807 := n6_; have NB798_807 := n7_; have NB807_798 := n8_; have NB799_807 := n9_; have NB807_799 := n10_; have NB800_807 := n11_; have NB807_800 := n12_; clear n0_ n1_ n2_ n3_ n4_ n5_ n6_ n7_ n8_ n9_ n10_ n11_ n12_; clear hb hbox hg; have hnb93 := NB807_798.out; have hnc93 := NB798_807.out; have hnb94 := NB807_799.out; have hnc94 := NB799_807.out; have hnb95 := NB807_800.out; have hnc95 := NB800_807.out; have hcz96_0 := bc_ BK807.out 0 (.int .i64 0) rfl; have hcz96_1 := bc_ BK807.out 1 (.int .i64 0) rfl; have hfz96_0 := blk_frozen BK807.out 0; have hfz96_1 := blk_frozen BK807.out 1; have hcz97_0 := bc_ BK798.out 0 (.bool true) rfl; have hcz97_1 := bc_ BK798.out 1 (.int .i64 a0_1) rfl; have hcz97_2 := bc_ BK798.out 2 (.int .i64 a0_2) rfl; have hcz97_3 := bc_ BK798.out 3 (.int .i64 a0_3) rfl; have hfz97_0 := blk_frozen BK798.out 0; have hfz97_1 := blk_frozen BK798.out 1; have hfz97_2 := blk_frozen BK798.out 2; have hfz97_3 := blk_frozen BK798.out 3) | ((with_reducible refine gate_callee (f := 97) rfl ?_); refine goesL_ (some 51) rfl rfl Try.func97 (by kernel_rfl) rfl #[.agg #[.int .i64 a0_1, .int .i64 a0_2], .agg #[.int .i64 t804, .int .i64 t805]] rfl arr_ ?_; (with_reducible refine (impl_PlusIval.calls a0_1 a0_2 t804 t805 t808 t809 t810 _ A43.out).mono ?_); rintro e w98 ⟨rfl, hb⟩; refine ⟨_, rfl, ?_⟩; have n0_ := am_ (blk_below (g := gb798) (o := .cells #[.bool true, .int .i64 a0_1, .int .i64 a0_2, .int .i64 a0_3] 62 (0, 0)) (by (with_reducible repeat (first | refine blk_drewN ?_ _ | refine blk_drew ?_ | refine blk_alloc ?_ _)); refine blk_far ?_ NB798_807.out _; (with_reducible repeat (first | refine blk_drewN ?_ _ | refine blk_drew ?_ | refine blk_alloc ?_ _)); refine blk_far ?_ NB798_807.out _; (with_reducible repeat (first | refine blk_drewN ?_ _ | refine blk_drew ?_ | refine blk_alloc ?_ _)); exact BK798.out) hb); have n1_ := am_ (blk_below (g := gb799) (o := .cells #[.int .i64 a1_0, .int .i64 a1_1] 34 (0, 0)) (by (with_reducible repeat (first | refine blk_drewN ?_ _ | refine blk_drew ?_ | refine blk_alloc ?_ _)); refine blk_far ?_ NB799_807.out _; (with_reducible repeat (first | refine blk_drewN ?_ _ | refine blk_drew ?_ | refine blk_alloc ?_ _)); refine blk_far ?_ NB799_807.out _; (with_reducible repeat (first | refine blk_drewN ?_ _ | refine blk_drew ?_ | refine blk_alloc ?_ _)); exact BK799.out) hb); have n2_ := am_ (blk_below (g := gb800) (o := .cells #[.int .i64 0, .int .i64 0] 32 (0, 0)) (by (with_reducible repeat (first | refine blk_drewN ?_ _ | refine blk_drew ?_ | refine blk_alloc ?_ _)); refine blk_far ?_ NB800_807.out _; (with_reducible repeat (first | refine blk_drewN ?_ _ | refine blk_drew ?_ | refine blk_alloc ?_ _)); refine blk_far ?_ NB800_807.out _; (with_reducible repeat (first | refine blk_drewN ?_ _ | refine blk_drew ?_ | refine blk_alloc ?_ _)); exact BK800.out) hb); have n3_ := am_ (blk_below (g := gb807) (o := .cells #[.int .i64 t804, .int .i64 t805] 32 (0, 0)) (by (with_reducible repeat (first | refine blk_drewN ?_ _ | refine blk_drew ?_ | refine blk_alloc ?_ _)); refine blk_put (cs := #[.int .i64 t804, .int .i64 0]) ?_ 1 _ rfl; (with_reducible repeat (first | refine blk_drewN ?_ _ | refine blk_drew ?_ | refine blk_alloc ?_ _)); refine blk_put (cs := #[.int .i64 0, .int .i64 0]) ?_ 0 _ rfl; (with_reducible repeat (first | refine blk_drewN ?_ _ | refine blk_drew ?_ | refine blk_alloc ?_ _)); exact BK807.out) hb); have n4_ := am_ (below_step (hb4_ HB.out GE798.out GE799.out GE800.out GE807.out) hb); clear BK798; clear BK799; clear BK800; clear BK807; clear HB; have BK798 := n0_; have BK799 := n1_; have BK800 := n2_; have BK807 := n3_; have HB := n4_; clear n0_ n1_ n2_ n3_ n4_; (try clear hb); (try clear hb2); (try clear hk); (try clear hi)) | ((with_reducible refine gate_dst (N := 10) rfl ?_); refine box_event ?hg (N := 10) ?hd (cs := #[.int .i64 0, .int .i64 0]) (t := 32) ?hr ?_; (case hd => rfl); (case hg => rfl); (case hr => first|(go_simp;done)|(go_simp;rfl)); intro gb811 hg w99 hbox hb; have n0_ := am_ (bb_ BK798.out hb); have n1_ := am_ (bb_ BK799.out hb); have n2_ := am_ (bb_ BK800.out hb); have n3_ := am_ (bb_ BK807.out hb); have n4_ := am_ (below_step (hb4_ HB.out GE798.out GE799.out GE800.out GE807.out) hb); have n5_ := am_ (hbox); have n6_ := am_ (hy_ hg (hb4_ HB.out GE798.out GE799.out GE800.out GE807.out) : w.heap.size ≤ gb811); have n7_ := am_ (hy_ hg (hb4_ HB.out GE798.out GE799.out GE800.out GE807.out) : w.heap.size ≤ gb811); have n8_ := am_ ((bl_ hg BK798.out : gb798 ≠ gb811)); have n9_ := am_ ((bg_ hg BK798.out : gb811 ≠ gb798)); have n10_ := am_ ((bl_ hg BK799.out : gb799 ≠ gb811)); have n11_ := am_ ((bg_ hg BK799.out : gb811 ≠ gb799)); have n12_ := am_ ((bl_ hg BK800.out : gb800 ≠ gb811)); have n13_ := am_ ((bg_ hg BK800.out : gb811 ≠ gb800)); have n14_ := am_ ((bl_ hg BK807.out : gb807 ≠ gb811)); have n15_ := am_ ((bg_ hg BK807.out : gb811 ≠ gb807)); clear BK798; clear BK799; clear BK800; clear BK807; clear HB; have BK798 := n0_; have BK799 := n1_; have BK800 := n2_; have BK807 := n3_; have HB := n4_; have BK811 := n5_; have GW811 := n6_; have GE811 := n7_; have NB798_811 := n8_; have NB811_798 := n9_; have NB799_811 := n10_; have NB811_799 := n11_; have NB800_811 := n12_; have NB811_800 := n13_; have NB807_811 := n14_; have NB811_807 := n15_; clear n0_ n1_ n2_ n3_ n4_ n5_ n6_ n7_ n8_ n9_ n10_ n11_ n12_ n13_ n14_ n15_; clear hb hbox hg; have hnb100 := NB811_798.out; have hnc100 := NB798_811.out; have hnb101 := NB811_799.out; have hnc101 := NB799_811.out; have hnb102 := NB811_800.out; have hnc102 := NB800_811.out; have hnb103 := NB811_807.out; have hnc103 := NB807_811.out; have hcz104_0 := bc_ BK811.out 0 (.int .i64 0) rfl; have hcz104_1 := bc_ BK811.out 1 (.int .i64 0) rfl; have hfz104_0 := blk_frozen BK811.out 0; have hfz104_1 := blk_frozen BK811.out 1; have hcz105_0 := bc_ BK800.out 0 (.int .i64 0) rfl; have hcz105_1 := bc_ BK800.out 1 (.int .i64 0) rfl; have hfz105_0 := blk_frozen BK800.out 0; have hfz105_1 := blk_frozen BK800.out 1))
              refine bodyPost_ret (results_ct rfl _ _ gb800 32 #[.int .i64 0, .int .i64 0] (0, 0) _ rfl (by (with_reducible repeat (first | refine blk_drewN ?_ _ | refine blk_drew ?_ | refine blk_alloc ?_ _)); refine blk_put (cs := #[.int .i64 0, .int .i64 0]) ?_ 1 _ rfl; (with_reducible repeat (first | refine blk_drewN ?_ _ | refine blk_drew ?_ | refine blk_alloc ?_ _)); refine blk_put (cs := #[.int .i64 0, .int .i64 0]) ?_ 0 _ rfl; (with_reducible repeat (first | refine blk_drewN ?_ _ | refine blk_drew ?_ | refine blk_alloc ?_ _)); refine blk_far ?_ NB800_811.out _; (with_reducible repeat (first | refine blk_drewN ?_ _ | refine blk_drew ?_ | refine blk_alloc ?_ _)); refine blk_far ?_ NB800_811.out _; (with_reducible repeat (first | refine blk_drewN ?_ _ | refine blk_drew ?_ | refine blk_alloc ?_ _)); exact BK800.out) Try.underlying32 rfl (by kernel_rfl)) rfl ?_
              exact ⟨er_, hb5_ HB.out GE798.out GE799.out GE800.out GE807.out GE811.out⟩
        · replace c35 := Bool.eq_false_iff.mpr c35
          subst c35
          have H1 : (some (0, 0, 2)) = some (r1, r2, r3) := by rw [if_neg (show ¬ (false = true) by decide)] at H; exact H
          clear H
          have H := H1
          clear H1
          simp only [Option.some.injEq, Prod.mk.injEq] at H
          obtain ⟨rfl, rfl, rfl⟩ := H
          have hnb106 := NB798_799.out
          have hnc106 := NB799_798.out
          have hnb107 := NB798_800.out
          have hnc107 := NB800_798.out
          have hcz108_0 := bc_ BK798.out 0 (.bool false) rfl
          have hcz108_1 := bc_ BK798.out 1 (.int .i64 a0_1) rfl
          have hcz108_2 := bc_ BK798.out 2 (.int .i64 a0_2) rfl
          have hcz108_3 := bc_ BK798.out 3 (.int .i64 a0_3) rfl
          have hfz108_0 := blk_frozen BK798.out 0
          have hfz108_1 := blk_frozen BK798.out 1
          have hfz108_2 := blk_frozen BK798.out 2
          have hfz108_3 := blk_frozen BK798.out 3
          have hnb109 := NB800_799.out
          have hnc109 := NB799_800.out
          have hcz110_0 := bc_ BK800.out 0 (.int .i64 0) rfl
          have hcz110_1 := bc_ BK800.out 1 (.int .i64 0) rfl
          have hfz110_0 := blk_frozen BK800.out 0
          have hfz110_1 := blk_frozen BK800.out 1
          go_wp2
          refine bodyPost_ret (results_ct rfl _ _ gb800 32 #[.int .i64 0, .int .i64 0] (0, 0) _ rfl (by (with_reducible repeat (first | refine blk_drewN ?_ _ | refine blk_drew ?_ | refine blk_alloc ?_ _)); refine blk_put (cs := #[.int .i64 0, .int .i64 0]) ?_ 1 _ rfl; (with_reducible repeat (first | refine blk_drewN ?_ _ | refine blk_drew ?_ | refine blk_alloc ?_ _)); refine blk_put (cs := #[.int .i64 0, .int .i64 0]) ?_ 0 _ rfl; (with_reducible repeat (first | refine blk_drewN ?_ _ | refine blk_drew ?_ | refine blk_alloc ?_ _)); exact BK800.out) Try.underlying32 rfl (by kernel_rfl)) rfl ?_
          exact ⟨er_, hb3_ HB.out GE798.out GE799.out GE800.out⟩
end Go.Proofs.Ytejohmompmjhnaa.P
