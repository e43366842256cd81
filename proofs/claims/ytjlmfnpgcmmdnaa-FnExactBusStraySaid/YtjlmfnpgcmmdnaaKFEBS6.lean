/- Texts of the seat's proofs, part 6: functions of the program told as plain functions, with their contracts, and what is shown of them. No condition. -/
import Derived.Test.YtjlmfnpgcmmdnaaUKFEBS
import Derived.Test.YtjlmfnpgcmmdnaaKFEBS1
import Derived.Test.YtjlmfnpgcmmdnaaKFEBS5
import Derived.Test.YtjlmfnpgcmmdnaaKFEBS3
set_option linter.unusedVariables false
set_option linter.unusedSimpArgs false
namespace Go.Proofs.Ytjlmfnpgcmmdnaa.P
open Go.RowKit Go.Proofs.YtjlmfnpgcmmdnaaW.PrintWords Go.Proofs.YtjlmfnpgcmmdnaaW.PrintLast Go.Proofs.YtjlmfnpgcmmdnaaW.PrintMore
attribute [local go_sem] max2_int min2_int max_two min_two max_three min_three max_four min_four
set_option linter.unusedVariables false
set_option linter.unusedSimpArgs false
def laws_toPlan.f (k : Nat) (a0_0 : Int) (a0_1 : Int) (l0_2 : List (S110)) : Option (Int × Int × (List (S90))) := (laws_toSlotS.f k l0_2).bind fun t759 => (some (a0_0, a0_1, t759))
set_option maxHeartbeats 8000000 in
set_option maxRecDepth 100000 in
theorem laws_toPlan.calls (k : Nat) (a0_0 : Int) (a0_1 : Int) (A0_2 : Option Addr) (c0_2 : Nat) (l0_2 : List (S110)) (r1 : Int) (r2 : Int) (r3 : List (S90)) (w : World) (hr0_2 : Kd.C k110 w A0_2 l0_2.length l0_2) (hc0_2 : l0_2.length ≤ c0_2) (h : laws_toPlan.f k a0_0 a0_1 l0_2 = some (r1, r2, r3)) :
    Calls Try.prog 43 #[.agg #[.int .i64 a0_0, .int .i64 a0_1, .slice A0_2 l0_2.length c0_2]] w fun e w' => ∃ v2_ : Value, e = .returned (.agg #[.int .i64 r1, .int .i64 r2, v2_]) ∧ Kd.R k90 90 w' w.heap.size (fun _ => True) v2_ r3 ∧ Below w.heap.size w w' := by
  have hu66 := Try.underlying66
  have hu59 := Try.underlying59
  have HR0_2 := Aside0.mk hr0_2
  have HC0_2 := Aside0.mk hc0_2
  clear hr0_2 hc0_2
  have HB := Aside0.mk (Below.refl w.heap.size w)
  have H : ((laws_toSlotS.f k l0_2).bind fun t759 => (some (a0_0, a0_1, t759))) = some (r1, r2, r3) := h
  clear h
  replace H := Option.bind_eq_some_iff.mp H
  obtain ⟨t759, A20, H⟩ := H
  replace H : (some (a0_0, a0_1, t759)) = some (r1, r2, r3) := H
  have A2 := Aside0.mk A20
  clear A20
  simp only [Option.some.injEq, Prod.mk.injEq] at H
  obtain ⟨rfl, rfl, rfl⟩ := H
  go_enter Try.func43, Try.ntmps43
  go_wp2_with (first | ((with_reducible refine gate_dst (N := 1) rfl ?_); refine box_event ?hg (N := 1) ?hd (cs := #[.int .i64 a0_0, .int .i64 a0_1, .slice A0_2 l0_2.length c0_2]) (t := 66) ?hr ?_; (case hd => rfl); (case hg => rfl); (case hr => first | (go_simp; done) | (go_simp; rfl)); intro gb756 hg w3 hbox hb; have n0_ := Aside0.mk (below_step (hb_ HB.out) hb); have n1_ := Aside0.mk (hbox); have n2_ := Aside0.mk ((by rw [hg]; exact (below_size (hb_ HB.out)) : w.heap.size ≤ gb756)); have n3_ := Aside0.mk ((by rw [hg]; exact (below_size (hb_ HB.out)) : w.heap.size ≤ gb756)); clear HB; have HB := n0_; have BK756 := n1_; have GW756 := n2_; have GE756 := n3_; clear n0_ n1_ n2_ n3_; clear hb hbox hg) | ((with_reducible refine gate_dst (N := 2) rfl ?_); refine box_event ?hg (N := 2) ?hd (cs := #[.int .i64 0, .int .i64 0, .slice none 0 0]) (t := 59) ?hr ?_; (case hd => rfl); (case hg => rfl); (case hr => first | (go_simp; done) | (go_simp; rfl)); intro gb757 hg w4 hbox hb; have n0_ := Aside0.mk (bb_ BK756.out hb); have n1_ := Aside0.mk (below_step (hb1_ HB.out GE756.out) hb); have n2_ := Aside0.mk (hbox); have n3_ := Aside0.mk ((by rw [hg]; exact (below_size (hb1_ HB.out GE756.out)) : w.heap.size ≤ gb757)); have n4_ := Aside0.mk ((by rw [hg]; exact (below_size (hb1_ HB.out GE756.out)) : w.heap.size ≤ gb757)); have n5_ := Aside0.mk ((bl_ hg BK756.out : gb756 ≠ gb757)); have n6_ := Aside0.mk ((bg_ hg BK756.out : gb757 ≠ gb756)); clear BK756; clear HB; have BK756 := n0_; have HB := n1_; have BK757 := n2_; have GW757 := n3_; have GE757 := n4_; have NB756_757 := n5_; have NB757_756 := n6_; clear n0_ n1_ n2_ n3_ n4_ n5_ n6_; clear hb hbox hg) | ((with_reducible refine gate_dst (N := 3) rfl ?_); refine box_event ?hg (N := 3) ?hd (cs := #[.int .i64 0, .int .i64 0, .slice none 0 0]) (t := 59) ?hr ?_; (case hd => rfl); (case hg => rfl); (case hr => first | (go_simp; done) | (go_simp; rfl)); intro gb758 hg w5 hbox hb; have n0_ := Aside0.mk (bb_ BK756.out hb); have n1_ := Aside0.mk (bb_ BK757.out hb); have n2_ := Aside0.mk (below_step (hb2_ HB.out GE756.out GE757.out) hb); have n3_ := Aside0.mk (hbox); have n4_ := Aside0.mk ((by rw [hg]; exact (below_size (hb2_ HB.out GE756.out GE757.out)) : w.heap.size ≤ gb758)); have n5_ := Aside0.mk ((by rw [hg]; exact (below_size (hb2_ HB.out GE756.out GE757.out)) : w.heap.size ≤ gb758)); have n6_ := Aside0.mk ((bl_ hg BK756.out : gb756 ≠ gb758)); have n7_ := Aside0.mk ((bg_ hg BK756.out : gb758 ≠ gb756)); have n8_ := Aside0.mk ((bl_ hg BK757.out : gb757 ≠ gb758)); have n9_ := Aside0.mk ((bg_ hg BK757.out : gb758 ≠ gb757)); clear BK756; clear BK757; clear HB; have BK756 := n0_; have BK757 := n1_; have HB := n2_; have BK758 := n3_; have GW758 := n4_; have GE758 := n5_; have NB756_758 := n6_; have NB758_756 := n7_; have NB757_758 := n8_; have NB758_757 := n9_; clear n0_ n1_ n2_ n3_ n4_ n5_ n6_ n7_ n8_ n9_; clear hb hbox hg; have hnb6 := NB756_757.out; have hnc6 := NB757_756.out; have hnb7 := NB756_758.out; have hnc7 := NB758_756.out; have hcz8_0 := bc_ BK756.out 0 (.int .i64 a0_0) rfl; have hcz8_1 := bc_ BK756.out 1 (.int .i64 a0_1) rfl; have hcz8_2 := bc_ BK756.out 2 (.slice A0_2 l0_2.length c0_2) rfl; have hfz8_0 := blk_frozen BK756.out 0; have hfz8_1 := blk_frozen BK756.out 1; have hfz8_2 := blk_frozen BK756.out 2; have hnb9 := NB758_757.out; have hnc9 := NB757_758.out; have hcz10_0 := bc_ BK758.out 0 (.int .i64 0) rfl; have hcz10_1 := bc_ BK758.out 1 (.int .i64 0) rfl; have hcz10_2 := bc_ BK758.out 2 (.slice none 0 0) rfl; have hfz10_0 := blk_frozen BK758.out 0; have hfz10_1 := blk_frozen BK758.out 1; have hfz10_2 := blk_frozen BK758.out 2) | ((with_reducible refine gate_callee (f := 79) rfl ?_); refine goesL_ (some 12) rfl rfl Try.func79 (by kernel_rfl) rfl #[.slice A0_2 l0_2.length c0_2] rfl arr_ ?_; (with_reducible refine (laws_toSlotS.calls k _ _ l0_2 t759 _ ?side1 ?side2 A2.out).mono ?_); (case side1 => exact Kd.C_below HR0_2.out (hb3_ HB.out GE756.out GE757.out GE758.out)); (case side2 => exact HC0_2.out); rintro e w11 ⟨v760, rfl, ho0, hb⟩; refine ⟨_, rfl, ?_⟩; have n0_ := Aside0.mk (Kd.R_lower ho0 (below_size (hb3_ HB.out GE756.out GE757.out GE758.out))); have n1_ := Aside0.mk (blk_below (g := gb756) (o := .cells #[.int .i64 a0_0, .int .i64 a0_1, .slice A0_2 l0_2.length c0_2] 66 (0, 0)) (by (with_reducible repeat (first | refine blk_drewN ?_ _ | refine blk_drew ?_ | refine blk_alloc ?_ _)); refine blk_far ?_ NB756_758.out _; (with_reducible repeat (first | refine blk_drewN ?_ _ | refine blk_drew ?_ | refine blk_alloc ?_ _)); refine blk_far ?_ NB756_758.out _; (with_reducible repeat (first | refine blk_drewN ?_ _ | refine blk_drew ?_ | refine blk_alloc ?_ _)); exact BK756.out) hb); have n2_ := Aside0.mk (blk_below (g := gb757) (o := .cells #[.int .i64 0, .int .i64 0, .slice none 0 0] 59 (0, 0)) (by (with_reducible repeat (first | refine blk_drewN ?_ _ | refine blk_drew ?_ | refine blk_alloc ?_ _)); refine blk_far ?_ NB757_758.out _; (with_reducible repeat (first | refine blk_drewN ?_ _ | refine blk_drew ?_ | refine blk_alloc ?_ _)); refine blk_far ?_ NB757_758.out _; (with_reducible repeat (first | refine blk_drewN ?_ _ | refine blk_drew ?_ | refine blk_alloc ?_ _)); exact BK757.out) hb); have n3_ := Aside0.mk (blk_below (g := gb758) (o := .cells #[.int .i64 a0_0, .int .i64 a0_1, .slice none 0 0] 59 (0, 0)) (by (with_reducible repeat (first | refine blk_drewN ?_ _ | refine blk_drew ?_ | refine blk_alloc ?_ _)); refine blk_put (cs := #[.int .i64 a0_0, .int .i64 0, .slice none 0 0]) ?_ 1 _ rfl; (with_reducible repeat (first | refine blk_drewN ?_ _ | refine blk_drew ?_ | refine blk_alloc ?_ _)); refine blk_put (cs := #[.int .i64 0, .int .i64 0, .slice none 0 0]) ?_ 0 _ rfl; (with_reducible repeat (first | refine blk_drewN ?_ _ | refine blk_drew ?_ | refine blk_alloc ?_ _)); exact BK758.out) hb); have n4_ := Aside0.mk (below_step (hb3_ HB.out GE756.out GE757.out GE758.out) hb); clear BK756; clear BK757; clear BK758; clear HB; have HO761 := n0_; have BK756 := n1_; have BK757 := n2_; have BK758 := n3_; have HB := n4_; clear n0_ n1_ n2_ n3_ n4_; (try clear hb); (try clear hb2); (try clear hk); (try clear hi); (try clear ho0); obtain ⟨Ao12, co12, eo12⟩ := Kd.R_slice HO761.out; subst eo12; have hcz13_0 := bc_ BK758.out 0 (.int .i64 a0_0) rfl; have hcz13_1 := bc_ BK758.out 1 (.int .i64 a0_1) rfl; have hcz13_2 := bc_ BK758.out 2 (.slice none 0 0) rfl; have hfz13_0 := blk_frozen BK758.out 0; have hfz13_1 := blk_frozen BK758.out 1; have hfz13_2 := blk_frozen BK758.out 2; have hcz14_0 := bc_ BK757.out 0 (.int .i64 0) rfl; have hcz14_1 := bc_ BK757.out 1 (.int .i64 0) rfl; have hcz14_2 := bc_ BK757.out 2 (.slice none 0 0) rfl; have hfz14_0 := blk_frozen BK757.out 0; have hfz14_1 := blk_frozen BK757.out 1; have hfz14_2 := blk_frozen BK757.out 2))
  refine bodyPost_ret (results_cell_row rfl _ _ gb757 59 #[.int .i64 a0_0, .int .i64 a0_1, .slice Ao12 t759.length co12] (0, 0) _ rfl (by (with_reducible repeat (first | refine blk_drewN ?_ _ | refine blk_drew ?_ | refine blk_alloc ?_ _)); refine blk_put (cs := #[.int .i64 a0_0, .int .i64 a0_1, .slice none 0 0]) ?_ 2 _ rfl; (with_reducible repeat (first | refine blk_drewN ?_ _ | refine blk_drew ?_ | refine blk_alloc ?_ _)); refine blk_put (cs := #[.int .i64 a0_0, .int .i64 0, .slice none 0 0]) ?_ 1 _ rfl; (with_reducible repeat (first | refine blk_drewN ?_ _ | refine blk_drew ?_ | refine blk_alloc ?_ _)); refine blk_put (cs := #[.int .i64 0, .int .i64 0, .slice none 0 0]) ?_ 0 _ rfl; (with_reducible repeat (first | refine blk_drewN ?_ _ | refine blk_drew ?_ | refine blk_alloc ?_ _)); refine blk_far ?_ NB757_758.out _; (with_reducible repeat (first | refine blk_drewN ?_ _ | refine blk_drew ?_ | refine blk_alloc ?_ _)); exact BK757.out) Try.underlying59 rfl (by kernel_rfl)) rfl ?_
  exact ⟨_, er_, by (with_reducible repeat (first | apply Kd.R_alloc | apply Kd.R_drewN | apply Kd.R_drew)); exact Kd.R_mono (Kd.R_far (p := ⟨gb757, 2, none⟩) (Kd.R_far (p := ⟨gb757, 1, none⟩) (Kd.R_far (p := ⟨gb757, 0, none⟩) (Kd.R_far (p := ⟨gb758, 2, none⟩) (Kd.R_types (Kd.R_types HO761.out BK758.out (by decide)) BK757.out (by decide)) (fun _ hk => hk.1.2) (.slice Ao12 t759.length co12)) (fun _ hk => hk.2) (.int .i64 a0_0)) (fun _ hk => hk.2) (.int .i64 a0_1)) (fun _ hk => hk.2) (.slice Ao12 t759.length co12)) (fun _ hk => trivial), hb3_ HB.out GE756.out GE757.out GE758.out⟩
def laws_eqSlot.f (a0_0 : Int) (a0_1 : Int) (a1_0 : Int) (a1_1 : Int) : Option (Bool) := if a0_0 = a1_0 then (if a0_1 = a1_1 then (some true) else (some false)) else (some false)
set_option maxHeartbeats 8000000 in
set_option maxRecDepth 100000 in
theorem laws_eqSlot.calls (a0_0 : Int) (a0_1 : Int) (a1_0 : Int) (a1_1 : Int) (r : Bool) (w : World) (h : laws_eqSlot.f a0_0 a0_1 a1_0 a1_1 = some r) :
    Calls Try.prog 98 #[.agg #[.int .i64 a0_0, .int .i64 a0_1], .agg #[.int .i64 a1_0, .int .i64 a1_1]] w fun e w' => e = .returned (.bool r) ∧ Below w.heap.size w w' := by
  have hu90 := Try.underlying90
  have HB := Aside0.mk (Below.refl w.heap.size w)
  have H : (if a0_0 = a1_0 then (if a0_1 = a1_1 then (some true) else (some false)) else (some false)) = some r := h
  clear h
  by_cases c3 : a0_0 = a1_0
  · rw [if_pos c3] at H
    have c3b0 : (a0_0 == a1_0) = true := beq_iff_eq.mpr c3
    have c3b1 : (a0_0 != a1_0) = false := bne_eq_false_iff_eq.mpr c3
    clear c3
    by_cases c4 : a0_1 = a1_1
    · rw [if_pos c4] at H
      have c4b0 : (a0_1 == a1_1) = true := beq_iff_eq.mpr c4
      have c4b1 : (a0_1 != a1_1) = false := bne_eq_false_iff_eq.mpr c4
      clear c4
      obtain rfl := Option.some.inj H
      go_enter Try.func98, Try.ntmps98
      go_wp2_with (first | ((with_reducible refine gate_dst (N := 2) rfl ?_); refine box_event ?hg (N := 2) ?hd (cs := #[.int .i64 a0_0, .int .i64 a0_1]) (t := 90) ?hr ?_; (case hd => rfl); (case hg => rfl); (case hr => first | (go_simp; done) | (go_simp; rfl)); intro gb762 hg w5 hbox hb; have n0_ := Aside0.mk (below_step (hb_ HB.out) hb); have n1_ := Aside0.mk (hbox); have n2_ := Aside0.mk ((by rw [hg]; exact (below_size (hb_ HB.out)) : w.heap.size ≤ gb762)); have n3_ := Aside0.mk ((by rw [hg]; exact (below_size (hb_ HB.out)) : w.heap.size ≤ gb762)); clear HB; have HB := n0_; have BK762 := n1_; have GW762 := n2_; have GE762 := n3_; clear n0_ n1_ n2_ n3_; clear hb hbox hg) | ((with_reducible refine gate_dst (N := 3) rfl ?_); refine box_event ?hg (N := 3) ?hd (cs := #[.int .i64 a1_0, .int .i64 a1_1]) (t := 90) ?hr ?_; (case hd => rfl); (case hg => rfl); (case hr => first | (go_simp; done) | (go_simp; rfl)); intro gb763 hg w6 hbox hb; have n0_ := Aside0.mk (bb_ BK762.out hb); have n1_ := Aside0.mk (below_step (hb1_ HB.out GE762.out) hb); have n2_ := Aside0.mk (hbox); have n3_ := Aside0.mk ((by rw [hg]; exact (below_size (hb1_ HB.out GE762.out)) : w.heap.size ≤ gb763)); have n4_ := Aside0.mk ((by rw [hg]; exact (below_size (hb1_ HB.out GE762.out)) : w.heap.size ≤ gb763)); have n5_ := Aside0.mk ((bl_ hg BK762.out : gb762 ≠ gb763)); have n6_ := Aside0.mk ((bg_ hg BK762.out : gb763 ≠ gb762)); clear BK762; clear HB; have BK762 := n0_; have HB := n1_; have BK763 := n2_; have GW763 := n3_; have GE763 := n4_; have NB762_763 := n5_; have NB763_762 := n6_; clear n0_ n1_ n2_ n3_ n4_ n5_ n6_; clear hb hbox hg; have hnb7 := NB762_763.out; have hnc7 := NB763_762.out; have hcz8_0 := bc_ BK762.out 0 (.int .i64 a0_0) rfl; have hcz8_1 := bc_ BK762.out 1 (.int .i64 a0_1) rfl; have hfz8_0 := blk_frozen BK762.out 0; have hfz8_1 := blk_frozen BK762.out 1; have hcz9_0 := bc_ BK763.out 0 (.int .i64 a1_0) rfl; have hcz9_1 := bc_ BK763.out 1 (.int .i64 a1_1) rfl; have hfz9_0 := blk_frozen BK763.out 0; have hfz9_1 := blk_frozen BK763.out 1))
      go_ret
      exact ⟨er_, hb2_ HB.out GE762.out GE763.out⟩
    · rw [if_neg c4] at H
      have c4b0 : (a0_1 == a1_1) = false := beq_eq_false_iff_ne.mpr c4
      have c4b1 : (a0_1 != a1_1) = true := bne_iff_ne.mpr c4
      obtain rfl := Option.some.inj H
      go_enter Try.func98, Try.ntmps98
      go_wp2_with (first | ((with_reducible refine gate_dst (N := 2) rfl ?_); refine box_event ?hg (N := 2) ?hd (cs := #[.int .i64 a0_0, .int .i64 a0_1]) (t := 90) ?hr ?_; (case hd => rfl); (case hg => rfl); (case hr => first | (go_simp; done) | (go_simp; rfl)); intro gb762 hg w10 hbox hb; have n0_ := Aside0.mk (below_step (hb_ HB.out) hb); have n1_ := Aside0.mk (hbox); have n2_ := Aside0.mk ((by rw [hg]; exact (below_size (hb_ HB.out)) : w.heap.size ≤ gb762)); have n3_ := Aside0.mk ((by rw [hg]; exact (below_size (hb_ HB.out)) : w.heap.size ≤ gb762)); clear HB; have HB := n0_; have BK762 := n1_; have GW762 := n2_; have GE762 := n3_; clear n0_ n1_ n2_ n3_; clear hb hbox hg) | ((with_reducible refine gate_dst (N := 3) rfl ?_); refine box_event ?hg (N := 3) ?hd (cs := #[.int .i64 a1_0, .int .i64 a1_1]) (t := 90) ?hr ?_; (case hd => rfl); (case hg => rfl); (case hr => first | (go_simp; done) | (go_simp; rfl)); intro gb763 hg w11 hbox hb; have n0_ := Aside0.mk (bb_ BK762.out hb); have n1_ := Aside0.mk (below_step (hb1_ HB.out GE762.out) hb); have n2_ := Aside0.mk (hbox); have n3_ := Aside0.mk ((by rw [hg]; exact (below_size (hb1_ HB.out GE762.out)) : w.heap.size ≤ gb763)); have n4_ := Aside0.mk ((by rw [hg]; exact (below_size (hb1_ HB.out GE762.out)) : w.heap.size ≤ gb763)); have n5_ := Aside0.mk ((bl_ hg BK762.out : gb762 ≠ gb763)); have n6_ := Aside0.mk ((bg_ hg BK762.out : gb763 ≠ gb762)); clear BK762; clear HB; have BK762 := n0_; have HB := n1_; have BK763 := n2_; have GW763 := n3_; have GE763 := n4_; have NB762_763 := n5_; have NB763_762 := n6_; clear n0_ n1_ n2_ n3_ n4_ n5_ n6_; clear hb hbox hg; have hnb12 := NB762_763.out; have hnc12 := NB763_762.out; have hcz13_0 := bc_ BK762.out 0 (.int .i64 a0_0) rfl; have hcz13_1 := bc_ BK762.out 1 (.int .i64 a0_1) rfl; have hfz13_0 := blk_frozen BK762.out 0; have hfz13_1 := blk_frozen BK762.out 1; have hcz14_0 := bc_ BK763.out 0 (.int .i64 a1_0) rfl; have hcz14_1 := bc_ BK763.out 1 (.int .i64 a1_1) rfl; have hfz14_0 := blk_frozen BK763.out 0; have hfz14_1 := blk_frozen BK763.out 1))
      go_ret
      exact ⟨er_, hb2_ HB.out GE762.out GE763.out⟩
  · rw [if_neg c3] at H
    have c3b0 : (a0_0 == a1_0) = false := beq_eq_false_iff_ne.mpr c3
    have c3b1 : (a0_0 != a1_0) = true := bne_iff_ne.mpr c3
    obtain rfl := Option.some.inj H
    go_enter Try.func98, Try.ntmps98
    go_wp2_with (first | ((with_reducible refine gate_dst (N := 2) rfl ?_); refine box_event ?hg (N := 2) ?hd (cs := #[.int .i64 a0_0, .int .i64 a0_1]) (t := 90) ?hr ?_; (case hd => rfl); (case hg => rfl); (case hr => first | (go_simp; done) | (go_simp; rfl)); intro gb762 hg w15 hbox hb; have n0_ := Aside0.mk (below_step (hb_ HB.out) hb); have n1_ := Aside0.mk (hbox); have n2_ := Aside0.mk ((by rw [hg]; exact (below_size (hb_ HB.out)) : w.heap.size ≤ gb762)); have n3_ := Aside0.mk ((by rw [hg]; exact (below_size (hb_ HB.out)) : w.heap.size ≤ gb762)); clear HB; have HB := n0_; have BK762 := n1_; have GW762 := n2_; have GE762 := n3_; clear n0_ n1_ n2_ n3_; clear hb hbox hg) | ((with_reducible refine gate_dst (N := 3) rfl ?_); refine box_event ?hg (N := 3) ?hd (cs := #[.int .i64 a1_0, .int .i64 a1_1]) (t := 90) ?hr ?_; (case hd => rfl); (case hg => rfl); (case hr => first | (go_simp; done) | (go_simp; rfl)); intro gb763 hg w16 hbox hb; have n0_ := Aside0.mk (bb_ BK762.out hb); have n1_ := Aside0.mk (below_step (hb1_ HB.out GE762.out) hb); have n2_ := Aside0.mk (hbox); have n3_ := Aside0.mk ((by rw [hg]; exact (below_size (hb1_ HB.out GE762.out)) : w.heap.size ≤ gb763)); have n4_ := Aside0.mk ((by rw [hg]; exact (below_size (hb1_ HB.out GE762.out)) : w.heap.size ≤ gb763)); have n5_ := Aside0.mk ((bl_ hg BK762.out : gb762 ≠ gb763)); have n6_ := Aside0.mk ((bg_ hg BK762.out : gb763 ≠ gb762)); clear BK762; clear HB; have BK762 := n0_; have HB := n1_; have BK763 := n2_; have GW763 := n3_; have GE763 := n4_; have NB762_763 := n5_; have NB763_762 := n6_; clear n0_ n1_ n2_ n3_ n4_ n5_ n6_; clear hb hbox hg; have hnb17 := NB762_763.out; have hnc17 := NB763_762.out; have hcz18_0 := bc_ BK762.out 0 (.int .i64 a0_0) rfl; have hcz18_1 := bc_ BK762.out 1 (.int .i64 a0_1) rfl; have hfz18_0 := blk_frozen BK762.out 0; have hfz18_1 := blk_frozen BK762.out 1; have hcz19_0 := bc_ BK763.out 0 (.int .i64 a1_0) rfl; have hcz19_1 := bc_ BK763.out 1 (.int .i64 a1_1) rfl; have hfz19_0 := blk_frozen BK763.out 0; have hfz19_1 := blk_frozen BK763.out 1))
    go_ret
    exact ⟨er_, hb2_ HB.out GE762.out GE763.out⟩
def laws_eqSlotS.l0 : Nat → List (S90) → List (S90) → Int → Option (Bool)
  | 0, _, _, _ => none
  | k + 1, x0, x1, x5 => if x5 < (x0.length : Int) then (if 0 ≤ x5 then (if x5 < (x1.length : Int) then ((laws_eqSlot.f ((rd_T90 x0 x5).f0) ((rd_T90 x0 x5).f1) ((rd_T90 x1 x5).f0) ((rd_T90 x1 x5).f1)).bind fun t766 => (if t766 = true then (laws_eqSlotS.l0 k x0 x1 (wrap64 (x5 + 1))) else (some false))) else (none)) else (none)) else (some true)
def laws_eqSlotS.f (k : Nat) (l0 : List (S90)) (l1 : List (S90)) : Option (Bool) := if (l0.length : Int) = (l1.length : Int) then (laws_eqSlotS.l0 k l0 l1 0) else (some false)
def laws_eqSlotS.T6 : Bool × List (List Nat × List Nat) := (true, [([], []), ([], []), ([0, 1], [0, 1]), ([2], [2]), ([], []), ([], []), ([4, 5], [4, 5]), ([6], [6]), ([3, 7], [3, 7]), ([8], [8])])
def laws_eqSlotS.B6 : List Nat := [0, 0, 3, 7, 0, 0, 48, 112, 255, 511]
theorem laws_eqSlotS.tab6 : rtab .any (opsOf Try.f80 6) = laws_eqSlotS.T6 := by kernel_rfl
theorem laws_eqSlotS.bits6 : waitsOk laws_eqSlotS.T6.2 laws_eqSlotS.B6 = true := by kernel_rfl
set_option maxHeartbeats 8000000 in
set_option maxRecDepth 100000 in
theorem laws_eqSlotS.calls (k : Nat) (A0 : Option Addr) (c0 : Nat) (l0 : List (S90)) (A1 : Option Addr) (c1 : Nat) (l1 : List (S90)) (r : Bool) (w : World) (hr0 : Kd.C k90 w A0 l0.length l0) (hc0 : l0.length ≤ c0) (hr1 : Kd.C k90 w A1 l1.length l1) (hc1 : l1.length ≤ c1) (h : laws_eqSlotS.f k l0 l1 = some r) :
    Calls Try.prog 80 #[.slice A0 l0.length c0, .slice A1 l1.length c1] w fun e w' => e = .returned (.bool r) ∧ Below w.heap.size w w' := by
  have hu90 := Try.underlying90
  have HR0 := Aside0.mk hr0
  have HC0 := Aside0.mk hc0
  clear hr0 hc0
  have HR1 := Aside0.mk hr1
  have HC1 := Aside0.mk hc1
  clear hr1 hc1
  have HB := Aside0.mk (Below.refl w.heap.size w)
  have H : (if (l0.length : Int) = (l1.length : Int) then (laws_eqSlotS.l0 k l0 l1 0) else (some false)) = some r := h
  clear h
  by_cases c3 : (l0.length : Int) = (l1.length : Int)
  · rw [if_pos c3] at H
    have c3b0 : ((l0.length : Int) == (l1.length : Int)) = true := beq_iff_eq.mpr c3
    have c3b1 : ((l0.length : Int) != (l1.length : Int)) = false := bne_eq_false_iff_eq.mpr c3
    have c3b2 : (l0.length == l1.length) = true := by first | simpa using c3 | (simp at c3 ⊢; omega)
    clear c3
    have H' := Aside0.mk H
    clear H
    go_enter Try.func80, Try.ntmps80
    go_wp2
    go_loopg [5] k (fun kq v5 w' => ∃ (x5_1 : Int), v5 = .int .i64 x5_1 ∧ Aside0 (laws_eqSlotS.l0 kq l0 l1 x5_1 = some r) ∧ Aside0 (kq ≤ k) ∧ Aside0 (Below w.heap.size w w'))
    case atStart => exact ⟨(0), (by first | rfl | (simp; done) | (simp [*]; done)), H', ⟨Nat.le_refl _⟩, ⟨hb_ HB.out⟩⟩
    case round =>
      clear H'
      try clear c1
      try clear p2
      try clear c3
      try clear c3b0
      try clear c3b1
      try clear c3b2
      obtain ⟨x5_1, rfl, HA, HK1, HB⟩ := hrel
      cases gk with
      | zero => exact absurd HA.out (by simp [laws_eqSlotS.l0])
      | succ k1 =>
        have H := HA.out
        clear HA
        simp only [laws_eqSlotS.l0] at H
        by_cases c4 : x5_1 < (l0.length : Int)
        · rw [if_pos c4] at H
          have c4b0 : decide (x5_1 < (l0.length : Int)) = true := decide_eq_true c4
          clear c4
          by_cases c5 : 0 ≤ x5_1
          · rw [if_pos c5] at H
            have c5b0 : decide (0 ≤ x5_1) = true := decide_eq_true c5
            clear c5
            by_cases c6 : x5_1 < (l1.length : Int)
            · rw [if_pos c6] at H
              have c6b0 : decide (x5_1 < (l1.length : Int)) = true := decide_eq_true c6
              clear c6
              replace H := Option.bind_eq_some_iff.mp H
              obtain ⟨t766, A70, H⟩ := H
              replace H : (if t766 = true then (laws_eqSlotS.l0 k1 l0 l1 (wrap64 (x5_1 + 1))) else (some false)) = some r := H
              have A7 := Aside0.mk A70
              clear A70
              by_cases c8 : t766 = true
              · subst c8
                have H1 : (laws_eqSlotS.l0 k1 l0 l1 (wrap64 (x5_1 + 1))) = some r := by rw [if_pos rfl] at H; exact H
                clear H
                have H := H1
                clear H1
                have H' := Aside0.mk H
                clear H
                try go_wp2
                have n0_ := Aside0.mk (below_drew1 HB.out)
                clear HB
                have HB := n0_
                clear n0_
                have p764 : 0 ≤ (x5_1 : Int) := of_decide_eq_true (by first | (with_reducible assumption) | assumption)
                have q764 : x5_1 < (l0.length : Int) := of_decide_eq_true (by first | (with_reducible assumption) | assumption)
                obtain ⟨ad764, e764, hx764_0, hx764_1⟩ := at_T90 HR0.out x5_1 p764 q764
                have hw764_1 := hx764_1
                have hw764_0 := hx764_0
                cases e764
                replace hx764_0 := (HB.out.cell (World.block_lt_of_cell? w _ hx764_0)).trans hx764_0
                replace hx764_1 := (HB.out.cell (World.block_lt_of_cell? w _ hx764_1)).trans hx764_1
                replace p764 := eq_true p764
                replace q764 := eq_true q764
                have p765 : 0 ≤ (x5_1 : Int) := of_decide_eq_true (by first | (with_reducible assumption) | assumption)
                have q765 : x5_1 < (l1.length : Int) := of_decide_eq_true (by first | (with_reducible assumption) | assumption)
                obtain ⟨ad765, e765, hx765_0, hx765_1⟩ := at_T90 HR1.out x5_1 p765 q765
                have hw765_1 := hx765_1
                have hw765_0 := hx765_0
                cases e765
                replace hx765_0 := (HB.out.cell (World.block_lt_of_cell? w _ hx765_0)).trans hx765_0
                replace hx765_1 := (HB.out.cell (World.block_lt_of_cell? w _ hx765_1)).trans hx765_1
                replace p765 := eq_true p765
                replace q765 := eq_true q765
                refine start_ (n := 10) (S := fun w' => w'.cell? (ad764.add ((x5_1).toNat * 2)) = some (.int .i64 ((rd_T90 l0 x5_1).f0)) ∧ w'.cell? ⟨(ad764.add ((x5_1).toNat * 2)).block, (ad764.add ((x5_1).toNat * 2)).off + 1, none⟩ = some (.int .i64 ((rd_T90 l0 x5_1).f1)) ∧ w'.cell? (ad765.add ((x5_1).toNat * 2)) = some (.int .i64 ((rd_T90 l1 x5_1).f0)) ∧ w'.cell? ⟨(ad765.add ((x5_1).toNat * 2)).block, (ad765.add ((x5_1).toNat * 2)).off + 1, none⟩ = some (.int .i64 ((rd_T90 l1 x5_1).f1))) (ds := []) #[false, false, false, false, false, false, false, false, false, false] (by kernel_rfl) rfl rfl ⟨((HB.out.cell (World.block_lt_of_cell? w _ hw764_0)).trans hw764_0), ((HB.out.cell (World.block_lt_of_cell? w _ hw764_1)).trans hw764_1), ((HB.out.cell (World.block_lt_of_cell? w _ hw765_0)).trans hw765_0), ((HB.out.cell (World.block_lt_of_cell? w _ hw765_1)).trans hw765_1)⟩ (fun hHeld => ?_); refine with_tabW laws_eqSlotS.tab6 laws_eqSlotS.bits6 (fun HT_ HW_ => ?_)
                generalize wr.drew = w9 at HB hx764_0 hx764_1 hx765_0 hx765_1 hHeld ⊢
                refine pure_ (i := 0) (N := some 17) (v := ?_) (a' := ?_) #[true, false, false, false, false, false, false, false, false, false] rfl rfl (any_of HT_.out (by kernel_rfl)) (fun _ _ _ h => h) (Or.inl ⟨by rfl, ?_⟩) ?_ ?_
                rotate_left
                · intro w'
                  go_simp
                  with_reducible rfl
                rotate_left
                · simp only [Act.put, List.setIfInBounds_toArray, List.set_cons_zero, List.set_cons_succ, i64_w, i32_w]
                  rfl
                refine pure_ (i := 1) (N := some 18) (v := ?_) (a' := ?_) #[true, true, false, false, false, false, false, false, false, false] rfl rfl (any_of HT_.out (by kernel_rfl)) (fun _ _ _ h => h) (Or.inl ⟨by rfl, ?_⟩) ?_ ?_
                rotate_left
                · intro w'
                  go_simp
                  with_reducible rfl
                rotate_left
                · simp only [Act.put, List.setIfInBounds_toArray, List.set_cons_zero, List.set_cons_succ, i64_w, i32_w]
                  rfl
                refine pure_ (i := 2) (N := some 19) (v := ?_) (a' := ?_) #[true, true, true, false, false, false, false, false, false, false] rfl rfl (any_of HT_.out (by kernel_rfl)) (fun _ _ _ h => h) (Or.inl ⟨by rfl, ?_⟩) ?_ ?_
                rotate_left
                · intro w'
                  go_simp
                  with_reducible rfl
                rotate_left
                · simp only [Act.put, List.setIfInBounds_toArray, List.set_cons_zero, List.set_cons_succ, i64_w, i32_w]
                  rfl
                refine pure_ (i := 4) (N := some 21) (v := ?_) (a' := ?_) #[true, true, true, false, true, false, false, false, false, false] rfl rfl (any_of HT_.out (by kernel_rfl)) (fun _ _ _ h => h) (Or.inl ⟨by rfl, ?_⟩) ?_ ?_
                rotate_left
                · intro w'
                  go_simp
                  with_reducible rfl
                rotate_left
                · simp only [Act.put, List.setIfInBounds_toArray, List.set_cons_zero, List.set_cons_succ, i64_w, i32_w]
                  rfl
                refine pure_ (i := 5) (N := some 22) (v := ?_) (a' := ?_) #[true, true, true, false, true, true, false, false, false, false] rfl rfl (any_of HT_.out (by kernel_rfl)) (fun _ _ _ h => h) (Or.inl ⟨by rfl, ?_⟩) ?_ ?_
                rotate_left
                · intro w'
                  go_simp
                  with_reducible rfl
                rotate_left
                · simp only [Act.put, List.setIfInBounds_toArray, List.set_cons_zero, List.set_cons_succ, i64_w, i32_w]
                  rfl
                refine pure_ (i := 6) (N := some 23) (v := ?_) (a' := ?_) #[true, true, true, false, true, true, true, false, false, false] rfl rfl (any_of HT_.out (by kernel_rfl)) (fun _ _ _ h => h) (Or.inl ⟨by rfl, ?_⟩) ?_ ?_
                rotate_left
                · intro w'
                  go_simp
                  with_reducible rfl
                rotate_left
                · simp only [Act.put, List.setIfInBounds_toArray, List.set_cons_zero, List.set_cons_succ, i64_w, i32_w]
                  rfl
                refine take_ (i := 3) (N := some 20) (v := ?_) (a' := ?_) #[true, true, true, true, true, true, true, false, false, false] rfl rfl (take_ofW HT_.out HW_.out (by kernel_rfl)) (fun _ _ _ h => h) (Or.inl ⟨by rfl, ?_⟩) hHeld ?_ ?_
                rotate_left
                · rintro w' ⟨s0, s1, s2, s3⟩
                  go_simp
                  with_reducible rfl
                rotate_left
                · simp only [Act.put, List.setIfInBounds_toArray, List.set_cons_zero, List.set_cons_succ, i64_w, i32_w]
                  rfl
                refine take_ (i := 7) (N := some 24) (v := ?_) (a' := ?_) #[true, true, true, true, true, true, true, true, false, false] rfl rfl (take_ofW HT_.out HW_.out (by kernel_rfl)) (fun _ _ _ h => h) (Or.inl ⟨by rfl, ?_⟩) hHeld ?_ ?_
                rotate_left
                · rintro w' ⟨s0, s1, s2, s3⟩
                  go_simp
                  with_reducible rfl
                rotate_left
                · simp only [Act.put, List.setIfInBounds_toArray, List.set_cons_zero, List.set_cons_succ, i64_w, i32_w]
                  rfl
                refine one_ (i := 8) (N := some 25) #[true, true, true, true, true, true, true, true, true, false] rfl rfl (one_of HT_.out (by kernel_rfl)) (by decide) (fun K hK => ?_)
                refine goes_ Try.func98 (by kernel_rfl) rfl #[.agg #[.int .i64 ((rd_T90 l0 x5_1).f0), .int .i64 ((rd_T90 l0 x5_1).f1)], .agg #[.int .i64 ((rd_T90 l1 x5_1).f0), .int .i64 ((rd_T90 l1 x5_1).f1)]] (by rfl) rfl rfl arr_ ?_
                with_reducible refine (laws_eqSlot.calls ((rd_T90 l0 x5_1).f0) ((rd_T90 l0 x5_1).f1) ((rd_T90 l1 x5_1).f0) ((rd_T90 l1 x5_1).f1) true _ A7.out).mono ?_
                rintro e w10 ⟨rfl, hb⟩
                refine ⟨_, rfl, ?_⟩
                have n0_ := Aside0.mk (below_step (hb_ HB.out) hb)
                clear HB
                have HB := n0_
                clear n0_
                (try clear hb)
                (try clear hb2)
                (try clear hk)
                (try clear hi)
                refine hK.out _ _ ⟨((HB.out.cell (World.block_lt_of_cell? w _ hw764_0)).trans hw764_0), ((HB.out.cell (World.block_lt_of_cell? w _ hw764_1)).trans hw764_1), ((HB.out.cell (World.block_lt_of_cell? w _ hw765_0)).trans hw765_0), ((HB.out.cell (World.block_lt_of_cell? w _ hw765_1)).trans hw765_1)⟩ (fun hHeld => ?_)
                clear hK K
                refine norm_ (a' := ?_) ?_ ?_
                rotate_left
                · show Act.put _ (some 25) _ = _
                  simp only [Act.put, List.setIfInBounds_toArray, List.set_cons_zero, List.set_cons_succ, i64_w, i32_w]
                  rfl
                refine pure_ (i := 9) (N := some 26) (v := ?_) (a' := ?_) #[true, true, true, true, true, true, true, true, true, true] rfl rfl (any_of HT_.out (by kernel_rfl)) (fun _ _ _ h => h) (Or.inl ⟨by rfl, ?_⟩) ?_ ?_
                rotate_left
                · intro w'
                  go_simp
                  with_reducible rfl
                rotate_left
                · simp only [Act.put, List.setIfInBounds_toArray, List.set_cons_zero, List.set_cons_succ, i64_w, i32_w]
                  rfl
                refine done_ (done_of HT_.out (by kernel_rfl)) ?_
                try go_wp2
                go_roundg k1
                case measure => have := HK1.out; omega
                case rel => exact ⟨(wrap64 (x5_1 + 1)), (by first | rfl | (simp; done) | (simp [*]; done)), H', ⟨by have := HK1.out; omega⟩, ⟨hb_ HB.out⟩⟩
              · replace c8 := Bool.eq_false_iff.mpr c8
                subst c8
                have H1 : (some false) = some r := by rw [if_neg (show ¬ (false = true) by decide)] at H; exact H
                clear H
                have H := H1
                clear H1
                obtain rfl := Option.some.inj H
                try go_wp2
                have n0_ := Aside0.mk (below_drew1 HB.out)
                clear HB
                have HB := n0_
                clear n0_
                have p764 : 0 ≤ (x5_1 : Int) := of_decide_eq_true (by first | (with_reducible assumption) | assumption)
                have q764 : x5_1 < (l0.length : Int) := of_decide_eq_true (by first | (with_reducible assumption) | assumption)
                obtain ⟨ad764, e764, hx764_0, hx764_1⟩ := at_T90 HR0.out x5_1 p764 q764
                have hw764_1 := hx764_1
                have hw764_0 := hx764_0
                cases e764
                replace hx764_0 := (HB.out.cell (World.block_lt_of_cell? w _ hx764_0)).trans hx764_0
                replace hx764_1 := (HB.out.cell (World.block_lt_of_cell? w _ hx764_1)).trans hx764_1
                replace p764 := eq_true p764
                replace q764 := eq_true q764
                have p765 : 0 ≤ (x5_1 : Int) := of_decide_eq_true (by first | (with_reducible assumption) | assumption)
                have q765 : x5_1 < (l1.length : Int) := of_decide_eq_true (by first | (with_reducible assumption) | assumption)
                obtain ⟨ad765, e765, hx765_0, hx765_1⟩ := at_T90 HR1.out x5_1 p765 q765
                have hw765_1 := hx765_1
                have hw765_0 := hx765_0
                cases e765
                replace hx765_0 := (HB.out.cell (World.block_lt_of_cell? w _ hx765_0)).trans hx765_0
                replace hx765_1 := (HB.out.cell (World.block_lt_of_cell? w _ hx765_1)).trans hx765_1
                replace p765 := eq_true p765
                replace q765 := eq_true q765
                refine start_ (n := 10) (S := fun w' => w'.cell? (ad764.add ((x5_1).toNat * 2)) = some (.int .i64 ((rd_T90 l0 x5_1).f0)) ∧ w'.cell? ⟨(ad764.add ((x5_1).toNat * 2)).block, (ad764.add ((x5_1).toNat * 2)).off + 1, none⟩ = some (.int .i64 ((rd_T90 l0 x5_1).f1)) ∧ w'.cell? (ad765.add ((x5_1).toNat * 2)) = some (.int .i64 ((rd_T90 l1 x5_1).f0)) ∧ w'.cell? ⟨(ad765.add ((x5_1).toNat * 2)).block, (ad765.add ((x5_1).toNat * 2)).off + 1, none⟩ = some (.int .i64 ((rd_T90 l1 x5_1).f1))) (ds := []) #[false, false, false, false, false, false, false, false, false, false] (by kernel_rfl) rfl rfl ⟨((HB.out.cell (World.block_lt_of_cell? w _ hw764_0)).trans hw764_0), ((HB.out.cell (World.block_lt_of_cell? w _ hw764_1)).trans hw764_1), ((HB.out.cell (World.block_lt_of_cell? w _ hw765_0)).trans hw765_0), ((HB.out.cell (World.block_lt_of_cell? w _ hw765_1)).trans hw765_1)⟩ (fun hHeld => ?_); refine with_tabW laws_eqSlotS.tab6 laws_eqSlotS.bits6 (fun HT_ HW_ => ?_)
                generalize wr.drew = w11 at HB hx764_0 hx764_1 hx765_0 hx765_1 hHeld ⊢
                refine pure_ (i := 0) (N := some 17) (v := ?_) (a' := ?_) #[true, false, false, false, false, false, false, false, false, false] rfl rfl (any_of HT_.out (by kernel_rfl)) (fun _ _ _ h => h) (Or.inl ⟨by rfl, ?_⟩) ?_ ?_
                rotate_left
                · intro w'
                  go_simp
                  with_reducible rfl
                rotate_left
                · simp only [Act.put, List.setIfInBounds_toArray, List.set_cons_zero, List.set_cons_succ, i64_w, i32_w]
                  rfl
                refine pure_ (i := 1) (N := some 18) (v := ?_) (a' := ?_) #[true, true, false, false, false, false, false, false, false, false] rfl rfl (any_of HT_.out (by kernel_rfl)) (fun _ _ _ h => h) (Or.inl ⟨by rfl, ?_⟩) ?_ ?_
                rotate_left
                · intro w'
                  go_simp
                  with_reducible rfl
                rotate_left
                · simp only [Act.put, List.setIfInBounds_toArray, List.set_cons_zero, List.set_cons_succ, i64_w, i32_w]
                  rfl
                refine pure_ (i := 2) (N := some 19) (v := ?_) (a' := ?_) #[true, true, true, false, false, false, false, false, false, false] rfl rfl (any_of HT_.out (by kernel_rfl)) (fun _ _ _ h => h) (Or.inl ⟨by rfl, ?_⟩) ?_ ?_
                rotate_left
                · intro w'
                  go_simp
                  with_reducible rfl
                rotate_left
                · simp only [Act.put, List.setIfInBounds_toArray, List.set_cons_zero, List.set_cons_succ, i64_w, i32_w]
                  rfl
                refine pure_ (i := 4) (N := some 21) (v := ?_) (a' := ?_) #[true, true, true, false, true, false, false, false, false, false] rfl rfl (any_of HT_.out (by kernel_rfl)) (fun _ _ _ h => h) (Or.inl ⟨by rfl, ?_⟩) ?_ ?_
                rotate_left
                · intro w'
                  go_simp
                  with_reducible rfl
                rotate_left
                · simp only [Act.put, List.setIfInBounds_toArray, List.set_cons_zero, List.set_cons_succ, i64_w, i32_w]
                  rfl
                refine pure_ (i := 5) (N := some 22) (v := ?_) (a' := ?_) #[true, true, true, false, true, true, false, false, false, false] rfl rfl (any_of HT_.out (by kernel_rfl)) (fun _ _ _ h => h) (Or.inl ⟨by rfl, ?_⟩) ?_ ?_
                rotate_left
                · intro w'
                  go_simp
                  with_reducible rfl
                rotate_left
                · simp only [Act.put, List.setIfInBounds_toArray, List.set_cons_zero, List.set_cons_succ, i64_w, i32_w]
                  rfl
                refine pure_ (i := 6) (N := some 23) (v := ?_) (a' := ?_) #[true, true, true, false, true, true, true, false, false, false] rfl rfl (any_of HT_.out (by kernel_rfl)) (fun _ _ _ h => h) (Or.inl ⟨by rfl, ?_⟩) ?_ ?_
                rotate_left
                · intro w'
                  go_simp
                  with_reducible rfl
                rotate_left
                · simp only [Act.put, List.setIfInBounds_toArray, List.set_cons_zero, List.set_cons_succ, i64_w, i32_w]
                  rfl
                refine take_ (i := 3) (N := some 20) (v := ?_) (a' := ?_) #[true, true, true, true, true, true, true, false, false, false] rfl rfl (take_ofW HT_.out HW_.out (by kernel_rfl)) (fun _ _ _ h => h) (Or.inl ⟨by rfl, ?_⟩) hHeld ?_ ?_
                rotate_left
                · rintro w' ⟨s0, s1, s2, s3⟩
                  go_simp
                  with_reducible rfl
                rotate_left
                · simp only [Act.put, List.setIfInBounds_toArray, List.set_cons_zero, List.set_cons_succ, i64_w, i32_w]
                  rfl
                refine take_ (i := 7) (N := some 24) (v := ?_) (a' := ?_) #[true, true, true, true, true, true, true, true, false, false] rfl rfl (take_ofW HT_.out HW_.out (by kernel_rfl)) (fun _ _ _ h => h) (Or.inl ⟨by rfl, ?_⟩) hHeld ?_ ?_
                rotate_left
                · rintro w' ⟨s0, s1, s2, s3⟩
                  go_simp
                  with_reducible rfl
                rotate_left
                · simp only [Act.put, List.setIfInBounds_toArray, List.set_cons_zero, List.set_cons_succ, i64_w, i32_w]
                  rfl
                refine one_ (i := 8) (N := some 25) #[true, true, true, true, true, true, true, true, true, false] rfl rfl (one_of HT_.out (by kernel_rfl)) (by decide) (fun K hK => ?_)
                refine goes_ Try.func98 (by kernel_rfl) rfl #[.agg #[.int .i64 ((rd_T90 l0 x5_1).f0), .int .i64 ((rd_T90 l0 x5_1).f1)], .agg #[.int .i64 ((rd_T90 l1 x5_1).f0), .int .i64 ((rd_T90 l1 x5_1).f1)]] (by rfl) rfl rfl arr_ ?_
                with_reducible refine (laws_eqSlot.calls ((rd_T90 l0 x5_1).f0) ((rd_T90 l0 x5_1).f1) ((rd_T90 l1 x5_1).f0) ((rd_T90 l1 x5_1).f1) false _ A7.out).mono ?_
                rintro e w12 ⟨rfl, hb⟩
                refine ⟨_, rfl, ?_⟩
                have n0_ := Aside0.mk (below_step (hb_ HB.out) hb)
                clear HB
                have HB := n0_
                clear n0_
                (try clear hb)
                (try clear hb2)
                (try clear hk)
                (try clear hi)
                refine hK.out _ _ ⟨((HB.out.cell (World.block_lt_of_cell? w _ hw764_0)).trans hw764_0), ((HB.out.cell (World.block_lt_of_cell? w _ hw764_1)).trans hw764_1), ((HB.out.cell (World.block_lt_of_cell? w _ hw765_0)).trans hw765_0), ((HB.out.cell (World.block_lt_of_cell? w _ hw765_1)).trans hw765_1)⟩ (fun hHeld => ?_)
                clear hK K
                refine norm_ (a' := ?_) ?_ ?_
                rotate_left
                · show Act.put _ (some 25) _ = _
                  simp only [Act.put, List.setIfInBounds_toArray, List.set_cons_zero, List.set_cons_succ, i64_w, i32_w]
                  rfl
                refine pure_ (i := 9) (N := some 26) (v := ?_) (a' := ?_) #[true, true, true, true, true, true, true, true, true, true] rfl rfl (any_of HT_.out (by kernel_rfl)) (fun _ _ _ h => h) (Or.inl ⟨by rfl, ?_⟩) ?_ ?_
                rotate_left
                · intro w'
                  go_simp
                  with_reducible rfl
                rotate_left
                · simp only [Act.put, List.setIfInBounds_toArray, List.set_cons_zero, List.set_cons_succ, i64_w, i32_w]
                  rfl
                refine done_ (done_of HT_.out (by kernel_rfl)) ?_
                try go_wp2
                go_ret
                exact ⟨er_, hb_ HB.out⟩
            · rw [if_neg c6] at H
              exact absurd H (by simp)
          · rw [if_neg c5] at H
            exact absurd H (by simp)
        · rw [if_neg c4] at H
          have c4b0 : decide (x5_1 < (l0.length : Int)) = false := decide_eq_false c4
          clear c4
          obtain rfl := Option.some.inj H
          go_wp2
          go_ret
          exact ⟨er_, hb_ HB.out⟩
  · rw [if_neg c3] at H
    have c3b0 : ((l0.length : Int) == (l1.length : Int)) = false := beq_eq_false_iff_ne.mpr c3
    have c3b1 : ((l0.length : Int) != (l1.length : Int)) = true := bne_iff_ne.mpr c3
    have c3b2 : (l0.length == l1.length) = false := by first | simpa using c3 | (simp at c3 ⊢; omega)
    obtain rfl := Option.some.inj H
    go_enter Try.func80, Try.ntmps80
    go_wp2
    go_ret
    exact ⟨er_, hb_ HB.out⟩
def laws_eqPlan.f (k : Nat) (a0_0 : Int) (a0_1 : Int) (l0_2 : List (S90)) (a1_0 : Int) (a1_1 : Int) (l1_2 : List (S90)) : Option (Bool) := if a0_0 = a1_0 then (if a0_1 = a1_1 then ((laws_eqSlotS.f k l0_2 l1_2).bind fun t769 => (if t769 = true then (some true) else (some false))) else (some false)) else (some false)
set_option maxHeartbeats 8000000 in
set_option maxRecDepth 100000 in
theorem laws_eqPlan.calls (k : Nat) (a0_0 : Int) (a0_1 : Int) (A0_2 : Option Addr) (c0_2 : Nat) (l0_2 : List (S90)) (a1_0 : Int) (a1_1 : Int) (A1_2 : Option Addr) (c1_2 : Nat) (l1_2 : List (S90)) (r : Bool) (w : World) (hr0_2 : Kd.C k90 w A0_2 l0_2.length l0_2) (hc0_2 : l0_2.length ≤ c0_2) (hr1_2 : Kd.C k90 w A1_2 l1_2.length l1_2) (hc1_2 : l1_2.length ≤ c1_2) (h : laws_eqPlan.f k a0_0 a0_1 l0_2 a1_0 a1_1 l1_2 = some r) :
    Calls Try.prog 44 #[.agg #[.int .i64 a0_0, .int .i64 a0_1, .slice A0_2 l0_2.length c0_2], .agg #[.int .i64 a1_0, .int .i64 a1_1, .slice A1_2 l1_2.length c1_2]] w fun e w' => e = .returned (.bool r) ∧ Below w.heap.size w w' := by
  have hu59 := Try.underlying59
  have HR0_2 := Aside0.mk hr0_2
  have HC0_2 := Aside0.mk hc0_2
  clear hr0_2 hc0_2
  have HR1_2 := Aside0.mk hr1_2
  have HC1_2 := Aside0.mk hc1_2
  clear hr1_2 hc1_2
  have HB := Aside0.mk (Below.refl w.heap.size w)
  have H : (if a0_0 = a1_0 then (if a0_1 = a1_1 then ((laws_eqSlotS.f k l0_2 l1_2).bind fun t769 => (if t769 = true then (some true) else (some false))) else (some false)) else (some false)) = some r := h
  clear h
  by_cases c3 : a0_0 = a1_0
  · rw [if_pos c3] at H
    have c3b0 : (a0_0 == a1_0) = true := beq_iff_eq.mpr c3
    have c3b1 : (a0_0 != a1_0) = false := bne_eq_false_iff_eq.mpr c3
    clear c3
    by_cases c4 : a0_1 = a1_1
    · rw [if_pos c4] at H
      have c4b0 : (a0_1 == a1_1) = true := beq_iff_eq.mpr c4
      have c4b1 : (a0_1 != a1_1) = false := bne_eq_false_iff_eq.mpr c4
      clear c4
      replace H := Option.bind_eq_some_iff.mp H
      obtain ⟨t769, A50, H⟩ := H
      replace H : (if t769 = true then (some true) else (some false)) = some r := H
      have A5 := Aside0.mk A50
      clear A50
      by_cases c6 : t769 = true
      · subst c6
        have H1 : (some true) = some r := by rw [if_pos rfl] at H; exact H
        clear H
        have H := H1
        clear H1
        obtain rfl := Option.some.inj H
        go_enter Try.func44, Try.ntmps44
        go_wp2_with (first | ((with_reducible refine gate_dst (N := 2) rfl ?_); refine box_event ?hg (N := 2) ?hd (cs := #[.int .i64 a0_0, .int .i64 a0_1, .slice A0_2 l0_2.length c0_2]) (t := 59) ?hr ?_; (case hd => rfl); (case hg => rfl); (case hr => first | (go_simp; done) | (go_simp; rfl)); intro gb767 hg w7 hbox hb; have n0_ := Aside0.mk (below_step (hb_ HB.out) hb); have n1_ := Aside0.mk (hbox); have n2_ := Aside0.mk ((by rw [hg]; exact (below_size (hb_ HB.out)) : w.heap.size ≤ gb767)); have n3_ := Aside0.mk ((by rw [hg]; exact (below_size (hb_ HB.out)) : w.heap.size ≤ gb767)); clear HB; have HB := n0_; have BK767 := n1_; have GW767 := n2_; have GE767 := n3_; clear n0_ n1_ n2_ n3_; clear hb hbox hg) | ((with_reducible refine gate_dst (N := 3) rfl ?_); refine box_event ?hg (N := 3) ?hd (cs := #[.int .i64 a1_0, .int .i64 a1_1, .slice A1_2 l1_2.length c1_2]) (t := 59) ?hr ?_; (case hd => rfl); (case hg => rfl); (case hr => first | (go_simp; done) | (go_simp; rfl)); intro gb768 hg w8 hbox hb; have n0_ := Aside0.mk (bb_ BK767.out hb); have n1_ := Aside0.mk (below_step (hb1_ HB.out GE767.out) hb); have n2_ := Aside0.mk (hbox); have n3_ := Aside0.mk ((by rw [hg]; exact (below_size (hb1_ HB.out GE767.out)) : w.heap.size ≤ gb768)); have n4_ := Aside0.mk ((by rw [hg]; exact (below_size (hb1_ HB.out GE767.out)) : w.heap.size ≤ gb768)); have n5_ := Aside0.mk ((bl_ hg BK767.out : gb767 ≠ gb768)); have n6_ := Aside0.mk ((bg_ hg BK767.out : gb768 ≠ gb767)); clear BK767; clear HB; have BK767 := n0_; have HB := n1_; have BK768 := n2_; have GW768 := n3_; have GE768 := n4_; have NB767_768 := n5_; have NB768_767 := n6_; clear n0_ n1_ n2_ n3_ n4_ n5_ n6_; clear hb hbox hg; have hnb9 := NB767_768.out; have hnc9 := NB768_767.out; have hcz10_0 := bc_ BK767.out 0 (.int .i64 a0_0) rfl; have hcz10_1 := bc_ BK767.out 1 (.int .i64 a0_1) rfl; have hcz10_2 := bc_ BK767.out 2 (.slice A0_2 l0_2.length c0_2) rfl; have hfz10_0 := blk_frozen BK767.out 0; have hfz10_1 := blk_frozen BK767.out 1; have hfz10_2 := blk_frozen BK767.out 2; have hcz11_0 := bc_ BK768.out 0 (.int .i64 a1_0) rfl; have hcz11_1 := bc_ BK768.out 1 (.int .i64 a1_1) rfl; have hcz11_2 := bc_ BK768.out 2 (.slice A1_2 l1_2.length c1_2) rfl; have hfz11_0 := blk_frozen BK768.out 0; have hfz11_1 := blk_frozen BK768.out 1; have hfz11_2 := blk_frozen BK768.out 2) | ((with_reducible refine gate_callee (f := 80) rfl ?_); refine goesL_ (some 19) rfl rfl Try.func80 (by kernel_rfl) rfl #[.slice A0_2 l0_2.length c0_2, .slice A1_2 l1_2.length c1_2] rfl arr_ ?_; (with_reducible refine (laws_eqSlotS.calls k _ _ l0_2 _ _ l1_2 true _ ?side1 ?side2 ?side3 ?side4 A5.out).mono ?_); (case side1 => exact kc_ (Kd.C_below HR0_2.out HB.out)); (case side2 => exact HC0_2.out); (case side3 => exact kc_ (Kd.C_below HR1_2.out HB.out)); (case side4 => exact HC1_2.out); rintro e w12 ⟨rfl, hb⟩; refine ⟨_, rfl, ?_⟩; have n0_ := Aside0.mk (bb_ BK767.out hb); have n1_ := Aside0.mk (bb_ BK768.out hb); have n2_ := Aside0.mk (below_step (hb2_ HB.out GE767.out GE768.out) hb); clear BK767; clear BK768; clear HB; have BK767 := n0_; have BK768 := n1_; have HB := n2_; clear n0_ n1_ n2_; (try clear hb); (try clear hb2); (try clear hk); (try clear hi)))
        go_ret
        exact ⟨er_, hb2_ HB.out GE767.out GE768.out⟩
      · replace c6 := Bool.eq_false_iff.mpr c6
        subst c6
        have H1 : (some false) = some r := by rw [if_neg (show ¬ (false = true) by decide)] at H; exact H
        clear H
        have H := H1
        clear H1
        obtain rfl := Option.some.inj H
        go_enter Try.func44, Try.ntmps44
        go_wp2_with (first | ((with_reducible refine gate_dst (N := 2) rfl ?_); refine box_event ?hg (N := 2) ?hd (cs := #[.int .i64 a0_0, .int .i64 a0_1, .slice A0_2 l0_2.length c0_2]) (t := 59) ?hr ?_; (case hd => rfl); (case hg => rfl); (case hr => first | (go_simp; done) | (go_simp; rfl)); intro gb767 hg w13 hbox hb; have n0_ := Aside0.mk (below_step (hb_ HB.out) hb); have n1_ := Aside0.mk (hbox); have n2_ := Aside0.mk ((by rw [hg]; exact (below_size (hb_ HB.out)) : w.heap.size ≤ gb767)); have n3_ := Aside0.mk ((by rw [hg]; exact (below_size (hb_ HB.out)) : w.heap.size ≤ gb767)); clear HB; have HB := n0_; have BK767 := n1_; have GW767 := n2_; have GE767 := n3_; clear n0_ n1_ n2_ n3_; clear hb hbox hg) | ((with_reducible refine gate_dst (N := 3) rfl ?_); refine box_event ?hg (N := 3) ?hd (cs := #[.int .i64 a1_0, .int .i64 a1_1, .slice A1_2 l1_2.length c1_2]) (t := 59) ?hr ?_; (case hd => rfl); (case hg => rfl); (case hr => first | (go_simp; done) | (go_simp; rfl)); intro gb768 hg w14 hbox hb; have n0_ := Aside0.mk (bb_ BK767.out hb); have n1_ := Aside0.mk (below_step (hb1_ HB.out GE767.out) hb); have n2_ := Aside0.mk (hbox); have n3_ := Aside0.mk ((by rw [hg]; exact (below_size (hb1_ HB.out GE767.out)) : w.heap.size ≤ gb768)); have n4_ := Aside0.mk ((by rw [hg]; exact (below_size (hb1_ HB.out GE767.out)) : w.heap.size ≤ gb768)); have n5_ := Aside0.mk ((bl_ hg BK767.out : gb767 ≠ gb768)); have n6_ := Aside0.mk ((bg_ hg BK767.out : gb768 ≠ gb767)); clear BK767; clear HB; have BK767 := n0_; have HB := n1_; have BK768 := n2_; have GW768 := n3_; have GE768 := n4_; have NB767_768 := n5_; have NB768_767 := n6_; clear n0_ n1_ n2_ n3_ n4_ n5_ n6_; clear hb hbox hg; have hnb15 := NB767_768.out; have hnc15 := NB768_767.out; have hcz16_0 := bc_ BK767.out 0 (.int .i64 a0_0) rfl; have hcz16_1 := bc_ BK767.out 1 (.int .i64 a0_1) rfl; have hcz16_2 := bc_ BK767.out 2 (.slice A0_2 l0_2.length c0_2) rfl; have hfz16_0 := blk_frozen BK767.out 0; have hfz16_1 := blk_frozen BK767.out 1; have hfz16_2 := blk_frozen BK767.out 2; have hcz17_0 := bc_ BK768.out 0 (.int .i64 a1_0) rfl; have hcz17_1 := bc_ BK768.out 1 (.int .i64 a1_1) rfl; have hcz17_2 := bc_ BK768.out 2 (.slice A1_2 l1_2.length c1_2) rfl; have hfz17_0 := blk_frozen BK768.out 0; have hfz17_1 := blk_frozen BK768.out 1; have hfz17_2 := blk_frozen BK768.out 2) | ((with_reducible refine gate_callee (f := 80) rfl ?_); refine goesL_ (some 19) rfl rfl Try.func80 (by kernel_rfl) rfl #[.slice A0_2 l0_2.length c0_2, .slice A1_2 l1_2.length c1_2] rfl arr_ ?_; (with_reducible refine (laws_eqSlotS.calls k _ _ l0_2 _ _ l1_2 false _ ?side1 ?side2 ?side3 ?side4 A5.out).mono ?_); (case side1 => exact kc_ (Kd.C_below HR0_2.out HB.out)); (case side2 => exact HC0_2.out); (case side3 => exact kc_ (Kd.C_below HR1_2.out HB.out)); (case side4 => exact HC1_2.out); rintro e w18 ⟨rfl, hb⟩; refine ⟨_, rfl, ?_⟩; have n0_ := Aside0.mk (bb_ BK767.out hb); have n1_ := Aside0.mk (bb_ BK768.out hb); have n2_ := Aside0.mk (below_step (hb2_ HB.out GE767.out GE768.out) hb); clear BK767; clear BK768; clear HB; have BK767 := n0_; have BK768 := n1_; have HB := n2_; clear n0_ n1_ n2_; (try clear hb); (try clear hb2); (try clear hk); (try clear hi)))
        go_ret
        exact ⟨er_, hb2_ HB.out GE767.out GE768.out⟩
    · rw [if_neg c4] at H
      have c4b0 : (a0_1 == a1_1) = false := beq_eq_false_iff_ne.mpr c4
      have c4b1 : (a0_1 != a1_1) = true := bne_iff_ne.mpr c4
      obtain rfl := Option.some.inj H
      go_enter Try.func44, Try.ntmps44
      go_wp2_with (first | ((with_reducible refine gate_dst (N := 2) rfl ?_); refine box_event ?hg (N := 2) ?hd (cs := #[.int .i64 a0_0, .int .i64 a0_1, .slice A0_2 l0_2.length c0_2]) (t := 59) ?hr ?_; (case hd => rfl); (case hg => rfl); (case hr => first | (go_simp; done) | (go_simp; rfl)); intro gb767 hg w19 hbox hb; have n0_ := Aside0.mk (below_step (hb_ HB.out) hb); have n1_ := Aside0.mk (hbox); have n2_ := Aside0.mk ((by rw [hg]; exact (below_size (hb_ HB.out)) : w.heap.size ≤ gb767)); have n3_ := Aside0.mk ((by rw [hg]; exact (below_size (hb_ HB.out)) : w.heap.size ≤ gb767)); clear HB; have HB := n0_; have BK767 := n1_; have GW767 := n2_; have GE767 := n3_; clear n0_ n1_ n2_ n3_; clear hb hbox hg) | ((with_reducible refine gate_dst (N := 3) rfl ?_); refine box_event ?hg (N := 3) ?hd (cs := #[.int .i64 a1_0, .int .i64 a1_1, .slice A1_2 l1_2.length c1_2]) (t := 59) ?hr ?_; (case hd => rfl); (case hg => rfl); (case hr => first | (go_simp; done) | (go_simp; rfl)); intro gb768 hg w20 hbox hb; have n0_ := Aside0.mk (bb_ BK767.out hb); have n1_ := Aside0.mk (below_step (hb1_ HB.out GE767.out) hb); have n2_ := Aside0.mk (hbox); have n3_ := Aside0.mk ((by rw [hg]; exact (below_size (hb1_ HB.out GE767.out)) : w.heap.size ≤ gb768)); have n4_ := Aside0.mk ((by rw [hg]; exact (below_size (hb1_ HB.out GE767.out)) : w.heap.size ≤ gb768)); have n5_ := Aside0.mk ((bl_ hg BK767.out : gb767 ≠ gb768)); have n6_ := Aside0.mk ((bg_ hg BK767.out : gb768 ≠ gb767)); clear BK767; clear HB; have BK767 := n0_; have HB := n1_; have BK768 := n2_; have GW768 := n3_; have GE768 := n4_; have NB767_768 := n5_; have NB768_767 := n6_; clear n0_ n1_ n2_ n3_ n4_ n5_ n6_; clear hb hbox hg; have hnb21 := NB767_768.out; have hnc21 := NB768_767.out; have hcz22_0 := bc_ BK767.out 0 (.int .i64 a0_0) rfl; have hcz22_1 := bc_ BK767.out 1 (.int .i64 a0_1) rfl; have hcz22_2 := bc_ BK767.out 2 (.slice A0_2 l0_2.length c0_2) rfl; have hfz22_0 := blk_frozen BK767.out 0; have hfz22_1 := blk_frozen BK767.out 1; have hfz22_2 := blk_frozen BK767.out 2; have hcz23_0 := bc_ BK768.out 0 (.int .i64 a1_0) rfl; have hcz23_1 := bc_ BK768.out 1 (.int .i64 a1_1) rfl; have hcz23_2 := bc_ BK768.out 2 (.slice A1_2 l1_2.length c1_2) rfl; have hfz23_0 := blk_frozen BK768.out 0; have hfz23_1 := blk_frozen BK768.out 1; have hfz23_2 := blk_frozen BK768.out 2))
      go_ret
      exact ⟨er_, hb2_ HB.out GE767.out GE768.out⟩
  · rw [if_neg c3] at H
    have c3b0 : (a0_0 == a1_0) = false := beq_eq_false_iff_ne.mpr c3
    have c3b1 : (a0_0 != a1_0) = true := bne_iff_ne.mpr c3
    obtain rfl := Option.some.inj H
    go_enter Try.func44, Try.ntmps44
    go_wp2_with (first | ((with_reducible refine gate_dst (N := 2) rfl ?_); refine box_event ?hg (N := 2) ?hd (cs := #[.int .i64 a0_0, .int .i64 a0_1, .slice A0_2 l0_2.length c0_2]) (t := 59) ?hr ?_; (case hd => rfl); (case hg => rfl); (case hr => first | (go_simp; done) | (go_simp; rfl)); intro gb767 hg w24 hbox hb; have n0_ := Aside0.mk (below_step (hb_ HB.out) hb); have n1_ := Aside0.mk (hbox); have n2_ := Aside0.mk ((by rw [hg]; exact (below_size (hb_ HB.out)) : w.heap.size ≤ gb767)); have n3_ := Aside0.mk ((by rw [hg]; exact (below_size (hb_ HB.out)) : w.heap.size ≤ gb767)); clear HB; have HB := n0_; have BK767 := n1_; have GW767 := n2_; have GE767 := n3_; clear n0_ n1_ n2_ n3_; clear hb hbox hg) | ((with_reducible refine gate_dst (N := 3) rfl ?_); refine box_event ?hg (N := 3) ?hd (cs := #[.int .i64 a1_0, .int .i64 a1_1, .slice A1_2 l1_2.length c1_2]) (t := 59) ?hr ?_; (case hd => rfl); (case hg => rfl); (case hr => first | (go_simp; done) | (go_simp; rfl)); intro gb768 hg w25 hbox hb; have n0_ := Aside0.mk (bb_ BK767.out hb); have n1_ := Aside0.mk (below_step (hb1_ HB.out GE767.out) hb); have n2_ := Aside0.mk (hbox); have n3_ := Aside0.mk ((by rw [hg]; exact (below_size (hb1_ HB.out GE767.out)) : w.heap.size ≤ gb768)); have n4_ := Aside0.mk ((by rw [hg]; exact (below_size (hb1_ HB.out GE767.out)) : w.heap.size ≤ gb768)); have n5_ := Aside0.mk ((bl_ hg BK767.out : gb767 ≠ gb768)); have n6_ := Aside0.mk ((bg_ hg BK767.out : gb768 ≠ gb767)); clear BK767; clear HB; have BK767 := n0_; have HB := n1_; have BK768 := n2_; have GW768 := n3_; have GE768 := n4_; have NB767_768 := n5_; have NB768_767 := n6_; clear n0_ n1_ n2_ n3_ n4_ n5_ n6_; clear hb hbox hg; have hnb26 := NB767_768.out; have hnc26 := NB768_767.out; have hcz27_0 := bc_ BK767.out 0 (.int .i64 a0_0) rfl; have hcz27_1 := bc_ BK767.out 1 (.int .i64 a0_1) rfl; have hcz27_2 := bc_ BK767.out 2 (.slice A0_2 l0_2.length c0_2) rfl; have hfz27_0 := blk_frozen BK767.out 0; have hfz27_1 := blk_frozen BK767.out 1; have hfz27_2 := blk_frozen BK767.out 2; have hcz28_0 := bc_ BK768.out 0 (.int .i64 a1_0) rfl; have hcz28_1 := bc_ BK768.out 1 (.int .i64 a1_1) rfl; have hcz28_2 := bc_ BK768.out 2 (.slice A1_2 l1_2.length c1_2) rfl; have hfz28_0 := blk_frozen BK768.out 0; have hfz28_1 := blk_frozen BK768.out 1; have hfz28_2 := blk_frozen BK768.out 2))
    go_ret
    exact ⟨er_, hb2_ HB.out GE767.out GE768.out⟩
def laws_markSlotS.l0 : Nat → List (S90) → Int → Int → Option (Int × (List (S90)))
  | 0, _, _, _ => none
  | k + 1, x0, x1, x5 => if x5 < (x0.length : Int) then (if 0 ≤ x5 then ((some (x0.set (x5 : Int).toNat (⟨x1, (rd_T90 x0 x5).f1⟩ : S90) : List (S90))).bind fun y770 => (laws_markSlotS.l0 k (y770.set (x5 : Int).toNat (⟨(rd_T90 y770 x5).f0, wrap64 (x1 + 1)⟩ : S90)) (wrap64 ((wrap64 (x1 + 1)) + 1)) (wrap64 (x5 + 1)))) else (none)) else (some (x1, x0))
def laws_markSlotS.f (k : Nat) (l0 : List (S90)) (a1 : Int) : Option (Int × (List (S90))) := laws_markSlotS.l0 k l0 a1 0
set_option maxHeartbeats 8000000 in
set_option maxRecDepth 100000 in
theorem laws_markSlotS.calls (k : Nat) (P0_ : Nat → Prop) (u9000_ : Value) (l0 : List (S90)) (a1 : Int) (r1 : Int) (r2 : List (S90)) (w0 w : World) (hB : Below w0.heap.size w0 w) (ho0 : Kd.R k90 90 w w0.heap.size P0_ u9000_ l0) (h : laws_markSlotS.f k l0 a1 = some (r1, r2)) :
    Calls Try.prog 81 #[u9000_, .int .i64 a1] w fun e w' => e = .returned (.int .i64 r1) ∧ Kd.R k90 90 w' w0.heap.size (fun k_ => (P0_ k_ ∨ w.heap.size ≤ k_)) u9000_ r2 ∧ Below w0.heap.size w0 w' ∧ Kept w w' (fun k_ => P0_ k_) := by
  have HO0 := Aside0.mk (show Kd.R k90 90 w w0.heap.size (fun k_ => (P0_ k_ ∨ w.heap.size ≤ k_)) u9000_ l0 from Kd.R_mono ho0 (fun k_ hk => (.inl hk)))
  have HK := Aside0.mk (Kept.refl w (fun k_ => P0_ k_))
  have HW0 := Aside0.mk hB.size
  have HB := Aside0.mk hB
  clear hB
  have H : (laws_markSlotS.l0 k l0 a1 0) = some (r1, r2) := h
  clear h
  have H' := Aside0.mk H
  clear H
  go_enter Try.func81, Try.ntmps81
  go_wp2
  go_loopg [1, 5] k (fun kq v1 v5 w' => ∃ (x0_1 : List (S90)) (x1_1 : Int) (x5_1 : Int), v1 = .int .i64 x1_1 ∧ v5 = .int .i64 x5_1 ∧ Aside0 (laws_markSlotS.l0 kq x0_1 x1_1 x5_1 = some (r1, r2)) ∧ Aside0 (kq ≤ k) ∧ Aside0 (Kd.R k90 90 w' w0.heap.size (fun k_ => (P0_ k_ ∨ w.heap.size ≤ k_)) u9000_ x0_1) ∧ Aside0 (Kept w w' (fun k_ => P0_ k_)) ∧ Aside0 (Below w0.heap.size w0 w'))
  case atStart => exact ⟨(l0), (a1), (0), (by first | rfl | (simp; done) | (simp [*]; done)), (by first | rfl | (simp; done) | (simp [*]; done)), H', ⟨Nat.le_refl _⟩, ⟨by (with_reducible repeat (first | apply Kd.R_alloc | apply Kd.R_drewN | apply Kd.R_drew)); exact HO0.out⟩, ⟨by repeat (first | (with_reducible first | exact HK.out | apply Kept.alloc | apply Kept.drewN | apply Kept.drew) | exact HK.out)⟩, ⟨hb_ HB.out⟩⟩
  case round =>
    clear H'
    try clear p2
    obtain ⟨x0_1, x1_1, x5_1, rfl, rfl, HA, HK1, HO_0, HK, HB⟩ := hrel
    cases gk with
    | zero => exact absurd HA.out (by simp [laws_markSlotS.l0])
    | succ k1 =>
      have H := HA.out
      clear HA
      simp only [laws_markSlotS.l0] at H
      by_cases c3 : x5_1 < (x0_1.length : Int)
      · rw [if_pos c3] at H
        have c3b0 : decide (x5_1 < (x0_1.length : Int)) = true := decide_eq_true c3
        clear c3
        by_cases c4 : 0 ≤ x5_1
        · rw [if_pos c4] at H
          have c4b0 : decide (0 ≤ x5_1) = true := decide_eq_true c4
          clear c4
          obtain ⟨y770, hy770⟩ : ∃ y_ : List (S90), y_ = (x0_1.set (x5_1 : Int).toNat (⟨x1_1, (rd_T90 x0_1 x5_1).f1⟩ : S90)) := ⟨_, rfl⟩
          replace H : (laws_markSlotS.l0 k1 (y770.set (x5_1 : Int).toNat (⟨(rd_T90 y770 x5_1).f0, wrap64 (x1_1 + 1)⟩ : S90)) (wrap64 ((wrap64 (x1_1 + 1)) + 1)) (wrap64 (x5_1 + 1))) = some (r1, r2) := by first | (rw [hy770]; with_reducible exact H) | (have H2_ := (Option.bind_some _ _).symm.trans H; rw [hy770]; with_reducible exact H2_) | (have H2_ := (Option.bind_some _ _).symm.trans H; with_reducible exact H2_) | with_reducible exact H | (rw [hy770]; exact H) | exact H
          have Ny770 := Aside0.mk hy770
          clear hy770
          obtain ⟨y771, hy771⟩ : ∃ y_ : List (S90), y_ = (y770.set (x5_1 : Int).toNat (⟨(rd_T90 y770 x5_1).f0, wrap64 (x1_1 + 1)⟩ : S90)) := ⟨_, rfl⟩
          replace H : (laws_markSlotS.l0 k1 y771 (wrap64 ((wrap64 (x1_1 + 1)) + 1)) (wrap64 (x5_1 + 1))) = some (r1, r2) := by first | (rw [hy771]; with_reducible exact H) | (have H2_ := (Option.bind_some _ _).symm.trans H; rw [hy771]; with_reducible exact H2_) | (have H2_ := (Option.bind_some _ _).symm.trans H; with_reducible exact H2_) | with_reducible exact H | (rw [hy771]; exact H) | exact H
          have Ny771 := Aside0.mk hy771
          clear hy771
          have H' := Aside0.mk H
          clear H
          obtain ⟨Ao7, co7, eo7⟩ := Kd.R_slice HO_0.out
          subst eo7
          have p5 : 0 ≤ (x5_1 : Int) := of_decide_eq_true (by first | (with_reducible assumption) | assumption)
          have q5 : (x5_1 : Int) < ((x0_1.length : Int) : Int) := of_decide_eq_true (by first | (with_reducible assumption) | assumption)
          obtain ⟨go5, co5, eo5, gb5, gl5, cl5, HG5⟩ := Kd.R_form HO_0.out (by omega)
          (first | cases eo5 | (injection eo5 with ea_ en_ ec_; (first | subst ea_ | (injection ea_ with ea_; subst ea_)); subst ec_; clear en_))
          have GB5 := Aside0.mk gb5
          have GG5 := Aside0.mk HG5
          clear gb5 gl5 HG5
          have HMgo5 := Aside0.mk (show (P0_ go5 ∨ w.heap.size ≤ go5) from (HO_0.out.1 _ rfl))
          obtain ⟨ce5, hcl5, hM5, hcc5, hfr5⟩ := Kd.R_elem HO_0.out z90 (x5_1 : Int) p5 q5
          obtain rfl := k90_openM hM5
          have hx5_0 : wr.cell? ⟨go5, (x5_1 : Int).toNat * 2, none⟩ = some (.int .i64 ((rd_T90 x0_1 x5_1).f0)) := hcc5 0 _ rfl
          have hx5_1 : wr.cell? ⟨go5, (x5_1 : Int).toNat * 2 + 1, none⟩ = some (.int .i64 ((rd_T90 x0_1 x5_1).f1)) := hcc5 1 _ rfl
          have hf5_0 : wr.frozen? ⟨go5, (x5_1 : Int).toNat * 2, none⟩ = false := hfr5 0
          have hf5_1 : wr.frozen? ⟨go5, (x5_1 : Int).toNat * 2 + 1, none⟩ = false := hfr5 1
          clear hcl5 hcc5 hfr5 hM5
          replace p5 := eq_true p5
          replace q5 := eq_true q5
          have HX8 := Aside0.mk (show Kd.R k90 90 wr w0.heap.size (fun k_ => (P0_ k_ ∨ w.heap.size ≤ k_)) (.slice (some ⟨go5, 0, none⟩) x0_1.length co7) x0_1 from (by (with_reducible repeat (first | apply Kd.R_alloc | apply Kd.R_drewN | apply Kd.R_drew)); exact HO_0.out))
          obtain ⟨ce8, hcl8, hM8, hcc8, hfr8⟩ := Kd.R_elem HX8.out z90 (x5_1 : Int) (of_decide_eq_true (by first | (with_reducible assumption) | assumption)) (by have h_ : (x5_1 : Int) < ((x0_1.length : Int) : Int) := of_decide_eq_true (by first | (with_reducible assumption) | assumption); first | exact h_ | (have e_ := (Kd.R_reads' HO_0.out).1; omega) | simpa using h_)
          obtain rfl := k90_openM hM8
          have HP8 := Kd.R_seg HX8.out (x5_1 : Int) (of_decide_eq_true (by first | (with_reducible assumption) | assumption)) (by have h_ : (x5_1 : Int) < ((x0_1.length : Int) : Int) := of_decide_eq_true (by first | (with_reducible assumption) | assumption); first | exact h_ | (have e_ := (Kd.R_reads' HO_0.out).1; omega) | simpa using h_) (seg := [.int .i64 x1_1]) (j := 0) hcl8 hcc8 (show 1 ≤ 2 from by decide) (x' := (⟨x1_1, (rd_T90 x0_1 x5_1).f1⟩ : S90)) (k90_mkM _ _ _ (⟨x1_1, (rd_T90 x0_1 x5_1).f1⟩ : S90) ) (fun _ hk => hk)
          have hx8_0 := hcc8 0 _ rfl
          (try simp only [show (k90).sz = 2 from rfl, Nat.mul_one, Nat.add_zero] at hx8_0)
          have hf8_0 := hfr8 0
          (try simp only [show (k90).sz = 2 from rfl, Nat.mul_one, Nat.add_zero] at hf8_0)
          clear hcl8 hcc8 hfr8 hM8
          go_wp2_with (first | ((with_reducible refine gate_store (t := 3) (p := 16) rfl ?_); refine store_event (t := 3) (p := 16) (v := ?vo_w9) (w1 := (wr.setCell ⟨go5, (x5_1 : Int).toNat * 2, none⟩ (.int .i64 x1_1))) ?hg ?ho ?hn ?hr ?_; (case ho => rfl); (case hg => rfl); (case hn => rfl); (case hr => first | (go_simp; done) | (go_simp; rfl)); intro w9 hw; have hg : wr.grownBy w9 (some go5) := (by rw [hw]; exact HP8.2); have hp_ : Kd.R k90 90 w9 w0.heap.size (fun k_ => (P0_ k_ ∨ w.heap.size ≤ k_)) (.slice (some ⟨go5, 0, none⟩) x0_1.length co7) y770 := (by rw [hw, Ny770.out]; exact HP8.1); clear HP8; have n0_ := Aside0.mk (hp_); have n1_ := Aside0.mk ((by rw [hw]; exact below_set (HB.out) GB5.out : Below w0.heap.size w0 w9)); have n2_ := Aside0.mk (Kept.of_grown (S := (fun k_ => P0_ k_)) hg (by repeat (first | (with_reducible first | exact HK.out | apply Kept.alloc | apply Kept.drewN | apply Kept.drew) | exact HK.out)) (fun k_ e_ => (HO_0.out.1 k_ e_))); clear HO_0; clear HB; clear HK; have HO_0 := n0_; have HB := n1_; have HK := n2_; clear n0_ n1_ n2_; clear hg hw hp_; have p6 : 0 ≤ (x5_1 : Int) := of_decide_eq_true (by first | (with_reducible assumption) | assumption); have q6 : (x5_1 : Int) < ((x0_1.length : Int) : Int) := of_decide_eq_true (by first | (with_reducible assumption) | assumption); obtain ⟨ce6, hcl6, hM6, hcc6, hfr6⟩ := Kd.R_elem HO_0.out z90 (x5_1 : Int) p6 q6; obtain rfl := k90_openM hM6; have hx6_0 : w9.cell? ⟨go5, (x5_1 : Int).toNat * 2, none⟩ = some (.int .i64 ((rd_T90 y770 x5_1).f0)) := hcc6 0 _ rfl; have hx6_1 : w9.cell? ⟨go5, (x5_1 : Int).toNat * 2 + 1, none⟩ = some (.int .i64 ((rd_T90 y770 x5_1).f1)) := hcc6 1 _ rfl; have hf6_0 : w9.frozen? ⟨go5, (x5_1 : Int).toNat * 2, none⟩ = false := hfr6 0; have hf6_1 : w9.frozen? ⟨go5, (x5_1 : Int).toNat * 2 + 1, none⟩ = false := hfr6 1; clear hcl6 hcc6 hfr6 hM6; replace p6 := eq_true p6; replace q6 := eq_true q6; have HX10 := Aside0.mk (show Kd.R k90 90 w9 w0.heap.size (fun k_ => (P0_ k_ ∨ w.heap.size ≤ k_)) (.slice (some ⟨go5, 0, none⟩) x0_1.length co7) y770 from (by (with_reducible repeat (first | apply Kd.R_alloc | apply Kd.R_drewN | apply Kd.R_drew)); exact HO_0.out)); obtain ⟨ce10, hcl10, hM10, hcc10, hfr10⟩ := Kd.R_elem HX10.out z90 (x5_1 : Int) (of_decide_eq_true (by first | (with_reducible assumption) | assumption)) (by have h_ : (x5_1 : Int) < ((x0_1.length : Int) : Int) := of_decide_eq_true (by first | (with_reducible assumption) | assumption); first | exact h_ | (have e_ := (Kd.R_reads' HO_0.out).1; omega) | simpa using h_); obtain rfl := k90_openM hM10; have HP10 := Kd.R_seg HX10.out (x5_1 : Int) (of_decide_eq_true (by first | (with_reducible assumption) | assumption)) (by have h_ : (x5_1 : Int) < ((x0_1.length : Int) : Int) := of_decide_eq_true (by first | (with_reducible assumption) | assumption); first | exact h_ | (have e_ := (Kd.R_reads' HO_0.out).1; omega) | simpa using h_) (seg := [.int .i64 (wrap64 (x1_1 + 1))]) (j := 1) hcl10 hcc10 (show 2 ≤ 2 from by decide) (x' := (⟨(rd_T90 y770 x5_1).f0, wrap64 (x1_1 + 1)⟩ : S90)) (k90_mkM _ _ _ (⟨(rd_T90 y770 x5_1).f0, wrap64 (x1_1 + 1)⟩ : S90) ) (fun _ hk => hk); have hx10_1 := hcc10 1 _ rfl; (try simp only [show (k90).sz = 2 from rfl, Nat.mul_one, Nat.add_zero] at hx10_1); have hf10_1 := hfr10 1; (try simp only [show (k90).sz = 2 from rfl, Nat.mul_one, Nat.add_zero] at hf10_1); clear hcl10 hcc10 hfr10 hM10) | ((with_reducible refine gate_store (t := 3) (p := 23) rfl ?_); refine store_event (t := 3) (p := 23) (v := ?vo_w11) (w1 := (w9.setCell ⟨go5, (x5_1 : Int).toNat * 2 + 1, none⟩ (.int .i64 (wrap64 (x1_1 + 1))))) ?hg ?ho ?hn ?hr ?_; (case ho => rfl); (case hg => rfl); (case hn => rfl); (case hr => first | (go_simp; done) | (go_simp; rfl)); intro w11 hw; have hg : w9.grownBy w11 (some go5) := (by rw [hw]; exact HP10.2); have hp_ : Kd.R k90 90 w11 w0.heap.size (fun k_ => (P0_ k_ ∨ w.heap.size ≤ k_)) (.slice (some ⟨go5, 0, none⟩) x0_1.length co7) y771 := (by rw [hw, Ny771.out]; exact HP10.1); clear HP10; have n0_ := Aside0.mk (hp_); have n1_ := Aside0.mk ((by rw [hw]; exact below_set (HB.out) GB5.out : Below w0.heap.size w0 w11)); have n2_ := Aside0.mk (Kept.of_grown (S := (fun k_ => P0_ k_)) hg (by repeat (first | (with_reducible first | exact HK.out | apply Kept.alloc | apply Kept.drewN | apply Kept.drew) | exact HK.out)) (fun k_ e_ => (HO_0.out.1 k_ e_))); clear HO_0; clear HB; clear HK; have HO_0 := n0_; have HB := n1_; have HK := n2_; clear n0_ n1_ n2_; clear hg hw hp_))
          go_roundg k1
          case measure => have := HK1.out; omega
          case rel => exact ⟨(y771), (wrap64 ((wrap64 (x1_1 + 1)) + 1)), (wrap64 (x5_1 + 1)), (by first | rfl | (simp; done) | (simp [*]; done)), (by first | rfl | (simp; done) | (simp [*]; done)), H', ⟨by have := HK1.out; omega⟩, ⟨by (with_reducible repeat (first | apply Kd.R_alloc | apply Kd.R_drewN | apply Kd.R_drew)); exact HO_0.out⟩, ⟨by repeat (first | (with_reducible first | exact HK.out | apply Kept.alloc | apply Kept.drewN | apply Kept.drew) | exact HK.out)⟩, ⟨hb_ HB.out⟩⟩
        · rw [if_neg c4] at H
          exact absurd H (by simp)
      · rw [if_neg c3] at H
        have c3b0 : decide (x5_1 < (x0_1.length : Int)) = false := decide_eq_false c3
        clear c3
        simp only [Option.some.injEq, Prod.mk.injEq] at H
        obtain ⟨rfl, rfl⟩ := H
        obtain ⟨Ao12, co12, eo12⟩ := Kd.R_slice HO_0.out
        subst eo12
        go_wp2
        go_ret
        exact ⟨er_, by (with_reducible repeat (first | apply Kd.R_alloc | apply Kd.R_drewN | apply Kd.R_drew)); exact HO_0.out, by repeat (first | (with_reducible first | exact HB.out | apply below_alloc | apply pw_below_drewN | apply below_drew1) | exact HB.out), by repeat (first | (with_reducible first | exact HK.out | apply Kept.alloc | apply Kept.drewN | apply Kept.drew) | exact HK.out)⟩
def laws_markPlan.f (k : Nat) (a0_0 : Int) (a0_1 : Int) (l0_2 : List (S90)) (a1 : Int) : Option (Int × (List (S90))) := (laws_markSlotS.f k l0_2 a1).bind fun bt773 => (some (bt773.1, bt773.2))
set_option maxHeartbeats 8000000 in
set_option maxRecDepth 100000 in
theorem laws_markPlan.calls (k : Nat) (a0_0 : Int) (a0_1 : Int) (P0_2_ : Nat → Prop) (u9000_ : Value) (l0_2 : List (S90)) (a1 : Int) (r1 : Int) (r2 : List (S90)) (w0 w : World) (hB : Below w0.heap.size w0 w) (ho0_2 : Kd.R k90 90 w w0.heap.size P0_2_ u9000_ l0_2) (h : laws_markPlan.f k a0_0 a0_1 l0_2 a1 = some (r1, r2)) :
    Calls Try.prog 45 #[.agg #[.int .i64 a0_0, .int .i64 a0_1, u9000_], .int .i64 a1] w fun e w' => e = .returned (.int .i64 r1) ∧ Kd.R k90 90 w' w0.heap.size (fun k_ => (P0_2_ k_ ∨ w.heap.size ≤ k_)) u9000_ r2 ∧ Below w0.heap.size w0 w' ∧ Kept w w' (fun k_ => P0_2_ k_) := by
  have hu59 := Try.underlying59
  have HO0_2 := Aside0.mk (show Kd.R k90 90 w w0.heap.size (fun k_ => (P0_2_ k_ ∨ w.heap.size ≤ k_)) u9000_ l0_2 from Kd.R_mono ho0_2 (fun k_ hk => (.inl hk)))
  have HK := Aside0.mk (Kept.refl w (fun k_ => P0_2_ k_))
  have HW0 := Aside0.mk hB.size
  have HB := Aside0.mk hB
  clear hB
  have H : ((laws_markSlotS.f k l0_2 a1).bind fun bt773 => (some (bt773.1, bt773.2))) = some (r1, r2) := h
  clear h
  replace H := Option.bind_eq_some_iff.mp H
  obtain ⟨⟨t773, t774⟩, A30, H⟩ := H
  replace H : (some (t773, t774)) = some (r1, r2) := H
  have A3 := Aside0.mk A30
  clear A30
  simp only [Option.some.injEq, Prod.mk.injEq] at H
  obtain ⟨rfl, rfl⟩ := H
  obtain ⟨Ao4, co4, eo4⟩ := Kd.R_slice HO0_2.out
  subst eo4
  go_enter Try.func45, Try.ntmps45
  go_wp2_with (first | ((with_reducible refine gate_dst (N := 2) rfl ?_); refine box_event ?hg (N := 2) ?hd (cs := #[.int .i64 a0_0, .int .i64 a0_1, .slice Ao4 l0_2.length co4]) (t := 59) ?hr ?_; (case hd => rfl); (case hg => rfl); (case hr => first | (go_simp; done) | (go_simp; rfl)); intro gb772 hg w5 hbox hb; have n0_ := Aside0.mk (Kd.R_below (by (with_reducible repeat (first | apply Kd.R_alloc | apply Kd.R_drewN | apply Kd.R_drew)); exact HO0_2.out) hb); have n1_ := Aside0.mk (Kept.below (S := (fun k_ => P0_2_ k_)) (by repeat (first | (with_reducible first | exact HK.out | apply Kept.alloc | apply Kept.drewN | apply Kept.drew) | exact HK.out)) hb); have n2_ := Aside0.mk (below_step (hb_ HB.out) hb); have n3_ := Aside0.mk (hbox); have n4_ := Aside0.mk ((by rw [hg]; exact (by first | exact HK.out.1 | exact (show Kept w _ (fun k_ => P0_2_ k_) from by repeat (first | (with_reducible first | exact HK.out | apply Kept.alloc | apply Kept.drewN | apply Kept.drew) | exact HK.out)).1) : w.heap.size ≤ gb772)); have n5_ := Aside0.mk ((by rw [hg]; exact (below_size (hb_ HB.out)) : w0.heap.size ≤ gb772)); clear HO0_2; clear HK; clear HB; have HO0_2 := n0_; have HK := n1_; have HB := n2_; have BK772 := n3_; have GW772 := n4_; have GE772 := n5_; clear n0_ n1_ n2_ n3_ n4_ n5_; clear hb hbox hg; have hcz6_0 := bc_ BK772.out 0 (.int .i64 a0_0) rfl; have hcz6_1 := bc_ BK772.out 1 (.int .i64 a0_1) rfl; have hcz6_2 := bc_ BK772.out 2 (.slice Ao4 l0_2.length co4) rfl; have hfz6_0 := blk_frozen BK772.out 0; have hfz6_1 := blk_frozen BK772.out 1; have hfz6_2 := blk_frozen BK772.out 2) | ((with_reducible refine gate_callee (f := 81) rfl ?_); refine goesL_ (some 8) rfl rfl Try.func81 (by kernel_rfl) rfl #[.slice Ao4 l0_2.length co4, .int .i64 a1] rfl arr_ ?_; (with_reducible refine (laws_markSlotS.calls k (fun k_ => some k_ = (.slice Ao4 l0_2.length co4 : Value).ownBlock) (.slice Ao4 l0_2.length co4) l0_2 a1 t773 t774 w0 _ ?side1 ?side2 A3.out).mono ?_); (case side1 => repeat (first | (with_reducible first | exact HB.out | apply below_alloc | apply pw_below_drewN | apply below_drew1 | refine below_set ?_ GE772.out) | exact HB.out)); (case side2 => exact Kd.R_tight rfl HO0_2.out); rintro e w7 ⟨rfl, hy0, hb, hkp⟩; refine ⟨_, rfl, ?_⟩; have n0_ := Aside0.mk (Kd.R_reok rfl hy0 (fun k_ e_ => HO0_2.out.1 k_ e_)); have n1_ := Aside0.mk (blk_kept (bk_ BK772.out) hkp (fun hs_ => (fun e_ => (Kd.R_ne HO0_2.out BK772.out (by decide)) e_) hs_)); have n2_ := Aside0.mk (Kept.then_ (S := (fun k_ => P0_2_ k_)) (by repeat (first | (with_reducible first | exact HK.out | apply Kept.alloc | apply Kept.drewN | apply Kept.drew | refine Kept.setCell ?_ (.inr GW772.out) _) | exact HK.out)) hkp (fun k_ hs_ => (fun e_ => (HO0_2.out.1 k_ e_.symm)) hs_)); have n3_ := Aside0.mk (hb); clear HO0_2; clear BK772; clear HK; clear HB; have HO0_2 := n0_; have BK772 := n1_; have HK := n2_; have HB := n3_; clear n0_ n1_ n2_ n3_; (try clear hb); (try clear hkp); (try clear hy0)))
  go_ret
  exact ⟨er_, by (with_reducible repeat (first | apply Kd.R_alloc | apply Kd.R_drewN | apply Kd.R_drew)); exact HO0_2.out, by repeat (first | (with_reducible first | exact HB.out | apply below_alloc | apply pw_below_drewN | apply below_drew1 | refine below_set ?_ GE772.out) | exact HB.out), by repeat (first | (with_reducible first | exact HK.out | apply Kept.alloc | apply Kept.drewN | apply Kept.drew | refine Kept.setCell ?_ (.inr GW772.out) _) | exact HK.out)⟩
def laws_FnExactBusStray.j0 : Nat → List (S52) → List Int → List Int → Bool → Int → Int → List (S110) → Option (Bool)
  | 0, _, _, _, _, _, _, _ => none
  | k + 1, x1, x6, x9, x63, x912000, x912001, x912002 => if x63 = true then (some false) else ((laws_markIntS.f k x9 1).bind fun bt953 => ((laws_heldIntS.f k bt953.2 1).bind fun t955 => (if t955 < 0 then (some false) else (if t955 = bt953.1 then ((laws_toPlan.f k x912000 x912001 x912002).bind fun bt956 => ((laws_toFrameS.f k x1).bind fun t961 => ((impl_BusStray.f k bt956.1 bt956.2.1 bt956.2.2 t961).bind fun t964 => ((laws_eqIntS.f k t964 x6).bind fun t967 => (if t967 = true then ((laws_heldIntS.f k bt953.2 1).bind fun t968 => (if t968 < 0 then (some false) else (if t968 = bt953.1 then (some true) else (some false)))) else (some false)))))) else (some false)))))
def laws_FnExactBusStray.f (k : Nat) (a0_0 : Int) (a0_1 : Int) (l0_2 : List (S110)) (l1 : List (S52)) : Option (Bool) := (laws_szPlan.f a0_0 a0_1 l0_2 1048576).bind fun t912 => (if t912 < 0 then (some true) else ((laws_szFrameS.f k l1 t912).bind fun t913 => (if t913 < 0 then (some true) else ((laws_toPlan.f k a0_0 a0_1 l0_2).bind fun bt914 => ((laws_toFrameS.f k l1).bind fun t919 => ((spec_BusStray.f k bt914.1 bt914.2.1 bt914.2.2 t919).bind fun t922 => ((laws_toPlan.f k a0_0 a0_1 l0_2).bind fun bt925 => ((laws_toFrameS.f k l1).bind fun t931 => ((impl_BusStray.f k bt925.1 bt925.2.1 bt925.2.2 t931).bind fun t934 => ((laws_eqIntS.f k t934 t922).bind fun t937 => (if t937 = true then ((laws_toPlan.f k a0_0 a0_1 l0_2).bind fun bt938 => ((laws_eqPlan.f k bt925.1 bt925.2.1 bt925.2.2 bt938.1 bt938.2.1 bt938.2.2).bind fun t943 => (if t943 = true then ((laws_toFrameS.f k l1).bind fun t944 => ((laws_eqFrameS.f k t931 t944).bind fun t947 => (if t947 = true then ((laws_markPlan.f k bt925.1 bt925.2.1 bt925.2.2 1).bind fun bt948 => ((laws_markFrameS.f k t931 bt948.1).bind fun bt950 => (if bt950.1 < 0 then (laws_FnExactBusStray.j0 k l1 t922 t934 true a0_0 a0_1 l0_2) else ((laws_eqIntS.f k t934 t922).bind fun t952 => (laws_FnExactBusStray.j0 k l1 t922 t934 (!t952) a0_0 a0_1 l0_2))))) else (some false)))) else (some false)))) else (some false))))))))))))
set_option maxHeartbeats 8000000 in
set_option maxRecDepth 100000 in
theorem laws_FnExactBusStray.calls (k : Nat) (a0_0 : Int) (a0_1 : Int) (A0_2 : Option Addr) (c0_2 : Nat) (l0_2 : List (S110)) (A1 : Option Addr) (c1 : Nat) (l1 : List (S52)) (r : Bool) (w : World) (hr0_2 : Kd.C k110 w A0_2 l0_2.length l0_2) (hc0_2 : l0_2.length ≤ c0_2) (hr1 : Kd.C k52 w A1 l1.length l1) (hc1 : l1.length ≤ c1) (hr_ : r = true) (h : laws_FnExactBusStray.f k a0_0 a0_1 l0_2 l1 = some r) :
    Calls Try.prog 9 #[.agg #[.int .i64 a0_0, .int .i64 a0_1, .slice A0_2 l0_2.length c0_2], .slice A1 l1.length c1] w fun e w' => e = .returned (.bool r) ∧ Below w.heap.size w w' := by
  have hu66 := Try.underlying66
  have hu59 := Try.underlying59
  have HR0_2 := Aside0.mk hr0_2
  have HC0_2 := Aside0.mk hc0_2
  clear hr0_2 hc0_2
  have HR1 := Aside0.mk hr1
  have HC1 := Aside0.mk hc1
  clear hr1 hc1
  have HB := Aside0.mk (Below.refl w.heap.size w)
  have H : ((laws_szPlan.f a0_0 a0_1 l0_2 1048576).bind fun t912 => (if t912 < 0 then (some true) else ((laws_szFrameS.f k l1 t912).bind fun t913 => (if t913 < 0 then (some true) else ((laws_toPlan.f k a0_0 a0_1 l0_2).bind fun bt914 => ((laws_toFrameS.f k l1).bind fun t919 => ((spec_BusStray.f k bt914.1 bt914.2.1 bt914.2.2 t919).bind fun t922 => ((laws_toPlan.f k a0_0 a0_1 l0_2).bind fun bt925 => ((laws_toFrameS.f k l1).bind fun t931 => ((impl_BusStray.f k bt925.1 bt925.2.1 bt925.2.2 t931).bind fun t934 => ((laws_eqIntS.f k t934 t922).bind fun t937 => (if t937 = true then ((laws_toPlan.f k a0_0 a0_1 l0_2).bind fun bt938 => ((laws_eqPlan.f k bt925.1 bt925.2.1 bt925.2.2 bt938.1 bt938.2.1 bt938.2.2).bind fun t943 => (if t943 = true then ((laws_toFrameS.f k l1).bind fun t944 => ((laws_eqFrameS.f k t931 t944).bind fun t947 => (if t947 = true then ((laws_markPlan.f k bt925.1 bt925.2.1 bt925.2.2 1).bind fun bt948 => ((laws_markFrameS.f k t931 bt948.1).bind fun bt950 => (if bt950.1 < 0 then (laws_FnExactBusStray.j0 k l1 t922 t934 true a0_0 a0_1 l0_2) else ((laws_eqIntS.f k t934 t922).bind fun t952 => (laws_FnExactBusStray.j0 k l1 t922 t934 (!t952) a0_0 a0_1 l0_2))))) else (some false)))) else (some false)))) else (some false))))))))))))) = some r := h
  clear h
  replace H := Option.bind_eq_some_iff.mp H
  obtain ⟨t912, A30, H⟩ := H
  replace H : (if t912 < 0 then (some true) else ((laws_szFrameS.f k l1 t912).bind fun t913 => (if t913 < 0 then (some true) else ((laws_toPlan.f k a0_0 a0_1 l0_2).bind fun bt914 => ((laws_toFrameS.f k l1).bind fun t919 => ((spec_BusStray.f k bt914.1 bt914.2.1 bt914.2.2 t919).bind fun t922 => ((laws_toPlan.f k a0_0 a0_1 l0_2).bind fun bt925 => ((laws_toFrameS.f k l1).bind fun t931 => ((impl_BusStray.f k bt925.1 bt925.2.1 bt925.2.2 t931).bind fun t934 => ((laws_eqIntS.f k t934 t922).bind fun t937 => (if t937 = true then ((laws_toPlan.f k a0_0 a0_1 l0_2).bind fun bt938 => ((laws_eqPlan.f k bt925.1 bt925.2.1 bt925.2.2 bt938.1 bt938.2.1 bt938.2.2).bind fun t943 => (if t943 = true then ((laws_toFrameS.f k l1).bind fun t944 => ((laws_eqFrameS.f k t931 t944).bind fun t947 => (if t947 = true then ((laws_markPlan.f k bt925.1 bt925.2.1 bt925.2.2 1).bind fun bt948 => ((laws_markFrameS.f k t931 bt948.1).bind fun bt950 => (if bt950.1 < 0 then (laws_FnExactBusStray.j0 k l1 t922 t934 true a0_0 a0_1 l0_2) else ((laws_eqIntS.f k t934 t922).bind fun t952 => (laws_FnExactBusStray.j0 k l1 t922 t934 (!t952) a0_0 a0_1 l0_2))))) else (some false)))) else (some false)))) else (some false)))))))))))) = some r := H
  have A3 := Aside0.mk A30
  clear A30
  by_cases c4 : t912 < 0
  · rw [if_pos c4] at H
    have c4b0 : decide (t912 < 0) = true := decide_eq_true c4
    clear c4
    obtain rfl := Option.some.inj H
    go_enter Try.func9, Try.ntmps9
    go_wp2_with (first | ((with_reducible refine gate_dst (N := 2) rfl ?_); refine box_event ?hg (N := 2) ?hd (cs := #[.int .i64 a0_0, .int .i64 a0_1, .slice A0_2 l0_2.length c0_2]) (t := 66) ?hr ?_; (case hd => rfl); (case hg => rfl); (case hr => first | (go_simp; done) | (go_simp; rfl)); intro gb911 hg w5 hbox hb; have n0_ := Aside0.mk (below_step (hb_ HB.out) hb); have n1_ := Aside0.mk (hbox); have n2_ := Aside0.mk ((by rw [hg]; exact (below_size (hb_ HB.out)) : w.heap.size ≤ gb911)); have n3_ := Aside0.mk ((by rw [hg]; exact (below_size (hb_ HB.out)) : w.heap.size ≤ gb911)); clear HB; have HB := n0_; have BK911 := n1_; have GW911 := n2_; have GE911 := n3_; clear n0_ n1_ n2_ n3_; clear hb hbox hg; have hcz6_0 := bc_ BK911.out 0 (.int .i64 a0_0) rfl; have hcz6_1 := bc_ BK911.out 1 (.int .i64 a0_1) rfl; have hcz6_2 := bc_ BK911.out 2 (.slice A0_2 l0_2.length c0_2) rfl; have hfz6_0 := blk_frozen BK911.out 0; have hfz6_1 := blk_frozen BK911.out 1; have hfz6_2 := blk_frozen BK911.out 2) | ((with_reducible refine gate_callee (f := 42) rfl ?_); refine goesL_ (some 16) rfl rfl Try.func42 (by kernel_rfl) rfl #[.agg #[.int .i64 a0_0, .int .i64 a0_1, .slice A0_2 l0_2.length c0_2], .int .i64 1048576] rfl arr_ ?_; (with_reducible refine (laws_szPlan.calls a0_0 a0_1 _ _ l0_2 1048576 t912 _ ?side1 ?side2 A3.out).mono ?_); (case side1 => exact kc_ (Kd.C_below HR0_2.out HB.out)); (case side2 => exact HC0_2.out); rintro e w7 ⟨rfl, hb⟩; refine ⟨_, rfl, ?_⟩; have n0_ := Aside0.mk (bb_ BK911.out hb); have n1_ := Aside0.mk (below_step (hb1_ HB.out GE911.out) hb); clear BK911; clear HB; have BK911 := n0_; have HB := n1_; clear n0_ n1_; (try clear hb); (try clear hb2); (try clear hk); (try clear hi)))
    go_ret
    exact ⟨er_, hb1_ HB.out GE911.out⟩
  · rw [if_neg c4] at H
    have c4b0 : decide (t912 < 0) = false := decide_eq_false c4
    clear c4
    replace H := Option.bind_eq_some_iff.mp H
    obtain ⟨t913, A80, H⟩ := H
    replace H : (if t913 < 0 then (some true) else ((laws_toPlan.f k a0_0 a0_1 l0_2).bind fun bt914 => ((laws_toFrameS.f k l1).bind fun t919 => ((spec_BusStray.f k bt914.1 bt914.2.1 bt914.2.2 t919).bind fun t922 => ((laws_toPlan.f k a0_0 a0_1 l0_2).bind fun bt925 => ((laws_toFrameS.f k l1).bind fun t931 => ((impl_BusStray.f k bt925.1 bt925.2.1 bt925.2.2 t931).bind fun t934 => ((laws_eqIntS.f k t934 t922).bind fun t937 => (if t937 = true then ((laws_toPlan.f k a0_0 a0_1 l0_2).bind fun bt938 => ((laws_eqPlan.f k bt925.1 bt925.2.1 bt925.2.2 bt938.1 bt938.2.1 bt938.2.2).bind fun t943 => (if t943 = true then ((laws_toFrameS.f k l1).bind fun t944 => ((laws_eqFrameS.f k t931 t944).bind fun t947 => (if t947 = true then ((laws_markPlan.f k bt925.1 bt925.2.1 bt925.2.2 1).bind fun bt948 => ((laws_markFrameS.f k t931 bt948.1).bind fun bt950 => (if bt950.1 < 0 then (laws_FnExactBusStray.j0 k l1 t922 t934 true a0_0 a0_1 l0_2) else ((laws_eqIntS.f k t934 t922).bind fun t952 => (laws_FnExactBusStray.j0 k l1 t922 t934 (!t952) a0_0 a0_1 l0_2))))) else (some false)))) else (some false)))) else (some false)))))))))) = some r := H
    have A8 := Aside0.mk A80
    clear A80
    by_cases c9 : t913 < 0
    · rw [if_pos c9] at H
      have c9b0 : decide (t913 < 0) = true := decide_eq_true c9
      clear c9
      obtain rfl := Option.some.inj H
      go_enter Try.func9, Try.ntmps9
      go_wp2_with (first | ((with_reducible refine gate_dst (N := 2) rfl ?_); refine box_event ?hg (N := 2) ?hd (cs := #[.int .i64 a0_0, .int .i64 a0_1, .slice A0_2 l0_2.length c0_2]) (t := 66) ?hr ?_; (case hd => rfl); (case hg => rfl); (case hr => first | (go_simp; done) | (go_simp; rfl)); intro gb911 hg w10 hbox hb; have n0_ := Aside0.mk (below_step (hb_ HB.out) hb); have n1_ := Aside0.mk (hbox); have n2_ := Aside0.mk ((by rw [hg]; exact (below_size (hb_ HB.out)) : w.heap.size ≤ gb911)); have n3_ := Aside0.mk ((by rw [hg]; exact (below_size (hb_ HB.out)) : w.heap.size ≤ gb911)); clear HB; have HB := n0_; have BK911 := n1_; have GW911 := n2_; have GE911 := n3_; clear n0_ n1_ n2_ n3_; clear hb hbox hg; have hcz11_0 := bc_ BK911.out 0 (.int .i64 a0_0) rfl; have hcz11_1 := bc_ BK911.out 1 (.int .i64 a0_1) rfl; have hcz11_2 := bc_ BK911.out 2 (.slice A0_2 l0_2.length c0_2) rfl; have hfz11_0 := blk_frozen BK911.out 0; have hfz11_1 := blk_frozen BK911.out 1; have hfz11_2 := blk_frozen BK911.out 2) | ((with_reducible refine gate_callee (f := 42) rfl ?_); refine goesL_ (some 16) rfl rfl Try.func42 (by kernel_rfl) rfl #[.agg #[.int .i64 a0_0, .int .i64 a0_1, .slice A0_2 l0_2.length c0_2], .int .i64 1048576] rfl arr_ ?_; (with_reducible refine (laws_szPlan.calls a0_0 a0_1 _ _ l0_2 1048576 t912 _ ?side1 ?side2 A3.out).mono ?_); (case side1 => exact kc_ (Kd.C_below HR0_2.out HB.out)); (case side2 => exact HC0_2.out); rintro e w12 ⟨rfl, hb⟩; refine ⟨_, rfl, ?_⟩; have n0_ := Aside0.mk (bb_ BK911.out hb); have n1_ := Aside0.mk (below_step (hb1_ HB.out GE911.out) hb); clear BK911; clear HB; have BK911 := n0_; have HB := n1_; clear n0_ n1_; (try clear hb); (try clear hb2); (try clear hk); (try clear hi)) | ((with_reducible refine gate_callee (f := 23) rfl ?_); refine goesL_ (some 21) rfl rfl Try.func23 (by kernel_rfl) rfl #[.slice A1 l1.length c1, .int .i64 t912] rfl arr_ ?_; (with_reducible refine (laws_szFrameS.calls k _ _ l1 t912 t913 _ ?side1 ?side2 A8.out).mono ?_); (case side1 => exact kc_ (Kd.C_below HR1.out HB.out)); (case side2 => exact HC1.out); rintro e w13 ⟨rfl, hb⟩; refine ⟨_, rfl, ?_⟩; have n0_ := Aside0.mk (bb_ BK911.out hb); have n1_ := Aside0.mk (below_step (hb1_ HB.out GE911.out) hb); clear BK911; clear HB; have BK911 := n0_; have HB := n1_; clear n0_ n1_; (try clear hb); (try clear hb2); (try clear hk); (try clear hi)))
      go_ret
      exact ⟨er_, hb1_ HB.out GE911.out⟩
    · rw [if_neg c9] at H
      have c9b0 : decide (t913 < 0) = false := decide_eq_false c9
      clear c9
      replace H := Option.bind_eq_some_iff.mp H
      obtain ⟨⟨t914, t915, t916⟩, A140, H⟩ := H
      replace H : ((laws_toFrameS.f k l1).bind fun t919 => ((spec_BusStray.f k t914 t915 t916 t919).bind fun t922 => ((laws_toPlan.f k a0_0 a0_1 l0_2).bind fun bt925 => ((laws_toFrameS.f k l1).bind fun t931 => ((impl_BusStray.f k bt925.1 bt925.2.1 bt925.2.2 t931).bind fun t934 => ((laws_eqIntS.f k t934 t922).bind fun t937 => (if t937 = true then ((laws_toPlan.f k a0_0 a0_1 l0_2).bind fun bt938 => ((laws_eqPlan.f k bt925.1 bt925.2.1 bt925.2.2 bt938.1 bt938.2.1 bt938.2.2).bind fun t943 => (if t943 = true then ((laws_toFrameS.f k l1).bind fun t944 => ((laws_eqFrameS.f k t931 t944).bind fun t947 => (if t947 = true then ((laws_markPlan.f k bt925.1 bt925.2.1 bt925.2.2 1).bind fun bt948 => ((laws_markFrameS.f k t931 bt948.1).bind fun bt950 => (if bt950.1 < 0 then (laws_FnExactBusStray.j0 k l1 t922 t934 true a0_0 a0_1 l0_2) else ((laws_eqIntS.f k t934 t922).bind fun t952 => (laws_FnExactBusStray.j0 k l1 t922 t934 (!t952) a0_0 a0_1 l0_2))))) else (some false)))) else (some false)))) else (some false)))))))) = some r := H
      have A14 := Aside0.mk A140
      clear A140
      replace H := Option.bind_eq_some_iff.mp H
      obtain ⟨t919, A150, H⟩ := H
      replace H : ((spec_BusStray.f k t914 t915 t916 t919).bind fun t922 => ((laws_toPlan.f k a0_0 a0_1 l0_2).bind fun bt925 => ((laws_toFrameS.f k l1).bind fun t931 => ((impl_BusStray.f k bt925.1 bt925.2.1 bt925.2.2 t931).bind fun t934 => ((laws_eqIntS.f k t934 t922).bind fun t937 => (if t937 = true then ((laws_toPlan.f k a0_0 a0_1 l0_2).bind fun bt938 => ((laws_eqPlan.f k bt925.1 bt925.2.1 bt925.2.2 bt938.1 bt938.2.1 bt938.2.2).bind fun t943 => (if t943 = true then ((laws_toFrameS.f k l1).bind fun t944 => ((laws_eqFrameS.f k t931 t944).bind fun t947 => (if t947 = true then ((laws_markPlan.f k bt925.1 bt925.2.1 bt925.2.2 1).bind fun bt948 => ((laws_markFrameS.f k t931 bt948.1).bind fun bt950 => (if bt950.1 < 0 then (laws_FnExactBusStray.j0 k l1 t922 t934 true a0_0 a0_1 l0_2) else ((laws_eqIntS.f k t934 t922).bind fun t952 => (laws_FnExactBusStray.j0 k l1 t922 t934 (!t952) a0_0 a0_1 l0_2))))) else (some false)))) else (some false)))) else (some false))))))) = some r := H
      have A15 := Aside0.mk A150
      clear A150
      replace H := Option.bind_eq_some_iff.mp H
      obtain ⟨t922, A160, H⟩ := H
      replace H : ((laws_toPlan.f k a0_0 a0_1 l0_2).bind fun bt925 => ((laws_toFrameS.f k l1).bind fun t931 => ((impl_BusStray.f k bt925.1 bt925.2.1 bt925.2.2 t931).bind fun t934 => ((laws_eqIntS.f k t934 t922).bind fun t937 => (if t937 = true then ((laws_toPlan.f k a0_0 a0_1 l0_2).bind fun bt938 => ((laws_eqPlan.f k bt925.1 bt925.2.1 bt925.2.2 bt938.1 bt938.2.1 bt938.2.2).bind fun t943 => (if t943 = true then ((laws_toFrameS.f k l1).bind fun t944 => ((laws_eqFrameS.f k t931 t944).bind fun t947 => (if t947 = true then ((laws_markPlan.f k bt925.1 bt925.2.1 bt925.2.2 1).bind fun bt948 => ((laws_markFrameS.f k t931 bt948.1).bind fun bt950 => (if bt950.1 < 0 then (laws_FnExactBusStray.j0 k l1 t922 t934 true a0_0 a0_1 l0_2) else ((laws_eqIntS.f k t934 t922).bind fun t952 => (laws_FnExactBusStray.j0 k l1 t922 t934 (!t952) a0_0 a0_1 l0_2))))) else (some false)))) else (some false)))) else (some false)))))) = some r := H
      have A16 := Aside0.mk A160
      clear A160
      replace H := Option.bind_eq_some_iff.mp H
      obtain ⟨⟨t925, t926, t927⟩, A170, H⟩ := H
      replace H : ((laws_toFrameS.f k l1).bind fun t931 => ((impl_BusStray.f k t925 t926 t927 t931).bind fun t934 => ((laws_eqIntS.f k t934 t922).bind fun t937 => (if t937 = true then ((laws_toPlan.f k a0_0 a0_1 l0_2).bind fun bt938 => ((laws_eqPlan.f k t925 t926 t927 bt938.1 bt938.2.1 bt938.2.2).bind fun t943 => (if t943 = true then ((laws_toFrameS.f k l1).bind fun t944 => ((laws_eqFrameS.f k t931 t944).bind fun t947 => (if t947 = true then ((laws_markPlan.f k t925 t926 t927 1).bind fun bt948 => ((laws_markFrameS.f k t931 bt948.1).bind fun bt950 => (if bt950.1 < 0 then (laws_FnExactBusStray.j0 k l1 t922 t934 true a0_0 a0_1 l0_2) else ((laws_eqIntS.f k t934 t922).bind fun t952 => (laws_FnExactBusStray.j0 k l1 t922 t934 (!t952) a0_0 a0_1 l0_2))))) else (some false)))) else (some false)))) else (some false))))) = some r := H
      have A17 := Aside0.mk A170
      clear A170
      replace H := Option.bind_eq_some_iff.mp H
      obtain ⟨t931, A180, H⟩ := H
      replace H : ((impl_BusStray.f k t925 t926 t927 t931).bind fun t934 => ((laws_eqIntS.f k t934 t922).bind fun t937 => (if t937 = true then ((laws_toPlan.f k a0_0 a0_1 l0_2).bind fun bt938 => ((laws_eqPlan.f k t925 t926 t927 bt938.1 bt938.2.1 bt938.2.2).bind fun t943 => (if t943 = true then ((laws_toFrameS.f k l1).bind fun t944 => ((laws_eqFrameS.f k t931 t944).bind fun t947 => (if t947 = true then ((laws_markPlan.f k t925 t926 t927 1).bind fun bt948 => ((laws_markFrameS.f k t931 bt948.1).bind fun bt950 => (if bt950.1 < 0 then (laws_FnExactBusStray.j0 k l1 t922 t934 true a0_0 a0_1 l0_2) else ((laws_eqIntS.f k t934 t922).bind fun t952 => (laws_FnExactBusStray.j0 k l1 t922 t934 (!t952) a0_0 a0_1 l0_2))))) else (some false)))) else (some false)))) else (some false)))) = some r := H
      have A18 := Aside0.mk A180
      clear A180
      replace H := Option.bind_eq_some_iff.mp H
      obtain ⟨t934, A190, H⟩ := H
      replace H : ((laws_eqIntS.f k t934 t922).bind fun t937 => (if t937 = true then ((laws_toPlan.f k a0_0 a0_1 l0_2).bind fun bt938 => ((laws_eqPlan.f k t925 t926 t927 bt938.1 bt938.2.1 bt938.2.2).bind fun t943 => (if t943 = true then ((laws_toFrameS.f k l1).bind fun t944 => ((laws_eqFrameS.f k t931 t944).bind fun t947 => (if t947 = true then ((laws_markPlan.f k t925 t926 t927 1).bind fun bt948 => ((laws_markFrameS.f k t931 bt948.1).bind fun bt950 => (if bt950.1 < 0 then (laws_FnExactBusStray.j0 k l1 t922 t934 true a0_0 a0_1 l0_2) else ((laws_eqIntS.f k t934 t922).bind fun t952 => (laws_FnExactBusStray.j0 k l1 t922 t934 (!t952) a0_0 a0_1 l0_2))))) else (some false)))) else (some false)))) else (some false))) = some r := H
      have A19 := Aside0.mk A190
      clear A190
      replace H := Option.bind_eq_some_iff.mp H
      obtain ⟨t937, A200, H⟩ := H
      replace H : (if t937 = true then ((laws_toPlan.f k a0_0 a0_1 l0_2).bind fun bt938 => ((laws_eqPlan.f k t925 t926 t927 bt938.1 bt938.2.1 bt938.2.2).bind fun t943 => (if t943 = true then ((laws_toFrameS.f k l1).bind fun t944 => ((laws_eqFrameS.f k t931 t944).bind fun t947 => (if t947 = true then ((laws_markPlan.f k t925 t926 t927 1).bind fun bt948 => ((laws_markFrameS.f k t931 bt948.1).bind fun bt950 => (if bt950.1 < 0 then (laws_FnExactBusStray.j0 k l1 t922 t934 true a0_0 a0_1 l0_2) else ((laws_eqIntS.f k t934 t922).bind fun t952 => (laws_FnExactBusStray.j0 k l1 t922 t934 (!t952) a0_0 a0_1 l0_2))))) else (some false)))) else (some false)))) else (some false)) = some r := H
      have A20 := Aside0.mk A200
      clear A200
      by_cases c21 : t937 = true
      · subst c21
        have H1 : ((laws_toPlan.f k a0_0 a0_1 l0_2).bind fun bt938 => ((laws_eqPlan.f k t925 t926 t927 bt938.1 bt938.2.1 bt938.2.2).bind fun t943 => (if t943 = true then ((laws_toFrameS.f k l1).bind fun t944 => ((laws_eqFrameS.f k t931 t944).bind fun t947 => (if t947 = true then ((laws_markPlan.f k t925 t926 t927 1).bind fun bt948 => ((laws_markFrameS.f k t931 bt948.1).bind fun bt950 => (if bt950.1 < 0 then (laws_FnExactBusStray.j0 k l1 t922 t934 true a0_0 a0_1 l0_2) else ((laws_eqIntS.f k t934 t922).bind fun t952 => (laws_FnExactBusStray.j0 k l1 t922 t934 (!t952) a0_0 a0_1 l0_2))))) else (some false)))) else (some false)))) = some r := by rw [if_pos rfl] at H; exact H
        clear H
        have H := H1
        clear H1
        replace H := Option.bind_eq_some_iff.mp H
        obtain ⟨⟨t938, t939, t940⟩, A220, H⟩ := H
        replace H : ((laws_eqPlan.f k t925 t926 t927 t938 t939 t940).bind fun t943 => (if t943 = true then ((laws_toFrameS.f k l1).bind fun t944 => ((laws_eqFrameS.f k t931 t944).bind fun t947 => (if t947 = true then ((laws_markPlan.f k t925 t926 t927 1).bind fun bt948 => ((laws_markFrameS.f k t931 bt948.1).bind fun bt950 => (if bt950.1 < 0 then (laws_FnExactBusStray.j0 k l1 t922 t934 true a0_0 a0_1 l0_2) else ((laws_eqIntS.f k t934 t922).bind fun t952 => (laws_FnExactBusStray.j0 k l1 t922 t934 (!t952) a0_0 a0_1 l0_2))))) else (some false)))) else (some false))) = some r := H
        have A22 := Aside0.mk A220
        clear A220
        replace H := Option.bind_eq_some_iff.mp H
        obtain ⟨t943, A230, H⟩ := H
        replace H : (if t943 = true then ((laws_toFrameS.f k l1).bind fun t944 => ((laws_eqFrameS.f k t931 t944).bind fun t947 => (if t947 = true then ((laws_markPlan.f k t925 t926 t927 1).bind fun bt948 => ((laws_markFrameS.f k t931 bt948.1).bind fun bt950 => (if bt950.1 < 0 then (laws_FnExactBusStray.j0 k l1 t922 t934 true a0_0 a0_1 l0_2) else ((laws_eqIntS.f k t934 t922).bind fun t952 => (laws_FnExactBusStray.j0 k l1 t922 t934 (!t952) a0_0 a0_1 l0_2))))) else (some false)))) else (some false)) = some r := H
        have A23 := Aside0.mk A230
        clear A230
        by_cases c24 : t943 = true
        · subst c24
          have H1 : ((laws_toFrameS.f k l1).bind fun t944 => ((laws_eqFrameS.f k t931 t944).bind fun t947 => (if t947 = true then ((laws_markPlan.f k t925 t926 t927 1).bind fun bt948 => ((laws_markFrameS.f k t931 bt948.1).bind fun bt950 => (if bt950.1 < 0 then (laws_FnExactBusStray.j0 k l1 t922 t934 true a0_0 a0_1 l0_2) else ((laws_eqIntS.f k t934 t922).bind fun t952 => (laws_FnExactBusStray.j0 k l1 t922 t934 (!t952) a0_0 a0_1 l0_2))))) else (some false)))) = some r := by rw [if_pos rfl] at H; exact H
          clear H
          have H := H1
          clear H1
          replace H := Option.bind_eq_some_iff.mp H
          obtain ⟨t944, A250, H⟩ := H
          replace H : ((laws_eqFrameS.f k t931 t944).bind fun t947 => (if t947 = true then ((laws_markPlan.f k t925 t926 t927 1).bind fun bt948 => ((laws_markFrameS.f k t931 bt948.1).bind fun bt950 => (if bt950.1 < 0 then (laws_FnExactBusStray.j0 k l1 t922 t934 true a0_0 a0_1 l0_2) else ((laws_eqIntS.f k t934 t922).bind fun t952 => (laws_FnExactBusStray.j0 k l1 t922 t934 (!t952) a0_0 a0_1 l0_2))))) else (some false))) = some r := H
          have A25 := Aside0.mk A250
          clear A250
          replace H := Option.bind_eq_some_iff.mp H
          obtain ⟨t947, A260, H⟩ := H
          replace H : (if t947 = true then ((laws_markPlan.f k t925 t926 t927 1).bind fun bt948 => ((laws_markFrameS.f k t931 bt948.1).bind fun bt950 => (if bt950.1 < 0 then (laws_FnExactBusStray.j0 k l1 t922 t934 true a0_0 a0_1 l0_2) else ((laws_eqIntS.f k t934 t922).bind fun t952 => (laws_FnExactBusStray.j0 k l1 t922 t934 (!t952) a0_0 a0_1 l0_2))))) else (some false)) = some r := H
          have A26 := Aside0.mk A260
          clear A260
          by_cases c27 : t947 = true
          · subst c27
            have H1 : ((laws_markPlan.f k t925 t926 t927 1).bind fun bt948 => ((laws_markFrameS.f k t931 bt948.1).bind fun bt950 => (if bt950.1 < 0 then (laws_FnExactBusStray.j0 k l1 t922 t934 true a0_0 a0_1 l0_2) else ((laws_eqIntS.f k t934 t922).bind fun t952 => (laws_FnExactBusStray.j0 k l1 t922 t934 (!t952) a0_0 a0_1 l0_2))))) = some r := by rw [if_pos rfl] at H; exact H
            clear H
            have H := H1
            clear H1
            replace H := Option.bind_eq_some_iff.mp H
            obtain ⟨⟨t948, t949⟩, A280, H⟩ := H
            replace H : ((laws_markFrameS.f k t931 t948).bind fun bt950 => (if bt950.1 < 0 then (laws_FnExactBusStray.j0 k l1 t922 t934 true a0_0 a0_1 l0_2) else ((laws_eqIntS.f k t934 t922).bind fun t952 => (laws_FnExactBusStray.j0 k l1 t922 t934 (!t952) a0_0 a0_1 l0_2)))) = some r := H
            have A28 := Aside0.mk A280
            clear A280
            replace H := Option.bind_eq_some_iff.mp H
            obtain ⟨⟨t950, t951⟩, A290, H⟩ := H
            replace H : (if t950 < 0 then (laws_FnExactBusStray.j0 k l1 t922 t934 true a0_0 a0_1 l0_2) else ((laws_eqIntS.f k t934 t922).bind fun t952 => (laws_FnExactBusStray.j0 k l1 t922 t934 (!t952) a0_0 a0_1 l0_2))) = some r := H
            have A29 := Aside0.mk A290
            clear A290
            have HC30 := Aside0.mk H
            clear H
            go_enter Try.func9, Try.ntmps9
            try go_wp2_with (first | ((with_reducible refine gate_dst (N := 2) rfl ?_); refine box_event ?hg (N := 2) ?hd (cs := #[.int .i64 a0_0, .int .i64 a0_1, .slice A0_2 l0_2.length c0_2]) (t := 66) ?hr ?_; (case hd => rfl); (case hg => rfl); (case hr => first | (go_simp; done) | (go_simp; rfl)); intro gb911 hg w31 hbox hb; have n0_ := Aside0.mk (below_step (hb_ HB.out) hb); have n1_ := Aside0.mk (hbox); have n2_ := Aside0.mk ((by rw [hg]; exact (below_size (hb_ HB.out)) : w.heap.size ≤ gb911)); have n3_ := Aside0.mk ((by rw [hg]; exact (below_size (hb_ HB.out)) : w.heap.size ≤ gb911)); clear HB; have HB := n0_; have BK911 := n1_; have GW911 := n2_; have GE911 := n3_; clear n0_ n1_ n2_ n3_; clear hb hbox hg; have hcz32_0 := bc_ BK911.out 0 (.int .i64 a0_0) rfl; have hcz32_1 := bc_ BK911.out 1 (.int .i64 a0_1) rfl; have hcz32_2 := bc_ BK911.out 2 (.slice A0_2 l0_2.length c0_2) rfl; have hfz32_0 := blk_frozen BK911.out 0; have hfz32_1 := blk_frozen BK911.out 1; have hfz32_2 := blk_frozen BK911.out 2) | ((with_reducible refine gate_callee (f := 42) rfl ?_); refine goesL_ (some 16) rfl rfl Try.func42 (by kernel_rfl) rfl #[.agg #[.int .i64 a0_0, .int .i64 a0_1, .slice A0_2 l0_2.length c0_2], .int .i64 1048576] rfl arr_ ?_; (with_reducible refine (laws_szPlan.calls a0_0 a0_1 _ _ l0_2 1048576 t912 _ ?side1 ?side2 A3.out).mono ?_); (case side1 => exact kc_ (Kd.C_below HR0_2.out HB.out)); (case side2 => exact HC0_2.out); rintro e w33 ⟨rfl, hb⟩; refine ⟨_, rfl, ?_⟩; have n0_ := Aside0.mk (bb_ BK911.out hb); have n1_ := Aside0.mk (below_step (hb1_ HB.out GE911.out) hb); clear BK911; clear HB; have BK911 := n0_; have HB := n1_; clear n0_ n1_; (try clear hb); (try clear hb2); (try clear hk); (try clear hi)) | ((with_reducible refine gate_callee (f := 23) rfl ?_); refine goesL_ (some 21) rfl rfl Try.func23 (by kernel_rfl) rfl #[.slice A1 l1.length c1, .int .i64 t912] rfl arr_ ?_; (with_reducible refine (laws_szFrameS.calls k _ _ l1 t912 t913 _ ?side1 ?side2 A8.out).mono ?_); (case side1 => exact kc_ (Kd.C_below HR1.out HB.out)); (case side2 => exact HC1.out); rintro e w34 ⟨rfl, hb⟩; refine ⟨_, rfl, ?_⟩; have n0_ := Aside0.mk (bb_ BK911.out hb); have n1_ := Aside0.mk (below_step (hb1_ HB.out GE911.out) hb); clear BK911; clear HB; have BK911 := n0_; have HB := n1_; clear n0_ n1_; (try clear hb); (try clear hb2); (try clear hk); (try clear hi); have hcz35_0 := bc_ BK911.out 0 (.int .i64 a0_0) rfl; have hcz35_1 := bc_ BK911.out 1 (.int .i64 a0_1) rfl; have hcz35_2 := bc_ BK911.out 2 (.slice A0_2 l0_2.length c0_2) rfl; have hfz35_0 := blk_frozen BK911.out 0; have hfz35_1 := blk_frozen BK911.out 1; have hfz35_2 := blk_frozen BK911.out 2) | ((with_reducible refine gate_callee (f := 43) rfl ?_); refine goesL_ (some 25) rfl rfl Try.func43 (by kernel_rfl) rfl #[.agg #[.int .i64 a0_0, .int .i64 a0_1, .slice A0_2 l0_2.length c0_2]] rfl arr_ ?_; (with_reducible refine (laws_toPlan.calls k a0_0 a0_1 _ _ l0_2 t914 t915 t916 _ ?side1 ?side2 A14.out).mono ?_); (case side1 => exact kc_ (Kd.C_below HR0_2.out HB.out)); (case side2 => exact HC0_2.out); rintro e w36 ⟨v917, rfl, ho0, hb⟩; refine ⟨_, rfl, ?_⟩; have n0_ := Aside0.mk (Kd.R_lower ho0 (below_size (hb1_ HB.out GE911.out))); have n1_ := Aside0.mk (bb_ BK911.out hb); have n2_ := Aside0.mk (below_step (hb1_ HB.out GE911.out) hb); clear BK911; clear HB; have HO918 := n0_; have BK911 := n1_; have HB := n2_; clear n0_ n1_ n2_; (try clear hb); (try clear hb2); (try clear hk); (try clear hi); (try clear ho0)) | ((with_reducible refine gate_callee (f := 25) rfl ?_); refine goesL_ (some 27) rfl rfl Try.func25 (by kernel_rfl) rfl #[.slice A1 l1.length c1] rfl arr_ ?_; (with_reducible refine (laws_toFrameS.calls k _ _ l1 t919 _ ?side1 ?side2 A15.out).mono ?_); (case side1 => exact kc_ (Kd.C_below HR1.out HB.out)); (case side2 => exact HC1.out); rintro e w37 ⟨v920, rfl, ho0, hb⟩; refine ⟨_, rfl, ?_⟩; have n0_ := Aside0.mk (Kd.R_below (by (with_reducible repeat (first | apply Kd.R_alloc | apply Kd.R_drewN | apply Kd.R_drew)); exact HO918.out) hb); have n1_ := Aside0.mk (Kd.R_lower ho0 (below_size (hb1_ HB.out GE911.out))); have n2_ := Aside0.mk (bb_ BK911.out hb); have n3_ := Aside0.mk (below_step (hb1_ HB.out GE911.out) hb); clear HO918; clear BK911; clear HB; have HO918 := n0_; have HO921 := n1_; have BK911 := n2_; have HB := n3_; clear n0_ n1_ n2_ n3_; (try clear hb); (try clear hb2); (try clear hk); (try clear hi); (try clear ho0); obtain ⟨Ao38, co38, eo38⟩ := Kd.R_slice HO918.out; subst eo38; obtain ⟨Ao39, co39, eo39⟩ := Kd.R_slice HO921.out; subst eo39) | ((with_reducible refine gate_callee (f := 39) rfl ?_); refine goesL_ (some 28) rfl rfl Try.func39 (by kernel_rfl) rfl #[.agg #[.int .i64 t914, .int .i64 t915, .slice Ao38 t916.length co38], .slice Ao39 t919.length co39] rfl arr_ ?_; (with_reducible refine (spec_BusStray.calls k t914 t915 _ _ t916 _ _ t919 t922 _ ?side1 ?side2 ?side3 ?side4 A16.out).mono ?_); (case side1 => repeat (first | exact (Kd.R_reads' HO918.out).2.2 | (with_reducible refine Kd.C_alloc ?_ _) | (with_reducible refine Kd.C_drewN ?_ _) | (with_reducible refine Kd.C_drew ?_))); (case side2 => exact (Kd.R_reads' HO918.out).2.1); (case side3 => repeat (first | exact (Kd.R_reads' HO921.out).2.2 | (with_reducible refine Kd.C_alloc ?_ _) | (with_reducible refine Kd.C_drewN ?_ _) | (with_reducible refine Kd.C_drew ?_))); (case side4 => exact (Kd.R_reads' HO921.out).2.1); rintro e w40 ⟨v923, rfl, ho0, hb⟩; refine ⟨_, rfl, ?_⟩; have n0_ := Aside0.mk (Kd.R_below (by (with_reducible repeat (first | apply Kd.R_alloc | apply Kd.R_drewN | apply Kd.R_drew)); exact HO918.out) hb); have n1_ := Aside0.mk (Kd.R_below (by (with_reducible repeat (first | apply Kd.R_alloc | apply Kd.R_drewN | apply Kd.R_drew)); exact HO921.out) hb); have n2_ := Aside0.mk (Kd.R_lower ho0 (below_size (hb1_ HB.out GE911.out))); have n3_ := Aside0.mk (bb_ BK911.out hb); have n4_ := Aside0.mk (below_step (hb1_ HB.out GE911.out) hb); clear HO918; clear HO921; clear BK911; clear HB; have HO918 := n0_; have HO921 := n1_; have HO924 := n2_; have BK911 := n3_; have HB := n4_; clear n0_ n1_ n2_ n3_ n4_; (try clear hb); (try clear hb2); (try clear hk); (try clear hi); (try clear ho0); have hcz41_0 := bc_ BK911.out 0 (.int .i64 a0_0) rfl; have hcz41_1 := bc_ BK911.out 1 (.int .i64 a0_1) rfl; have hcz41_2 := bc_ BK911.out 2 (.slice A0_2 l0_2.length c0_2) rfl; have hfz41_0 := blk_frozen BK911.out 0; have hfz41_1 := blk_frozen BK911.out 1; have hfz41_2 := blk_frozen BK911.out 2) | ((with_reducible refine gate_callee (f := 43) rfl ?_); refine goesL_ (some 30) rfl rfl Try.func43 (by kernel_rfl) rfl #[.agg #[.int .i64 a0_0, .int .i64 a0_1, .slice A0_2 l0_2.length c0_2]] rfl arr_ ?_; (with_reducible refine (laws_toPlan.calls k a0_0 a0_1 _ _ l0_2 t925 t926 t927 _ ?side1 ?side2 A17.out).mono ?_); (case side1 => exact kc_ (Kd.C_below HR0_2.out HB.out)); (case side2 => exact HC0_2.out); rintro e w42 ⟨v928, rfl, ho0, hb⟩; refine ⟨_, rfl, ?_⟩; have n0_ := Aside0.mk (Kd.R_elder' (by (with_reducible repeat (first | apply Kd.R_alloc | apply Kd.R_drewN | apply Kd.R_drew)); exact HO918.out) (Kd.R_base ho0) hb); have n1_ := Aside0.mk (Kd.R_below (by (with_reducible repeat (first | apply Kd.R_alloc | apply Kd.R_drewN | apply Kd.R_drew)); exact HO921.out) hb); have n2_ := Aside0.mk (Kd.R_below (by (with_reducible repeat (first | apply Kd.R_alloc | apply Kd.R_drewN | apply Kd.R_drew)); exact HO924.out) hb); have n3_ := Aside0.mk (Kd.R_lower (Kd.R_new' ho0 (Kd.R_lt (by (with_reducible repeat (first | apply Kd.R_alloc | apply Kd.R_drewN | apply Kd.R_drew)); exact HO918.out))) (below_size (hb1_ HB.out GE911.out))); have n4_ := Aside0.mk (bb_ BK911.out hb); have n5_ := Aside0.mk (below_step (hb1_ HB.out GE911.out) hb); clear HO918; clear HO921; clear HO924; clear BK911; clear HB; have HO918 := n0_; have HO921 := n1_; have HO924 := n2_; have HO929 := n3_; have BK911 := n4_; have HB := n5_; clear n0_ n1_ n2_ n3_ n4_ n5_; (try clear hb); (try clear hb2); (try clear hk); (try clear hi); (try clear ho0)) | ((with_reducible refine gate_dst (N := 7) rfl ?_); refine box_event ?hg (N := 7) ?hd (cs := #[.int .i64 0, .int .i64 0, .slice none 0 0]) (t := 59) ?hr ?_; (case hd => rfl); (case hg => rfl); (case hr => first | (go_simp; done) | (go_simp; rfl)); intro gb930 hg w43 hbox hb; have n0_ := Aside0.mk (Kd.R_below (by (with_reducible repeat (first | apply Kd.R_alloc | apply Kd.R_drewN | apply Kd.R_drew)); exact HO918.out) hb); have n1_ := Aside0.mk (Kd.R_below (by (with_reducible repeat (first | apply Kd.R_alloc | apply Kd.R_drewN | apply Kd.R_drew)); exact HO921.out) hb); have n2_ := Aside0.mk (Kd.R_below (by (with_reducible repeat (first | apply Kd.R_alloc | apply Kd.R_drewN | apply Kd.R_drew)); exact HO924.out) hb); have n3_ := Aside0.mk (Kd.R_below (by (with_reducible repeat (first | apply Kd.R_alloc | apply Kd.R_drewN | apply Kd.R_drew)); exact HO929.out) hb); have n4_ := Aside0.mk (bb_ BK911.out hb); have n5_ := Aside0.mk (below_step (hb1_ HB.out GE911.out) hb); have n6_ := Aside0.mk (hbox); have n7_ := Aside0.mk ((by rw [hg]; exact (below_size (hb1_ HB.out GE911.out)) : w.heap.size ≤ gb930)); have n8_ := Aside0.mk ((by rw [hg]; exact (below_size (hb1_ HB.out GE911.out)) : w.heap.size ≤ gb930)); have n9_ := Aside0.mk ((bl_ hg BK911.out : gb911 ≠ gb930)); have n10_ := Aside0.mk ((bg_ hg BK911.out : gb930 ≠ gb911)); clear HO918; clear HO921; clear HO924; clear HO929; clear BK911; clear HB; have HO918 := n0_; have HO921 := n1_; have HO924 := n2_; have HO929 := n3_; have BK911 := n4_; have HB := n5_; have BK930 := n6_; have GW930 := n7_; have GE930 := n8_; have NB911_930 := n9_; have NB930_911 := n10_; clear n0_ n1_ n2_ n3_ n4_ n5_ n6_ n7_ n8_ n9_ n10_; clear hb hbox hg; have hnb44 := NB930_911.out; have hnc44 := NB911_930.out; have hcz45_0 := bc_ BK930.out 0 (.int .i64 0) rfl; have hcz45_1 := bc_ BK930.out 1 (.int .i64 0) rfl; have hcz45_2 := bc_ BK930.out 2 (.slice none 0 0) rfl; have hfz45_0 := blk_frozen BK930.out 0; have hfz45_1 := blk_frozen BK930.out 1; have hfz45_2 := blk_frozen BK930.out 2; obtain ⟨Ao46, co46, eo46⟩ := Kd.R_slice HO929.out; subst eo46) | ((with_reducible refine gate_callee (f := 25) rfl ?_); refine goesL_ (some 32) rfl rfl Try.func25 (by kernel_rfl) rfl #[.slice A1 l1.length c1] rfl arr_ ?_; (with_reducible refine (laws_toFrameS.calls k _ _ l1 t931 _ ?side1 ?side2 A18.out).mono ?_); (case side1 => exact Kd.C_below HR1.out (hb2_ HB.out GE911.out GE930.out)); (case side2 => exact HC1.out); rintro e w47 ⟨v932, rfl, ho0, hb⟩; refine ⟨_, rfl, ?_⟩; have n0_ := Aside0.mk (Kd.R_below (by (with_reducible repeat (first | apply Kd.R_alloc | apply Kd.R_drewN | apply Kd.R_drew)); exact (Kd.R_mono (Kd.R_far (p := ⟨gb930, 2, none⟩) (Kd.R_far (p := ⟨gb930, 1, none⟩) (Kd.R_far (p := ⟨gb930, 0, none⟩) (Kd.R_types HO918.out BK930.out (by decide)) (fun _ hk => hk.2) (.int .i64 t925)) (fun _ hk => hk.2) (.int .i64 t926)) (fun _ hk => hk.2) (.slice Ao46 t927.length co46)) (fun _ h_ => h_.1))) hb); have n1_ := Aside0.mk (Kd.R_elder' (by (with_reducible repeat (first | apply Kd.R_alloc | apply Kd.R_drewN | apply Kd.R_drew)); exact (Kd.R_mono (Kd.R_far (p := ⟨gb930, 2, none⟩) (Kd.R_far (p := ⟨gb930, 1, none⟩) (Kd.R_far (p := ⟨gb930, 0, none⟩) (Kd.R_types HO921.out BK930.out (by decide)) (fun _ hk => hk.2) (.int .i64 t925)) (fun _ hk => hk.2) (.int .i64 t926)) (fun _ hk => hk.2) (.slice Ao46 t927.length co46)) (fun _ h_ => h_.1))) (Kd.R_base ho0) hb); have n2_ := Aside0.mk (Kd.R_below (by (with_reducible repeat (first | apply Kd.R_alloc | apply Kd.R_drewN | apply Kd.R_drew)); exact (Kd.R_mono (Kd.R_far (p := ⟨gb930, 2, none⟩) (Kd.R_far (p := ⟨gb930, 1, none⟩) (Kd.R_far (p := ⟨gb930, 0, none⟩) (Kd.R_types HO924.out BK930.out (by decide)) (fun _ hk => hk.2) (.int .i64 t925)) (fun _ hk => hk.2) (.int .i64 t926)) (fun _ hk => hk.2) (.slice Ao46 t927.length co46)) (fun _ h_ => h_.1))) hb); have n3_ := Aside0.mk (Kd.R_below (by (with_reducible repeat (first | apply Kd.R_alloc | apply Kd.R_drewN | apply Kd.R_drew)); exact (Kd.R_mono (Kd.R_far (p := ⟨gb930, 2, none⟩) (Kd.R_far (p := ⟨gb930, 1, none⟩) (Kd.R_far (p := ⟨gb930, 0, none⟩) (Kd.R_types HO929.out BK930.out (by decide)) (fun _ hk => hk.2) (.int .i64 t925)) (fun _ hk => hk.2) (.int .i64 t926)) (fun _ hk => hk.2) (.slice Ao46 t927.length co46)) (fun _ h_ => h_.1))) hb); have n4_ := Aside0.mk (Kd.R_lower (Kd.R_new' ho0 (Kd.R_lt (by (with_reducible repeat (first | apply Kd.R_alloc | apply Kd.R_drewN | apply Kd.R_drew)); exact (Kd.R_mono (Kd.R_far (p := ⟨gb930, 2, none⟩) (Kd.R_far (p := ⟨gb930, 1, none⟩) (Kd.R_far (p := ⟨gb930, 0, none⟩) (Kd.R_types HO921.out BK930.out (by decide)) (fun _ hk => hk.2) (.int .i64 t925)) (fun _ hk => hk.2) (.int .i64 t926)) (fun _ hk => hk.2) (.slice Ao46 t927.length co46)) (fun _ h_ => h_.1))))) (below_size (hb2_ HB.out GE911.out GE930.out))); have n5_ := Aside0.mk (blk_below (g := gb911) (o := .cells #[.int .i64 a0_0, .int .i64 a0_1, .slice A0_2 l0_2.length c0_2] 66 (0, 0)) (by (with_reducible repeat (first | refine blk_drewN ?_ _ | refine blk_drew ?_ | refine blk_alloc ?_ _)); refine blk_far ?_ NB911_930.out _; (with_reducible repeat (first | refine blk_drewN ?_ _ | refine blk_drew ?_ | refine blk_alloc ?_ _)); refine blk_far ?_ NB911_930.out _; (with_reducible repeat (first | refine blk_drewN ?_ _ | refine blk_drew ?_ | refine blk_alloc ?_ _)); refine blk_far ?_ NB911_930.out _; (with_reducible repeat (first | refine blk_drewN ?_ _ | refine blk_drew ?_ | refine blk_alloc ?_ _)); exact BK911.out) hb); have n6_ := Aside0.mk (blk_below (g := gb930) (o := .cells #[.int .i64 t925, .int .i64 t926, .slice Ao46 t927.length co46] 59 (0, 0)) (by (with_reducible repeat (first | refine blk_drewN ?_ _ | refine blk_drew ?_ | refine blk_alloc ?_ _)); refine blk_put (cs := #[.int .i64 t925, .int .i64 t926, .slice none 0 0]) ?_ 2 _ rfl; (with_reducible repeat (first | refine blk_drewN ?_ _ | refine blk_drew ?_ | refine blk_alloc ?_ _)); refine blk_put (cs := #[.int .i64 t925, .int .i64 0, .slice none 0 0]) ?_ 1 _ rfl; (with_reducible repeat (first | refine blk_drewN ?_ _ | refine blk_drew ?_ | refine blk_alloc ?_ _)); refine blk_put (cs := #[.int .i64 0, .int .i64 0, .slice none 0 0]) ?_ 0 _ rfl; (with_reducible repeat (first | refine blk_drewN ?_ _ | refine blk_drew ?_ | refine blk_alloc ?_ _)); exact BK930.out) hb); have n7_ := Aside0.mk (below_step (hb2_ HB.out GE911.out GE930.out) hb); clear HO918; clear HO921; clear HO924; clear HO929; clear BK911; clear BK930; clear HB; have HO918 := n0_; have HO921 := n1_; have HO924 := n2_; have HO929 := n3_; have HO933 := n4_; have BK911 := n5_; have BK930 := n6_; have HB := n7_; clear n0_ n1_ n2_ n3_ n4_ n5_ n6_ n7_; (try clear hb); (try clear hb2); (try clear hk); (try clear hi); (try clear ho0); have hcz48_0 := bc_ BK930.out 0 (.int .i64 t925) rfl; have hcz48_1 := bc_ BK930.out 1 (.int .i64 t926) rfl; have hcz48_2 := bc_ BK930.out 2 (.slice Ao46 t927.length co46) rfl; have hfz48_0 := blk_frozen BK930.out 0; have hfz48_1 := blk_frozen BK930.out 1; have hfz48_2 := blk_frozen BK930.out 2; obtain ⟨Ao49, co49, eo49⟩ := Kd.R_slice HO933.out; subst eo49) | ((with_reducible refine gate_callee (f := 38) rfl ?_); refine goesL_ (some 35) rfl rfl Try.func38 (by kernel_rfl) rfl #[.agg #[.int .i64 t925, .int .i64 t926, .slice Ao46 t927.length co46], .slice Ao49 t931.length co49] rfl arr_ ?_; (with_reducible refine (impl_BusStray.calls k t925 t926 _ _ t927 _ _ t931 t934 _ ?side1 ?side2 ?side3 ?side4 A19.out).mono ?_); (case side1 => repeat (first | exact (Kd.R_reads' HO929.out).2.2 | (with_reducible refine Kd.C_alloc ?_ _) | (with_reducible refine Kd.C_drewN ?_ _) | (with_reducible refine Kd.C_drew ?_))); (case side2 => exact (Kd.R_reads' HO929.out).2.1); (case side3 => repeat (first | exact (Kd.R_reads' HO933.out).2.2 | (with_reducible refine Kd.C_alloc ?_ _) | (with_reducible refine Kd.C_drewN ?_ _) | (with_reducible refine Kd.C_drew ?_))); (case side4 => exact (Kd.R_reads' HO933.out).2.1); rintro e w50 ⟨v935, rfl, ho0, hb⟩; refine ⟨_, rfl, ?_⟩; have n0_ := Aside0.mk (Kd.R_below (by (with_reducible repeat (first | apply Kd.R_alloc | apply Kd.R_drewN | apply Kd.R_drew)); exact HO918.out) hb); have n1_ := Aside0.mk (Kd.R_below (by (with_reducible repeat (first | apply Kd.R_alloc | apply Kd.R_drewN | apply Kd.R_drew)); exact HO921.out) hb); have n2_ := Aside0.mk (Kd.R_elder' (by (with_reducible repeat (first | apply Kd.R_alloc | apply Kd.R_drewN | apply Kd.R_drew)); exact HO924.out) (Kd.R_base ho0) hb); have n3_ := Aside0.mk (Kd.R_below (by (with_reducible repeat (first | apply Kd.R_alloc | apply Kd.R_drewN | apply Kd.R_drew)); exact HO929.out) hb); have n4_ := Aside0.mk (Kd.R_below (by (with_reducible repeat (first | apply Kd.R_alloc | apply Kd.R_drewN | apply Kd.R_drew)); exact HO933.out) hb); have n5_ := Aside0.mk (Kd.R_lower (Kd.R_new' ho0 (Kd.R_lt (by (with_reducible repeat (first | apply Kd.R_alloc | apply Kd.R_drewN | apply Kd.R_drew)); exact HO924.out))) (below_size (hb2_ HB.out GE911.out GE930.out))); have n6_ := Aside0.mk (bb_ BK911.out hb); have n7_ := Aside0.mk (bb_ BK930.out hb); have n8_ := Aside0.mk (below_step (hb2_ HB.out GE911.out GE930.out) hb); clear HO918; clear HO921; clear HO924; clear HO929; clear HO933; clear BK911; clear BK930; clear HB; have HO918 := n0_; have HO921 := n1_; have HO924 := n2_; have HO929 := n3_; have HO933 := n4_; have HO936 := n5_; have BK911 := n6_; have BK930 := n7_; have HB := n8_; clear n0_ n1_ n2_ n3_ n4_ n5_ n6_ n7_ n8_; (try clear hb); (try clear hb2); (try clear hk); (try clear hi); (try clear ho0); obtain ⟨Ao51, co51, eo51⟩ := Kd.R_slice HO936.out; subst eo51; obtain ⟨Ao52, co52, eo52⟩ := Kd.R_slice HO924.out; subst eo52) | ((with_reducible refine gate_callee (f := 26) rfl ?_); refine goesL_ (some 38) rfl rfl Try.func26 (by kernel_rfl) rfl #[.slice Ao51 t934.length co51, .slice Ao52 t922.length co52] rfl arr_ ?_; (with_reducible refine (laws_eqIntS.calls k _ _ t934 _ _ t922 true _ ?side1 ?side2 ?side3 ?side4 A20.out).mono ?_); (case side1 => repeat (first | exact (Kd.R_reads' HO936.out).2.2 | (with_reducible refine Kd.C_alloc ?_ _) | (with_reducible refine Kd.C_drewN ?_ _) | (with_reducible refine Kd.C_drew ?_))); (case side2 => exact (Kd.R_reads' HO936.out).2.1); (case side3 => repeat (first | exact (Kd.R_reads' HO924.out).2.2 | (with_reducible refine Kd.C_alloc ?_ _) | (with_reducible refine Kd.C_drewN ?_ _) | (with_reducible refine Kd.C_drew ?_))); (case side4 => exact (Kd.R_reads' HO924.out).2.1); rintro e w' ⟨rfl, ⟨nd, rfl⟩⟩; refine ⟨_, rfl, ?_⟩))
            (try (rw [drewN_self w50]; generalize hq_ : World.drewN w50 _ = w50; have n0_ : Aside0 (Kd.R k90 90 w50 w.heap.size (fun k_ => some k_ ≠ (.slice Ao46 t927.length co46 : Value).ownBlock) (.slice Ao38 t916.length co38) t916) := ⟨by rw [← hq_]; exact (by (with_reducible repeat (first | apply Kd.R_alloc | apply Kd.R_drewN | apply Kd.R_drew)); exact Kd.R_mono HO918.out (fun _ hk => hk.2))⟩; have n1_ : Aside0 (Kd.R k33 33 w50 w.heap.size (fun k_ => some k_ ≠ (.slice Ao49 t931.length co49 : Value).ownBlock) (.slice Ao39 t919.length co39) t919) := ⟨by rw [← hq_]; exact (by (with_reducible repeat (first | apply Kd.R_alloc | apply Kd.R_drewN | apply Kd.R_drew)); exact Kd.R_mono HO921.out (fun _ hk => hk.2))⟩; have n2_ : Aside0 (Kd.R (Kd.int .i64) 3 w50 w.heap.size (fun k_ => some k_ ≠ (.slice Ao51 t934.length co51 : Value).ownBlock) (.slice Ao52 t922.length co52) t922) := ⟨by rw [← hq_]; exact (by (with_reducible repeat (first | apply Kd.R_alloc | apply Kd.R_drewN | apply Kd.R_drew)); exact Kd.R_mono HO924.out (fun _ hk => hk.2))⟩; have n3_ : Aside0 (Kd.R k90 90 w50 w.heap.size (fun k_ => some k_ ≠ (.slice Ao38 t916.length co38 : Value).ownBlock) (.slice Ao46 t927.length co46) t927) := ⟨by rw [← hq_]; exact (by (with_reducible repeat (first | apply Kd.R_alloc | apply Kd.R_drewN | apply Kd.R_drew)); exact Kd.R_mono HO929.out (fun _ hk => hk.2))⟩; have n4_ : Aside0 (Kd.R k33 33 w50 w.heap.size (fun k_ => some k_ ≠ (.slice Ao39 t919.length co39 : Value).ownBlock) (.slice Ao49 t931.length co49) t931) := ⟨by rw [← hq_]; exact (by (with_reducible repeat (first | apply Kd.R_alloc | apply Kd.R_drewN | apply Kd.R_drew)); exact Kd.R_mono HO933.out (fun _ hk => hk.2))⟩; have n5_ : Aside0 (Kd.R (Kd.int .i64) 3 w50 w.heap.size (fun k_ => some k_ ≠ (.slice Ao52 t922.length co52 : Value).ownBlock) (.slice Ao51 t934.length co51) t934) := ⟨by rw [← hq_]; exact (by (with_reducible repeat (first | apply Kd.R_alloc | apply Kd.R_drewN | apply Kd.R_drew)); exact Kd.R_mono HO936.out (fun _ hk => hk.2))⟩; have n6_ : Aside0 (w50.heap[gb911]? = some (.cells #[.int .i64 a0_0, .int .i64 a0_1, .slice A0_2 l0_2.length c0_2] 66 (0, 0))) := ⟨by rw [← hq_]; exact (bk_ BK911.out)⟩; have n7_ : Aside0 (w50.heap[gb930]? = some (.cells #[.int .i64 t925, .int .i64 t926, .slice Ao46 t927.length co46] 59 (0, 0))) := ⟨by rw [← hq_]; exact (bk_ BK930.out)⟩; have n8_ : Aside0 (Below w.heap.size w w50) := ⟨by rw [← hq_]; exact (hb2_ HB.out GE911.out GE930.out)⟩; clear HO918 HO921 HO924 HO929 HO933 HO936 BK911 BK930 HB hq_; have HO918 := n0_; have HO921 := n1_; have HO924 := n2_; have HO929 := n3_; have HO933 := n4_; have HO936 := n5_; have BK911 := n6_; have BK930 := n7_; have HB := n8_; clear n0_ n1_ n2_ n3_ n4_ n5_ n6_ n7_ n8_))
            have n0_ := Aside0.mk (Kd.R_drew HO918.out)
            have n1_ := Aside0.mk (Kd.R_drew HO921.out)
            have n2_ := Aside0.mk (Kd.R_drew HO924.out)
            have n3_ := Aside0.mk (Kd.R_drew HO929.out)
            have n4_ := Aside0.mk (Kd.R_drew HO933.out)
            have n5_ := Aside0.mk (Kd.R_drew HO936.out)
            have n6_ := Aside0.mk (blk_drew BK911.out)
            have n7_ := Aside0.mk (blk_drew BK930.out)
            have n8_ := Aside0.mk (below_drew1 HB.out)
            clear HO918
            clear HO921
            clear HO924
            clear HO929
            clear HO933
            clear HO936
            clear BK911
            clear BK930
            clear HB
            have HO918 := n0_
            have HO921 := n1_
            have HO924 := n2_
            have HO929 := n3_
            have HO933 := n4_
            have HO936 := n5_
            have BK911 := n6_
            have BK930 := n7_
            have HB := n8_
            clear n0_ n1_ n2_ n3_ n4_ n5_ n6_ n7_ n8_
            refine start_ (n := 5) (S := fun w' => w'.cell? ⟨gb930, 0, none⟩ = some (.int .i64 t925) ∧ w'.cell? ⟨gb930, 1, none⟩ = some (.int .i64 t926) ∧ w'.cell? ⟨gb930, 2, none⟩ = some (.slice Ao46 t927.length co46) ∧ w'.cell? ⟨gb911, 0, none⟩ = some (.int .i64 a0_0) ∧ w'.cell? ⟨gb911, 1, none⟩ = some (.int .i64 a0_1) ∧ w'.cell? ⟨gb911, 2, none⟩ = some (.slice A0_2 l0_2.length c0_2)) (ds := []) #[false, false, false, false, false] (by kernel_rfl) rfl rfl ⟨(blk_cell BK930.out 0).trans rfl, (blk_cell BK930.out 1).trans rfl, (blk_cell BK930.out 2).trans rfl, (blk_cell BK911.out 0).trans rfl, (blk_cell BK911.out 1).trans rfl, (blk_cell BK911.out 2).trans rfl⟩ (fun hHeld => ?_)
            generalize w50.drew = w53 at HO918 HO921 HO924 HO929 HO933 HO936 BK911 BK930 HB hHeld ⊢
            refine take_ (i := 0) (N := some 40) (v := ?_) (a' := ?_) #[true, false, false, false, false] rfl rfl (by kernel_rfl) (fun _ _ _ h => h) (Or.inl ⟨by rfl, ?_⟩) hHeld ?_ ?_
            rotate_left
            · rintro w' ⟨s0, s1, s2, s3, s4, s5⟩
              go_simp
              with_reducible rfl
            rotate_left
            · simp only [Act.put, List.setIfInBounds_toArray, List.set_cons_zero, List.set_cons_succ, i64_w, i32_w]
              rfl
            refine take_ (i := 1) (N := some 41) (v := ?_) (a' := ?_) #[true, true, false, false, false] rfl rfl (by kernel_rfl) (fun _ _ _ h => h) (Or.inl ⟨by rfl, ?_⟩) hHeld ?_ ?_
            rotate_left
            · rintro w' ⟨s0, s1, s2, s3, s4, s5⟩
              go_simp
              with_reducible rfl
            rotate_left
            · simp only [Act.put, List.setIfInBounds_toArray, List.set_cons_zero, List.set_cons_succ, i64_w, i32_w]
              rfl
            refine one_ (i := 2) (N := some 42) #[true, true, true, false, false] rfl rfl (by kernel_rfl) (by decide) (fun K hK => ?_)
            refine goes_ Try.func43 (by kernel_rfl) rfl #[.agg #[.int .i64 a0_0, .int .i64 a0_1, .slice A0_2 l0_2.length c0_2]] (by rfl) rfl rfl arr_ ?_
            with_reducible refine (laws_toPlan.calls k a0_0 a0_1 _ _ l0_2 t938 t939 t940 _ ?side1 ?side2 A22.out).mono ?_
            (case side1 => exact kc_ (Kd.C_below HR0_2.out HB.out))
            (case side2 => exact HC0_2.out)
            rintro e w54 ⟨v941, rfl, ho0, hb⟩
            refine ⟨_, rfl, ?_⟩
            have n0_ := Aside0.mk (Kd.R_elder' (by (with_reducible repeat (first | apply Kd.R_alloc | apply Kd.R_drewN | apply Kd.R_drew)); exact HO918.out) (Kd.R_base ho0) hb)
            have n1_ := Aside0.mk (Kd.R_below (by (with_reducible repeat (first | apply Kd.R_alloc | apply Kd.R_drewN | apply Kd.R_drew)); exact HO921.out) hb)
            have n2_ := Aside0.mk (Kd.R_below (by (with_reducible repeat (first | apply Kd.R_alloc | apply Kd.R_drewN | apply Kd.R_drew)); exact HO924.out) hb)
            have n3_ := Aside0.mk (Kd.R_elder' (by (with_reducible repeat (first | apply Kd.R_alloc | apply Kd.R_drewN | apply Kd.R_drew)); exact HO929.out) (Kd.R_base ho0) hb)
            have n4_ := Aside0.mk (Kd.R_below (by (with_reducible repeat (first | apply Kd.R_alloc | apply Kd.R_drewN | apply Kd.R_drew)); exact HO933.out) hb)
            have n5_ := Aside0.mk (Kd.R_below (by (with_reducible repeat (first | apply Kd.R_alloc | apply Kd.R_drewN | apply Kd.R_drew)); exact HO936.out) hb)
            have n6_ := Aside0.mk (Kd.R_lower (Kd.R_new' (Kd.R_new' ho0 (Kd.R_lt (by (with_reducible repeat (first | apply Kd.R_alloc | apply Kd.R_drewN | apply Kd.R_drew)); exact HO918.out))) (Kd.R_lt (by (with_reducible repeat (first | apply Kd.R_alloc | apply Kd.R_drewN | apply Kd.R_drew)); exact HO929.out))) (below_size (hb2_ HB.out GE911.out GE930.out)))
            have n7_ := Aside0.mk (bb_ BK911.out hb)
            have n8_ := Aside0.mk (bb_ BK930.out hb)
            have n9_ := Aside0.mk (below_step (hb2_ HB.out GE911.out GE930.out) hb)
            clear HO918
            clear HO921
            clear HO924
            clear HO929
            clear HO933
            clear HO936
            clear BK911
            clear BK930
            clear HB
            have HO918 := n0_
            have HO921 := n1_
            have HO924 := n2_
            have HO929 := n3_
            have HO933 := n4_
            have HO936 := n5_
            have HO942 := n6_
            have BK911 := n7_
            have BK930 := n8_
            have HB := n9_
            clear n0_ n1_ n2_ n3_ n4_ n5_ n6_ n7_ n8_ n9_
            (try clear hb)
            (try clear hb2)
            (try clear hk)
            (try clear hi)
            (try clear ho0)
            obtain ⟨Ao55, co55, eo55⟩ := Kd.R_slice HO942.out
            (first | subst eo55 | (injection eo55 with f1_ f2_ f3_; have f4_ := f1_.symm; have f5_ := f3_.symm; clear f1_ f2_ f3_; subst f4_; subst f5_))
            refine hK.out _ _ ⟨(blk_cell BK930.out 0).trans rfl, (blk_cell BK930.out 1).trans rfl, (blk_cell BK930.out 2).trans rfl, (blk_cell BK911.out 0).trans rfl, (blk_cell BK911.out 1).trans rfl, (blk_cell BK911.out 2).trans rfl⟩ (fun hHeld => ?_)
            clear hK K
            refine norm_ (a' := ?_) ?_ ?_
            rotate_left
            · show Act.put _ (some 42) _ = _
              simp only [Act.put, List.setIfInBounds_toArray, List.set_cons_zero, List.set_cons_succ, i64_w, i32_w]
              rfl
            refine one_ (i := 3) (N := some 43) #[true, true, true, true, false] rfl rfl (by kernel_rfl) (by decide) (fun K hK => ?_)
            refine goes_ Try.func44 (by kernel_rfl) rfl #[.agg #[.int .i64 t925, .int .i64 t926, .slice Ao46 t927.length co46], .agg #[.int .i64 t938, .int .i64 t939, .slice Ao55 t940.length co55]] (by rfl) rfl rfl arr_ ?_
            with_reducible refine (laws_eqPlan.calls k t925 t926 _ _ t927 t938 t939 _ _ t940 true _ ?side1 ?side2 ?side3 ?side4 A23.out).mono ?_
            (case side1 => repeat (first | exact (Kd.R_reads' HO929.out).2.2 | (with_reducible refine Kd.C_alloc ?_ _) | (with_reducible refine Kd.C_drewN ?_ _) | (with_reducible refine Kd.C_drew ?_)))
            (case side2 => exact (Kd.R_reads' HO929.out).2.1)
            (case side3 => repeat (first | exact (Kd.R_reads' HO942.out).2.2 | (with_reducible refine Kd.C_alloc ?_ _) | (with_reducible refine Kd.C_drewN ?_ _) | (with_reducible refine Kd.C_drew ?_)))
            (case side4 => exact (Kd.R_reads' HO942.out).2.1)
            rintro e w56 ⟨rfl, hb⟩
            refine ⟨_, rfl, ?_⟩
            have n0_ := Aside0.mk (Kd.R_below (by (with_reducible repeat (first | apply Kd.R_alloc | apply Kd.R_drewN | apply Kd.R_drew)); exact HO918.out) hb)
            have n1_ := Aside0.mk (Kd.R_below (by (with_reducible repeat (first | apply Kd.R_alloc | apply Kd.R_drewN | apply Kd.R_drew)); exact HO921.out) hb)
            have n2_ := Aside0.mk (Kd.R_below (by (with_reducible repeat (first | apply Kd.R_alloc | apply Kd.R_drewN | apply Kd.R_drew)); exact HO924.out) hb)
            have n3_ := Aside0.mk (Kd.R_below (by (with_reducible repeat (first | apply Kd.R_alloc | apply Kd.R_drewN | apply Kd.R_drew)); exact HO929.out) hb)
            have n4_ := Aside0.mk (Kd.R_below (by (with_reducible repeat (first | apply Kd.R_alloc | apply Kd.R_drewN | apply Kd.R_drew)); exact HO933.out) hb)
            have n5_ := Aside0.mk (Kd.R_below (by (with_reducible repeat (first | apply Kd.R_alloc | apply Kd.R_drewN | apply Kd.R_drew)); exact HO936.out) hb)
            have n6_ := Aside0.mk (Kd.R_below (by (with_reducible repeat (first | apply Kd.R_alloc | apply Kd.R_drewN | apply Kd.R_drew)); exact HO942.out) hb)
            have n7_ := Aside0.mk (bb_ BK911.out hb)
            have n8_ := Aside0.mk (bb_ BK930.out hb)
            have n9_ := Aside0.mk (below_step (hb2_ HB.out GE911.out GE930.out) hb)
            clear HO918
            clear HO921
            clear HO924
            clear HO929
            clear HO933
            clear HO936
            clear HO942
            clear BK911
            clear BK930
            clear HB
            have HO918 := n0_
            have HO921 := n1_
            have HO924 := n2_
            have HO929 := n3_
            have HO933 := n4_
            have HO936 := n5_
            have HO942 := n6_
            have BK911 := n7_
            have BK930 := n8_
            have HB := n9_
            clear n0_ n1_ n2_ n3_ n4_ n5_ n6_ n7_ n8_ n9_
            (try clear hb)
            (try clear hb2)
            (try clear hk)
            (try clear hi)
            refine hK.out _ _ ⟨(blk_cell BK930.out 0).trans rfl, (blk_cell BK930.out 1).trans rfl, (blk_cell BK930.out 2).trans rfl, (blk_cell BK911.out 0).trans rfl, (blk_cell BK911.out 1).trans rfl, (blk_cell BK911.out 2).trans rfl⟩ (fun hHeld => ?_)
            clear hK K
            refine norm_ (a' := ?_) ?_ ?_
            rotate_left
            · show Act.put _ (some 43) _ = _
              simp only [Act.put, List.setIfInBounds_toArray, List.set_cons_zero, List.set_cons_succ, i64_w, i32_w]
              rfl
            refine pure_ (i := 4) (N := some 44) (v := ?_) (a' := ?_) #[true, true, true, true, true] rfl rfl (by kernel_rfl) (fun _ _ _ h => h) (Or.inl ⟨by rfl, ?_⟩) ?_ ?_
            rotate_left
            · intro w'
              go_simp
              with_reducible rfl
            rotate_left
            · simp only [Act.put, List.setIfInBounds_toArray, List.set_cons_zero, List.set_cons_succ, i64_w, i32_w]
              rfl
            refine done_ (by kernel_rfl) ?_
            go_upto_region 21 with (first | ((with_reducible refine gate_callee (f := 25) rfl ?_); refine goesL_ (some 47) rfl rfl Try.func25 (by kernel_rfl) rfl #[.slice A1 l1.length c1] rfl arr_ ?_; (with_reducible refine (laws_toFrameS.calls k _ _ l1 t944 _ ?side1 ?side2 A25.out).mono ?_); (case side1 => exact kc_ (Kd.C_below HR1.out HB.out)); (case side2 => exact HC1.out); rintro e w57 ⟨v945, rfl, ho0, hb⟩; refine ⟨_, rfl, ?_⟩; have n0_ := Aside0.mk (Kd.R_below (by (with_reducible repeat (first | apply Kd.R_alloc | apply Kd.R_drewN | apply Kd.R_drew)); exact HO918.out) hb); have n1_ := Aside0.mk (Kd.R_elder' (by (with_reducible repeat (first | apply Kd.R_alloc | apply Kd.R_drewN | apply Kd.R_drew)); exact HO921.out) (Kd.R_base ho0) hb); have n2_ := Aside0.mk (Kd.R_below (by (with_reducible repeat (first | apply Kd.R_alloc | apply Kd.R_drewN | apply Kd.R_drew)); exact HO924.out) hb); have n3_ := Aside0.mk (Kd.R_below (by (with_reducible repeat (first | apply Kd.R_alloc | apply Kd.R_drewN | apply Kd.R_drew)); exact HO929.out) hb); have n4_ := Aside0.mk (Kd.R_elder' (by (with_reducible repeat (first | apply Kd.R_alloc | apply Kd.R_drewN | apply Kd.R_drew)); exact HO933.out) (Kd.R_base ho0) hb); have n5_ := Aside0.mk (Kd.R_below (by (with_reducible repeat (first | apply Kd.R_alloc | apply Kd.R_drewN | apply Kd.R_drew)); exact HO936.out) hb); have n6_ := Aside0.mk (Kd.R_below (by (with_reducible repeat (first | apply Kd.R_alloc | apply Kd.R_drewN | apply Kd.R_drew)); exact HO942.out) hb); have n7_ := Aside0.mk (Kd.R_lower (Kd.R_new' (Kd.R_new' ho0 (Kd.R_lt (by (with_reducible repeat (first | apply Kd.R_alloc | apply Kd.R_drewN | apply Kd.R_drew)); exact HO921.out))) (Kd.R_lt (by (with_reducible repeat (first | apply Kd.R_alloc | apply Kd.R_drewN | apply Kd.R_drew)); exact HO933.out))) (below_size (hb2_ HB.out GE911.out GE930.out))); have n8_ := Aside0.mk (bb_ BK911.out hb); have n9_ := Aside0.mk (bb_ BK930.out hb); have n10_ := Aside0.mk (below_step (hb2_ HB.out GE911.out GE930.out) hb); clear HO918; clear HO921; clear HO924; clear HO929; clear HO933; clear HO936; clear HO942; clear BK911; clear BK930; clear HB; have HO918 := n0_; have HO921 := n1_; have HO924 := n2_; have HO929 := n3_; have HO933 := n4_; have HO936 := n5_; have HO942 := n6_; have HO946 := n7_; have BK911 := n8_; have BK930 := n9_; have HB := n10_; clear n0_ n1_ n2_ n3_ n4_ n5_ n6_ n7_ n8_ n9_ n10_; (try clear hb); (try clear hb2); (try clear hk); (try clear hi); (try clear ho0); obtain ⟨Ao58, co58, eo58⟩ := Kd.R_slice HO946.out; subst eo58) | ((with_reducible refine gate_callee (f := 27) rfl ?_); refine goesL_ (some 48) rfl rfl Try.func27 (by kernel_rfl) rfl #[.slice Ao49 t931.length co49, .slice Ao58 t944.length co58] rfl arr_ ?_; (with_reducible refine (laws_eqFrameS.calls k _ _ t931 _ _ t944 true _ ?side1 ?side2 ?side3 ?side4 A26.out).mono ?_); (case side1 => repeat (first | exact (Kd.R_reads' HO933.out).2.2 | (with_reducible refine Kd.C_alloc ?_ _) | (with_reducible refine Kd.C_drewN ?_ _) | (with_reducible refine Kd.C_drew ?_))); (case side2 => exact (Kd.R_reads' HO933.out).2.1); (case side3 => repeat (first | exact (Kd.R_reads' HO946.out).2.2 | (with_reducible refine Kd.C_alloc ?_ _) | (with_reducible refine Kd.C_drewN ?_ _) | (with_reducible refine Kd.C_drew ?_))); (case side4 => exact (Kd.R_reads' HO946.out).2.1); rintro e w59 ⟨rfl, hb⟩; refine ⟨_, rfl, ?_⟩; have n0_ := Aside0.mk (Kd.R_below (by (with_reducible repeat (first | apply Kd.R_alloc | apply Kd.R_drewN | apply Kd.R_drew)); exact HO918.out) hb); have n1_ := Aside0.mk (Kd.R_below (by (with_reducible repeat (first | apply Kd.R_alloc | apply Kd.R_drewN | apply Kd.R_drew)); exact HO921.out) hb); have n2_ := Aside0.mk (Kd.R_below (by (with_reducible repeat (first | apply Kd.R_alloc | apply Kd.R_drewN | apply Kd.R_drew)); exact HO924.out) hb); have n3_ := Aside0.mk (Kd.R_below (by (with_reducible repeat (first | apply Kd.R_alloc | apply Kd.R_drewN | apply Kd.R_drew)); exact HO929.out) hb); have n4_ := Aside0.mk (Kd.R_below (by (with_reducible repeat (first | apply Kd.R_alloc | apply Kd.R_drewN | apply Kd.R_drew)); exact HO933.out) hb); have n5_ := Aside0.mk (Kd.R_below (by (with_reducible repeat (first | apply Kd.R_alloc | apply Kd.R_drewN | apply Kd.R_drew)); exact HO936.out) hb); have n6_ := Aside0.mk (Kd.R_below (by (with_reducible repeat (first | apply Kd.R_alloc | apply Kd.R_drewN | apply Kd.R_drew)); exact HO942.out) hb); have n7_ := Aside0.mk (Kd.R_below (by (with_reducible repeat (first | apply Kd.R_alloc | apply Kd.R_drewN | apply Kd.R_drew)); exact HO946.out) hb); have n8_ := Aside0.mk (bb_ BK911.out hb); have n9_ := Aside0.mk (bb_ BK930.out hb); have n10_ := Aside0.mk (below_step (hb2_ HB.out GE911.out GE930.out) hb); clear HO918; clear HO921; clear HO924; clear HO929; clear HO933; clear HO936; clear HO942; clear HO946; clear BK911; clear BK930; clear HB; have HO918 := n0_; have HO921 := n1_; have HO924 := n2_; have HO929 := n3_; have HO933 := n4_; have HO936 := n5_; have HO942 := n6_; have HO946 := n7_; have BK911 := n8_; have BK930 := n9_; have HB := n10_; clear n0_ n1_ n2_ n3_ n4_ n5_ n6_ n7_ n8_ n9_ n10_; (try clear hb); (try clear hb2); (try clear hk); (try clear hi); have hcz60_0 := bc_ BK930.out 0 (.int .i64 t925) rfl; have hcz60_1 := bc_ BK930.out 1 (.int .i64 t926) rfl; have hcz60_2 := bc_ BK930.out 2 (.slice Ao46 t927.length co46) rfl; have hfz60_0 := blk_frozen BK930.out 0; have hfz60_1 := blk_frozen BK930.out 1; have hfz60_2 := blk_frozen BK930.out 2) | ((with_reducible refine gate_callee (f := 45) rfl ?_); refine goesL_ (some 52) rfl rfl Try.func45 (by kernel_rfl) rfl #[.agg #[.int .i64 t925, .int .i64 t926, .slice Ao46 t927.length co46], .int .i64 1] rfl arr_ ?_; (with_reducible refine (laws_markPlan.calls k t925 t926 (fun k_ => some k_ = (.slice Ao46 t927.length co46 : Value).ownBlock) (.slice Ao46 t927.length co46) t927 1 t948 t949 w _ ?side1 ?side2 A28.out).mono ?_); (case side1 => repeat (first | (with_reducible first | exact HB.out | apply below_alloc | apply pw_below_drewN | apply below_drew1 | refine below_set ?_ GE911.out | refine below_set ?_ GE930.out) | exact HB.out)); (case side2 => exact Kd.R_tight rfl HO929.out); rintro e w61 ⟨rfl, hy0, hb, hkp⟩; refine ⟨_, rfl, ?_⟩; have n0_ := Aside0.mk (blk_kept (bk_ BK911.out) hkp (fun hs_ => (fun e_ => (Kd.R_ne HO929.out BK911.out (by decide)) e_) hs_)); have n1_ := Aside0.mk (Kd.R_mono (ok' := fun k_ => some k_ ≠ (.slice Ao46 t927.length co46 : Value).ownBlock ∧ some k_ ≠ (.slice Ao55 t940.length co55 : Value).ownBlock) (Kd.R_keptB (HO918.out) hkp (fun k_ hk_ hs_ => by first | exact (hk_.1.2) hs_ | exact hk_ hs_ | exact hk_.1 hs_ | exact hk_.2 hs_ | exact hk_.1.1 hs_ | exact hk_.1.2 hs_ | exact hk_.2.1 hs_ | exact hk_.2.2 hs_ | exact hk_.1.1.1 hs_ | exact hk_.1.1.2 hs_ | exact hk_.1.2.1 hs_ | exact hk_.1.2.2 hs_ | exact hk_.1.1.1.1 hs_ | exact hk_.1.1.1.2 hs_)) (fun k_ hk_ => by first | exact ⟨hk_.1.1.2, hk_.1.2⟩ | (repeat (first | exact hk_ | exact hk_.1 | exact hk_.2 | exact hk_.1.1 | exact hk_.1.2 | exact hk_.2.1 | exact hk_.2.2 | exact hk_.1.1.1 | exact hk_.1.1.2 | exact hk_.1.2.1 | exact hk_.1.2.2 | exact hk_.1.1.1.1 | exact hk_.1.1.1.2 | (refine ⟨?_, ?_⟩))))); have n2_ := Aside0.mk (Kd.R_mono (ok' := fun k_ => some k_ ≠ (.slice Ao49 t931.length co49 : Value).ownBlock ∧ some k_ ≠ (.slice Ao58 t944.length co58 : Value).ownBlock) (Kd.R_keptB ((Kd.R_apart' HO921.out (Kd.R_typed HO929.out) (by decide))) hkp (fun k_ hk_ hs_ => by first | exact (hk_.2) hs_ | exact hk_ hs_ | exact hk_.1 hs_ | exact hk_.2 hs_ | exact hk_.1.1 hs_ | exact hk_.1.2 hs_ | exact hk_.2.1 hs_ | exact hk_.2.2 hs_ | exact hk_.1.1.1 hs_ | exact hk_.1.1.2 hs_ | exact hk_.1.2.1 hs_ | exact hk_.1.2.2 hs_ | exact hk_.1.1.1.1 hs_ | exact hk_.1.1.1.2 hs_)) (fun k_ hk_ => by first | exact ⟨hk_.1.1.1.2, hk_.1.1.2⟩ | (repeat (first | exact hk_ | exact hk_.1 | exact hk_.2 | exact hk_.1.1 | exact hk_.1.2 | exact hk_.2.1 | exact hk_.2.2 | exact hk_.1.1.1 | exact hk_.1.1.2 | exact hk_.1.2.1 | exact hk_.1.2.2 | exact hk_.1.1.1.1 | exact hk_.1.1.1.2 | (refine ⟨?_, ?_⟩))))); have n3_ := Aside0.mk (Kd.R_mono (ok' := fun k_ => some k_ ≠ (.slice Ao51 t934.length co51 : Value).ownBlock) (Kd.R_keptB ((Kd.R_apart' HO924.out (Kd.R_typed HO929.out) (by decide))) hkp (fun k_ hk_ hs_ => by first | exact (hk_.2) hs_ | exact hk_ hs_ | exact hk_.1 hs_ | exact hk_.2 hs_ | exact hk_.1.1 hs_ | exact hk_.1.2 hs_ | exact hk_.2.1 hs_ | exact hk_.2.2 hs_ | exact hk_.1.1.1 hs_ | exact hk_.1.1.2 hs_ | exact hk_.1.2.1 hs_ | exact hk_.1.2.2 hs_ | exact hk_.1.1.1.1 hs_ | exact hk_.1.1.1.2 hs_)) (fun k_ hk_ => by first | exact hk_.1.1.2 | (repeat (first | exact hk_ | exact hk_.1 | exact hk_.2 | exact hk_.1.1 | exact hk_.1.2 | exact hk_.2.1 | exact hk_.2.2 | exact hk_.1.1.1 | exact hk_.1.1.2 | exact hk_.1.2.1 | exact hk_.1.2.2 | exact hk_.1.1.1.1 | exact hk_.1.1.1.2 | (refine ⟨?_, ?_⟩))))); have n4_ := Aside0.mk (Kd.R_reok rfl hy0 (fun k_ e_ => HO929.out.1 k_ e_)); have n5_ := Aside0.mk (blk_kept (bk_ BK930.out) hkp (fun hs_ => (fun e_ => (Kd.R_ne HO929.out BK930.out (by decide)) e_) hs_)); have n6_ := Aside0.mk (Kd.R_mono (ok' := fun k_ => some k_ ≠ (.slice Ao39 t919.length co39 : Value).ownBlock ∧ some k_ ≠ (.slice Ao58 t944.length co58 : Value).ownBlock) (Kd.R_keptB ((Kd.R_apart' HO933.out (Kd.R_typed HO929.out) (by decide))) hkp (fun k_ hk_ hs_ => by first | exact (hk_.2) hs_ | exact hk_ hs_ | exact hk_.1 hs_ | exact hk_.2 hs_ | exact hk_.1.1 hs_ | exact hk_.1.2 hs_ | exact hk_.2.1 hs_ | exact hk_.2.2 hs_ | exact hk_.1.1.1 hs_ | exact hk_.1.1.2 hs_ | exact hk_.1.2.1 hs_ | exact hk_.1.2.2 hs_ | exact hk_.1.1.1.1 hs_ | exact hk_.1.1.1.2 hs_)) (fun k_ hk_ => by first | exact ⟨hk_.1.1.1.2, hk_.1.1.2⟩ | (repeat (first | exact hk_ | exact hk_.1 | exact hk_.2 | exact hk_.1.1 | exact hk_.1.2 | exact hk_.2.1 | exact hk_.2.2 | exact hk_.1.1.1 | exact hk_.1.1.2 | exact hk_.1.2.1 | exact hk_.1.2.2 | exact hk_.1.1.1.1 | exact hk_.1.1.1.2 | (refine ⟨?_, ?_⟩))))); have n7_ := Aside0.mk (Kd.R_mono (ok' := fun k_ => some k_ ≠ (.slice Ao52 t922.length co52 : Value).ownBlock) (Kd.R_keptB ((Kd.R_apart' HO936.out (Kd.R_typed HO929.out) (by decide))) hkp (fun k_ hk_ hs_ => by first | exact (hk_.2) hs_ | exact hk_ hs_ | exact hk_.1 hs_ | exact hk_.2 hs_ | exact hk_.1.1 hs_ | exact hk_.1.2 hs_ | exact hk_.2.1 hs_ | exact hk_.2.2 hs_ | exact hk_.1.1.1 hs_ | exact hk_.1.1.2 hs_ | exact hk_.1.2.1 hs_ | exact hk_.1.2.2 hs_ | exact hk_.1.1.1.1 hs_ | exact hk_.1.1.1.2 hs_)) (fun k_ hk_ => by first | exact hk_.1.1.2 | (repeat (first | exact hk_ | exact hk_.1 | exact hk_.2 | exact hk_.1.1 | exact hk_.1.2 | exact hk_.2.1 | exact hk_.2.2 | exact hk_.1.1.1 | exact hk_.1.1.2 | exact hk_.1.2.1 | exact hk_.1.2.2 | exact hk_.1.1.1.1 | exact hk_.1.1.1.2 | (refine ⟨?_, ?_⟩))))); have n8_ := Aside0.mk (Kd.R_mono (ok' := fun k_ => some k_ ≠ (.slice Ao38 t916.length co38 : Value).ownBlock ∧ some k_ ≠ (.slice Ao46 t927.length co46 : Value).ownBlock) (Kd.R_keptB (HO942.out) hkp (fun k_ hk_ hs_ => by first | exact (hk_.2) hs_ | exact hk_ hs_ | exact hk_.1 hs_ | exact hk_.2 hs_ | exact hk_.1.1 hs_ | exact hk_.1.2 hs_ | exact hk_.2.1 hs_ | exact hk_.2.2 hs_ | exact hk_.1.1.1 hs_ | exact hk_.1.1.2 hs_ | exact hk_.1.2.1 hs_ | exact hk_.1.2.2 hs_ | exact hk_.1.1.1.1 hs_ | exact hk_.1.1.1.2 hs_)) (fun k_ hk_ => by first | exact ⟨hk_.1.1.2, hk_.1.2⟩ | (repeat (first | exact hk_ | exact hk_.1 | exact hk_.2 | exact hk_.1.1 | exact hk_.1.2 | exact hk_.2.1 | exact hk_.2.2 | exact hk_.1.1.1 | exact hk_.1.1.2 | exact hk_.1.2.1 | exact hk_.1.2.2 | exact hk_.1.1.1.1 | exact hk_.1.1.1.2 | (refine ⟨?_, ?_⟩))))); have n9_ := Aside0.mk (Kd.R_mono (ok' := fun k_ => some k_ ≠ (.slice Ao39 t919.length co39 : Value).ownBlock ∧ some k_ ≠ (.slice Ao49 t931.length co49 : Value).ownBlock) (Kd.R_keptB ((Kd.R_apart' HO946.out (Kd.R_typed HO929.out) (by decide))) hkp (fun k_ hk_ hs_ => by first | exact (hk_.2) hs_ | exact hk_ hs_ | exact hk_.1 hs_ | exact hk_.2 hs_ | exact hk_.1.1 hs_ | exact hk_.1.2 hs_ | exact hk_.2.1 hs_ | exact hk_.2.2 hs_ | exact hk_.1.1.1 hs_ | exact hk_.1.1.2 hs_ | exact hk_.1.2.1 hs_ | exact hk_.1.2.2 hs_ | exact hk_.1.1.1.1 hs_ | exact hk_.1.1.1.2 hs_)) (fun k_ hk_ => by first | exact ⟨hk_.1.1.1.2, hk_.1.1.2⟩ | (repeat (first | exact hk_ | exact hk_.1 | exact hk_.2 | exact hk_.1.1 | exact hk_.1.2 | exact hk_.2.1 | exact hk_.2.2 | exact hk_.1.1.1 | exact hk_.1.1.2 | exact hk_.1.2.1 | exact hk_.1.2.2 | exact hk_.1.1.1.1 | exact hk_.1.1.1.2 | (refine ⟨?_, ?_⟩))))); have n10_ := Aside0.mk (hb); clear BK911; clear HO918; clear HO921; clear HO924; clear HO929; clear BK930; clear HO933; clear HO936; clear HO942; clear HO946; clear HB; have BK911 := n0_; have HO918 := n1_; have HO921 := n2_; have HO924 := n3_; have HO929 := n4_; have BK930 := n5_; have HO933 := n6_; have HO936 := n7_; have HO942 := n8_; have HO946 := n9_; have HB := n10_; clear n0_ n1_ n2_ n3_ n4_ n5_ n6_ n7_ n8_ n9_ n10_; (try clear hb); (try clear hkp); (try clear hy0)) | ((with_reducible refine gate_callee (f := 28) rfl ?_); refine goesL_ (some 55) rfl rfl Try.func28 (by kernel_rfl) rfl #[.slice Ao49 t931.length co49, .int .i64 t948] rfl arr_ ?_; (with_reducible refine (laws_markFrameS.calls k (fun k_ => some k_ = (.slice Ao49 t931.length co49 : Value).ownBlock) (.slice Ao49 t931.length co49) t931 t948 t950 t951 w _ ?side1 ?side2 A29.out).mono ?_); (case side1 => repeat (first | (with_reducible first | exact HB.out | apply below_alloc | apply pw_below_drewN | apply below_drew1 | refine below_set ?_ GE911.out | refine below_set ?_ GE930.out) | exact HB.out)); (case side2 => exact Kd.R_tight rfl HO933.out); rintro e w62 ⟨rfl, hy0, hb, hkp⟩; refine ⟨_, rfl, ?_⟩; have n0_ := Aside0.mk (blk_kept (bk_ BK911.out) hkp (fun hs_ => (fun e_ => (Kd.R_ne HO933.out BK911.out (by decide)) e_) hs_)); have n1_ := Aside0.mk (Kd.R_mono (ok' := fun k_ => some k_ ≠ (.slice Ao46 t927.length co46 : Value).ownBlock ∧ some k_ ≠ (.slice Ao55 t940.length co55 : Value).ownBlock) (Kd.R_keptB ((Kd.R_apart' HO918.out (Kd.R_typed HO933.out) (by decide))) hkp (fun k_ hk_ hs_ => by first | exact (hk_.2) hs_ | exact hk_ hs_ | exact hk_.1 hs_ | exact hk_.2 hs_ | exact hk_.1.1 hs_ | exact hk_.1.2 hs_ | exact hk_.2.1 hs_ | exact hk_.2.2 hs_ | exact hk_.1.1.1 hs_ | exact hk_.1.1.2 hs_ | exact hk_.1.2.1 hs_ | exact hk_.1.2.2 hs_ | exact hk_.1.1.1.1 hs_ | exact hk_.1.1.1.2 hs_)) (fun k_ hk_ => by first | exact ⟨hk_.1.1.1, hk_.1.1.2⟩ | (repeat (first | exact hk_ | exact hk_.1 | exact hk_.2 | exact hk_.1.1 | exact hk_.1.2 | exact hk_.2.1 | exact hk_.2.2 | exact hk_.1.1.1 | exact hk_.1.1.2 | exact hk_.1.2.1 | exact hk_.1.2.2 | exact hk_.1.1.1.1 | exact hk_.1.1.1.2 | (refine ⟨?_, ?_⟩))))); have n2_ := Aside0.mk (Kd.R_mono (ok' := fun k_ => some k_ ≠ (.slice Ao49 t931.length co49 : Value).ownBlock ∧ some k_ ≠ (.slice Ao58 t944.length co58 : Value).ownBlock) (Kd.R_keptB (HO921.out) hkp (fun k_ hk_ hs_ => by first | exact (hk_.1) hs_ | exact hk_ hs_ | exact hk_.1 hs_ | exact hk_.2 hs_ | exact hk_.1.1 hs_ | exact hk_.1.2 hs_ | exact hk_.2.1 hs_ | exact hk_.2.2 hs_ | exact hk_.1.1.1 hs_ | exact hk_.1.1.2 hs_ | exact hk_.1.2.1 hs_ | exact hk_.1.2.2 hs_ | exact hk_.1.1.1.1 hs_ | exact hk_.1.1.1.2 hs_)) (fun k_ hk_ => by first | exact ⟨hk_.1.1, hk_.1.2⟩ | (repeat (first | exact hk_ | exact hk_.1 | exact hk_.2 | exact hk_.1.1 | exact hk_.1.2 | exact hk_.2.1 | exact hk_.2.2 | exact hk_.1.1.1 | exact hk_.1.1.2 | exact hk_.1.2.1 | exact hk_.1.2.2 | exact hk_.1.1.1.1 | exact hk_.1.1.1.2 | (refine ⟨?_, ?_⟩))))); have n3_ := Aside0.mk (Kd.R_mono (ok' := fun k_ => some k_ ≠ (.slice Ao51 t934.length co51 : Value).ownBlock) (Kd.R_keptB ((Kd.R_apart' HO924.out (Kd.R_typed HO933.out) (by decide))) hkp (fun k_ hk_ hs_ => by first | exact (hk_.2) hs_ | exact hk_ hs_ | exact hk_.1 hs_ | exact hk_.2 hs_ | exact hk_.1.1 hs_ | exact hk_.1.2 hs_ | exact hk_.2.1 hs_ | exact hk_.2.2 hs_ | exact hk_.1.1.1 hs_ | exact hk_.1.1.2 hs_ | exact hk_.1.2.1 hs_ | exact hk_.1.2.2 hs_ | exact hk_.1.1.1.1 hs_ | exact hk_.1.1.1.2 hs_)) (fun k_ hk_ => by first | exact hk_.1.1 | (repeat (first | exact hk_ | exact hk_.1 | exact hk_.2 | exact hk_.1.1 | exact hk_.1.2 | exact hk_.2.1 | exact hk_.2.2 | exact hk_.1.1.1 | exact hk_.1.1.2 | exact hk_.1.2.1 | exact hk_.1.2.2 | exact hk_.1.1.1.1 | exact hk_.1.1.1.2 | (refine ⟨?_, ?_⟩))))); have n4_ := Aside0.mk (Kd.R_mono (ok' := fun k_ => some k_ ≠ (.slice Ao38 t916.length co38 : Value).ownBlock ∧ some k_ ≠ (.slice Ao55 t940.length co55 : Value).ownBlock) (Kd.R_keptB ((Kd.R_apart' HO929.out (Kd.R_typed HO933.out) (by decide))) hkp (fun k_ hk_ hs_ => by first | exact (hk_.2) hs_ | exact hk_ hs_ | exact hk_.1 hs_ | exact hk_.2 hs_ | exact hk_.1.1 hs_ | exact hk_.1.2 hs_ | exact hk_.2.1 hs_ | exact hk_.2.2 hs_ | exact hk_.1.1.1 hs_ | exact hk_.1.1.2 hs_ | exact hk_.1.2.1 hs_ | exact hk_.1.2.2 hs_ | exact hk_.1.1.1.1 hs_ | exact hk_.1.1.1.2 hs_)) (fun k_ hk_ => by first | exact ⟨hk_.1.1.1.2, hk_.1.1.2⟩ | (repeat (first | exact hk_ | exact hk_.1 | exact hk_.2 | exact hk_.1.1 | exact hk_.1.2 | exact hk_.2.1 | exact hk_.2.2 | exact hk_.1.1.1 | exact hk_.1.1.2 | exact hk_.1.2.1 | exact hk_.1.2.2 | exact hk_.1.1.1.1 | exact hk_.1.1.1.2 | (refine ⟨?_, ?_⟩))))); have n5_ := Aside0.mk (blk_kept (bk_ BK930.out) hkp (fun hs_ => (fun e_ => (Kd.R_ne HO933.out BK930.out (by decide)) e_) hs_)); have n6_ := Aside0.mk (Kd.R_reok rfl hy0 (fun k_ e_ => HO933.out.1 k_ e_)); have n7_ := Aside0.mk (Kd.R_mono (ok' := fun k_ => some k_ ≠ (.slice Ao52 t922.length co52 : Value).ownBlock) (Kd.R_keptB ((Kd.R_apart' HO936.out (Kd.R_typed HO933.out) (by decide))) hkp (fun k_ hk_ hs_ => by first | exact (hk_.2) hs_ | exact hk_ hs_ | exact hk_.1 hs_ | exact hk_.2 hs_ | exact hk_.1.1 hs_ | exact hk_.1.2 hs_ | exact hk_.2.1 hs_ | exact hk_.2.2 hs_ | exact hk_.1.1.1 hs_ | exact hk_.1.1.2 hs_ | exact hk_.1.2.1 hs_ | exact hk_.1.2.2 hs_ | exact hk_.1.1.1.1 hs_ | exact hk_.1.1.1.2 hs_)) (fun k_ hk_ => by first | exact hk_.1.1 | (repeat (first | exact hk_ | exact hk_.1 | exact hk_.2 | exact hk_.1.1 | exact hk_.1.2 | exact hk_.2.1 | exact hk_.2.2 | exact hk_.1.1.1 | exact hk_.1.1.2 | exact hk_.1.2.1 | exact hk_.1.2.2 | exact hk_.1.1.1.1 | exact hk_.1.1.1.2 | (refine ⟨?_, ?_⟩))))); have n8_ := Aside0.mk (Kd.R_mono (ok' := fun k_ => some k_ ≠ (.slice Ao38 t916.length co38 : Value).ownBlock ∧ some k_ ≠ (.slice Ao46 t927.length co46 : Value).ownBlock) (Kd.R_keptB ((Kd.R_apart' HO942.out (Kd.R_typed HO933.out) (by decide))) hkp (fun k_ hk_ hs_ => by first | exact (hk_.2) hs_ | exact hk_ hs_ | exact hk_.1 hs_ | exact hk_.2 hs_ | exact hk_.1.1 hs_ | exact hk_.1.2 hs_ | exact hk_.2.1 hs_ | exact hk_.2.2 hs_ | exact hk_.1.1.1 hs_ | exact hk_.1.1.2 hs_ | exact hk_.1.2.1 hs_ | exact hk_.1.2.2 hs_ | exact hk_.1.1.1.1 hs_ | exact hk_.1.1.1.2 hs_)) (fun k_ hk_ => by first | exact ⟨hk_.1.1.1, hk_.1.1.2⟩ | (repeat (first | exact hk_ | exact hk_.1 | exact hk_.2 | exact hk_.1.1 | exact hk_.1.2 | exact hk_.2.1 | exact hk_.2.2 | exact hk_.1.1.1 | exact hk_.1.1.2 | exact hk_.1.2.1 | exact hk_.1.2.2 | exact hk_.1.1.1.1 | exact hk_.1.1.1.2 | (refine ⟨?_, ?_⟩))))); have n9_ := Aside0.mk (Kd.R_mono (ok' := fun k_ => some k_ ≠ (.slice Ao39 t919.length co39 : Value).ownBlock ∧ some k_ ≠ (.slice Ao49 t931.length co49 : Value).ownBlock) (Kd.R_keptB (HO946.out) hkp (fun k_ hk_ hs_ => by first | exact (hk_.2) hs_ | exact hk_ hs_ | exact hk_.1 hs_ | exact hk_.2 hs_ | exact hk_.1.1 hs_ | exact hk_.1.2 hs_ | exact hk_.2.1 hs_ | exact hk_.2.2 hs_ | exact hk_.1.1.1 hs_ | exact hk_.1.1.2 hs_ | exact hk_.1.2.1 hs_ | exact hk_.1.2.2 hs_ | exact hk_.1.1.1.1 hs_ | exact hk_.1.1.1.2 hs_)) (fun k_ hk_ => by first | exact ⟨hk_.1.1, hk_.1.2⟩ | (repeat (first | exact hk_ | exact hk_.1 | exact hk_.2 | exact hk_.1.1 | exact hk_.1.2 | exact hk_.2.1 | exact hk_.2.2 | exact hk_.1.1.1 | exact hk_.1.1.2 | exact hk_.1.2.1 | exact hk_.1.2.2 | exact hk_.1.1.1.1 | exact hk_.1.1.1.2 | (refine ⟨?_, ?_⟩))))); have n10_ := Aside0.mk (hb); clear BK911; clear HO918; clear HO921; clear HO924; clear HO929; clear BK930; clear HO933; clear HO936; clear HO942; clear HO946; clear HB; have BK911 := n0_; have HO918 := n1_; have HO921 := n2_; have HO924 := n3_; have HO929 := n4_; have BK930 := n5_; have HO933 := n6_; have HO936 := n7_; have HO942 := n8_; have HO946 := n9_; have HB := n10_; clear n0_ n1_ n2_ n3_ n4_ n5_ n6_ n7_ n8_ n9_ n10_; (try clear hb); (try clear hkp); (try clear hy0)))
            (try simp only [Act.put, List.setIfInBounds_toArray, List.set_cons_zero, List.set_cons_succ])
            go_cut [63] (fun v63 wc => ∃ (kq : Nat) (x63_29 : Bool), v63 = .bool x63_29 ∧ Aside0 (laws_FnExactBusStray.j0 kq l1 t922 t934 x63_29 a0_0 a0_1 l0_2 = some r) ∧ Aside0 (kq ≤ k) ∧ Aside0 (Kd.R (Kd.int .i64) 3 wc w.heap.size (fun k_ => some k_ ≠ ((.slice Ao51 t934.length co51) : Value).ownBlock) (.slice Ao52 t922.length co52) t922) ∧ Aside0 (Kd.R (Kd.int .i64) 3 wc w.heap.size (fun k_ => some k_ ≠ ((.slice Ao52 t922.length co52) : Value).ownBlock) (.slice Ao51 t934.length co51) t934) ∧ Aside0 (Kd.R k90 90 wc w.heap.size (fun _ => True) (.slice Ao46 t927.length co46) t949) ∧ Aside0 (wc.heap[gb911]? = some (.cells #[.int .i64 a0_0, .int .i64 a0_1, (.slice A0_2 l0_2.length c0_2)] 66 (0, 0))) ∧ Aside0 (wc.heap[gb930]? = some (.cells #[.int .i64 t925, .int .i64 t926, (.slice Ao46 t927.length co46)] 59 (0, 0))) ∧ Aside0 (Below w.heap.size w wc))
            case first =>
              have H := HC30.out
              clear HC30
              by_cases c63 : t950 < 0
              · rw [if_pos c63] at H
                have c63b0 : decide (t950 < 0) = true := decide_eq_true c63
                clear c63
                (first | rw [c63b0] | (simp only [i64_w, i32_w]; rw [c63b0]) | skip)
                have H' := Aside0.mk H
                clear H
                go_wp2
                go_meet
                case rel => exact ⟨_, (true), (by first | rfl | (simp; done) | (simp [*]; done)), H', ⟨by first | omega | exact Nat.le_refl _⟩, ⟨by (with_reducible repeat (first | apply Kd.R_alloc | apply Kd.R_drewN | apply Kd.R_drew)); exact HO924.out⟩, ⟨by (with_reducible repeat (first | apply Kd.R_alloc | apply Kd.R_drewN | apply Kd.R_drew)); exact HO936.out⟩, ⟨by (with_reducible repeat (first | apply Kd.R_alloc | apply Kd.R_drewN | apply Kd.R_drew)); exact Kd.R_mono HO929.out (fun _ hk => trivial)⟩, ⟨bk_ BK911.out⟩, ⟨bk_ BK930.out⟩, ⟨hb2_ HB.out GE911.out GE930.out⟩⟩
              · rw [if_neg c63] at H
                have c63b0 : decide (t950 < 0) = false := decide_eq_false c63
                clear c63
                (first | rw [c63b0] | (simp only [i64_w, i32_w]; rw [c63b0]) | skip)
                replace H := Option.bind_eq_some_iff.mp H
                obtain ⟨t952, A640, H⟩ := H
                replace H : (laws_FnExactBusStray.j0 k l1 t922 t934 (!t952) a0_0 a0_1 l0_2) = some r := H
                have A64 := Aside0.mk A640
                clear A640
                have H' := Aside0.mk H
                clear H
                go_wp2_with (first | (go_at_call 26; (with_reducible refine (laws_eqIntS.calls k _ _ t934 _ _ t922 t952 _ ?side1 ?side2 ?side3 ?side4 A64.out).mono ?_); (case side1 => repeat (first | exact (Kd.R_reads' HO936.out).2.2 | (with_reducible refine Kd.C_alloc ?_ _) | (with_reducible refine Kd.C_drewN ?_ _) | (with_reducible refine Kd.C_drew ?_))); (case side2 => exact (Kd.R_reads' HO936.out).2.1); (case side3 => repeat (first | exact (Kd.R_reads' HO924.out).2.2 | (with_reducible refine Kd.C_alloc ?_ _) | (with_reducible refine Kd.C_drewN ?_ _) | (with_reducible refine Kd.C_drew ?_))); (case side4 => exact (Kd.R_reads' HO924.out).2.1); rintro e w' ⟨rfl, ⟨nd, rfl⟩⟩))
                go_meet
                case rel => exact ⟨_, (!t952), (by first | rfl | (simp; done) | (simp [*]; done)), H', ⟨by first | omega | exact Nat.le_refl _⟩, ⟨by (with_reducible repeat (first | apply Kd.R_alloc | apply Kd.R_drewN | apply Kd.R_drew)); exact HO924.out⟩, ⟨by (with_reducible repeat (first | apply Kd.R_alloc | apply Kd.R_drewN | apply Kd.R_drew)); exact HO936.out⟩, ⟨by (with_reducible repeat (first | apply Kd.R_alloc | apply Kd.R_drewN | apply Kd.R_drew)); exact Kd.R_mono HO929.out (fun _ hk => trivial)⟩, ⟨bk_ BK911.out⟩, ⟨bk_ BK930.out⟩, ⟨hb2_ HB.out GE911.out GE930.out⟩⟩
            case rest =>
              clear HC30
              try clear c1
              try clear c2
              try clear p2
              try clear c3
              try clear c4
              try clear c4b0
              try clear c6
              try clear c9
              try clear c9b0
              try clear c21
              try clear c23
              try clear c24
              try clear c25
              try clear c26
              try clear c27
              try clear c28
              try clear c38
              try clear c39
              try clear c42
              try clear c43
              try clear c44
              try clear c45
              try clear c63
              try clear c63b0
              try clear hcz11_0
              try clear hcz11_1
              try clear hcz11_2
              try clear hcz32_0
              try clear hcz32_1
              try clear hcz32_2
              try clear hcz35_0
              try clear hcz35_1
              try clear hcz35_2
              try clear hcz41_0
              try clear hcz41_1
              try clear hcz41_2
              try clear hcz45_0
              try clear hcz45_1
              try clear hcz45_2
              try clear hcz48_0
              try clear hcz48_1
              try clear hcz48_2
              try clear hcz60_0
              try clear hcz60_1
              try clear hcz60_2
              try clear hcz6_0
              try clear hcz6_1
              try clear hcz6_2
              try clear hfz11_0
              try clear hfz11_1
              try clear hfz11_2
              try clear hfz32_0
              try clear hfz32_1
              try clear hfz32_2
              try clear hfz35_0
              try clear hfz35_1
              try clear hfz35_2
              try clear hfz41_0
              try clear hfz41_1
              try clear hfz41_2
              try clear hfz45_0
              try clear hfz45_1
              try clear hfz45_2
              try clear hfz48_0
              try clear hfz48_1
              try clear hfz48_2
              try clear hfz60_0
              try clear hfz60_1
              try clear hfz60_2
              try clear hfz6_0
              try clear hfz6_1
              try clear hfz6_2
              obtain ⟨kq, x63_29, rfl, HA, HJ29, HO_6, HO_9, HO_931002, BK911, BK930, HB⟩ := hcut
              have hl931002_29 := (Kd.R_reads' HO_931002.out).1
              rw [hl931002_29] at HO_931002
              (try simp only [hl931002_29])
              (try simp only [hl931002_29] at BK911)
              (try simp only [hl931002_29] at BK930)
              (try simp only [hl931002_29] at HO_6)
              (try simp only [hl931002_29] at HO_9)
              cases kq with
              | zero => exact absurd HA.out (by simp [laws_FnExactBusStray.j0])
              | succ kj29 =>
                have H := HA.out
                clear HA
                simp only [laws_FnExactBusStray.j0] at H
                by_cases c65 : x63_29 = true
                · subst c65
                  have H1 : (some false) = some r := by rw [if_pos rfl] at H; exact H
                  clear H
                  have H := H1
                  clear H1
                  obtain rfl := Option.some.inj H
                  exact absurd hr_ (by decide)
                · replace c65 := Bool.eq_false_iff.mpr c65
                  subst c65
                  have H1 : ((laws_markIntS.f kj29 t934 1).bind fun bt953 => ((laws_heldIntS.f kj29 bt953.2 1).bind fun t955 => (if t955 < 0 then (some false) else (if t955 = bt953.1 then ((laws_toPlan.f kj29 a0_0 a0_1 l0_2).bind fun bt956 => ((laws_toFrameS.f kj29 l1).bind fun t961 => ((impl_BusStray.f kj29 bt956.1 bt956.2.1 bt956.2.2 t961).bind fun t964 => ((laws_eqIntS.f kj29 t964 t922).bind fun t967 => (if t967 = true then ((laws_heldIntS.f kj29 bt953.2 1).bind fun t968 => (if t968 < 0 then (some false) else (if t968 = bt953.1 then (some true) else (some false)))) else (some false)))))) else (some false))))) = some r := by rw [if_neg (show ¬ (false = true) by decide)] at H; exact H
                  clear H
                  have H := H1
                  clear H1
                  replace H := Option.bind_eq_some_iff.mp H
                  obtain ⟨⟨t953, t954⟩, A660, H⟩ := H
                  replace H : ((laws_heldIntS.f kj29 t954 1).bind fun t955 => (if t955 < 0 then (some false) else (if t955 = t953 then ((laws_toPlan.f kj29 a0_0 a0_1 l0_2).bind fun bt956 => ((laws_toFrameS.f kj29 l1).bind fun t961 => ((impl_BusStray.f kj29 bt956.1 bt956.2.1 bt956.2.2 t961).bind fun t964 => ((laws_eqIntS.f kj29 t964 t922).bind fun t967 => (if t967 = true then ((laws_heldIntS.f kj29 t954 1).bind fun t968 => (if t968 < 0 then (some false) else (if t968 = t953 then (some true) else (some false)))) else (some false)))))) else (some false)))) = some r := H
                  have A66 := Aside0.mk A660
                  clear A660
                  replace H := Option.bind_eq_some_iff.mp H
                  obtain ⟨t955, A670, H⟩ := H
                  replace H : (if t955 < 0 then (some false) else (if t955 = t953 then ((laws_toPlan.f kj29 a0_0 a0_1 l0_2).bind fun bt956 => ((laws_toFrameS.f kj29 l1).bind fun t961 => ((impl_BusStray.f kj29 bt956.1 bt956.2.1 bt956.2.2 t961).bind fun t964 => ((laws_eqIntS.f kj29 t964 t922).bind fun t967 => (if t967 = true then ((laws_heldIntS.f kj29 t954 1).bind fun t968 => (if t968 < 0 then (some false) else (if t968 = t953 then (some true) else (some false)))) else (some false)))))) else (some false))) = some r := H
                  have A67 := Aside0.mk A670
                  clear A670
                  by_cases c68 : t955 < 0
                  · rw [if_pos c68] at H
                    have c68b0 : decide (t955 < 0) = true := decide_eq_true c68
                    clear c68
                    obtain rfl := Option.some.inj H
                    exact absurd hr_ (by decide)
                  · rw [if_neg c68] at H
                    have c68b0 : decide (t955 < 0) = false := decide_eq_false c68
                    clear c68
                    by_cases c69 : t955 = t953
                    · rw [if_pos c69] at H
                      have c69b0 : (t955 == t953) = true := beq_iff_eq.mpr c69
                      have c69b1 : (t955 != t953) = false := bne_eq_false_iff_eq.mpr c69
                      clear c69
                      replace H := Option.bind_eq_some_iff.mp H
                      obtain ⟨⟨t956, t957, t958⟩, A700, H⟩ := H
                      replace H : ((laws_toFrameS.f kj29 l1).bind fun t961 => ((impl_BusStray.f kj29 t956 t957 t958 t961).bind fun t964 => ((laws_eqIntS.f kj29 t964 t922).bind fun t967 => (if t967 = true then ((laws_heldIntS.f kj29 t954 1).bind fun t968 => (if t968 < 0 then (some false) else (if t968 = t953 then (some true) else (some false)))) else (some false))))) = some r := H
                      have A70 := Aside0.mk A700
                      clear A700
                      replace H := Option.bind_eq_some_iff.mp H
                      obtain ⟨t961, A710, H⟩ := H
                      replace H : ((impl_BusStray.f kj29 t956 t957 t958 t961).bind fun t964 => ((laws_eqIntS.f kj29 t964 t922).bind fun t967 => (if t967 = true then ((laws_heldIntS.f kj29 t954 1).bind fun t968 => (if t968 < 0 then (some false) else (if t968 = t953 then (some true) else (some false)))) else (some false)))) = some r := H
                      have A71 := Aside0.mk A710
                      clear A710
                      replace H := Option.bind_eq_some_iff.mp H
                      obtain ⟨t964, A720, H⟩ := H
                      replace H : ((laws_eqIntS.f kj29 t964 t922).bind fun t967 => (if t967 = true then ((laws_heldIntS.f kj29 t954 1).bind fun t968 => (if t968 < 0 then (some false) else (if t968 = t953 then (some true) else (some false)))) else (some false))) = some r := H
                      have A72 := Aside0.mk A720
                      clear A720
                      replace H := Option.bind_eq_some_iff.mp H
                      obtain ⟨t967, A730, H⟩ := H
                      replace H : (if t967 = true then ((laws_heldIntS.f kj29 t954 1).bind fun t968 => (if t968 < 0 then (some false) else (if t968 = t953 then (some true) else (some false)))) else (some false)) = some r := H
                      have A73 := Aside0.mk A730
                      clear A730
                      by_cases c74 : t967 = true
                      · subst c74
                        have H1 : ((laws_heldIntS.f kj29 t954 1).bind fun t968 => (if t968 < 0 then (some false) else (if t968 = t953 then (some true) else (some false)))) = some r := by rw [if_pos rfl] at H; exact H
                        clear H
                        have H := H1
                        clear H1
                        replace H := Option.bind_eq_some_iff.mp H
                        obtain ⟨t968, A750, H⟩ := H
                        replace H : (if t968 < 0 then (some false) else (if t968 = t953 then (some true) else (some false))) = some r := H
                        have A75 := Aside0.mk A750
                        clear A750
                        by_cases c76 : t968 < 0
                        · rw [if_pos c76] at H
                          have c76b0 : decide (t968 < 0) = true := decide_eq_true c76
                          clear c76
                          obtain rfl := Option.some.inj H
                          exact absurd hr_ (by decide)
                        · rw [if_neg c76] at H
                          have c76b0 : decide (t968 < 0) = false := decide_eq_false c76
                          clear c76
                          by_cases c77 : t968 = t953
                          · rw [if_pos c77] at H
                            have c77b0 : (t968 == t953) = true := beq_iff_eq.mpr c77
                            have c77b1 : (t968 != t953) = false := bne_eq_false_iff_eq.mpr c77
                            clear c77
                            obtain rfl := Option.some.inj H
                            go_wp2_with (first | ((with_reducible refine gate_callee (f := 29) rfl ?_); refine goesL_ (some 66) rfl rfl Try.func29 (by kernel_rfl) rfl #[.slice Ao51 t934.length co51, .int .i64 1] rfl arr_ ?_; (with_reducible refine (laws_markIntS.calls kj29 (fun k_ => some k_ = (.slice Ao51 t934.length co51 : Value).ownBlock) (.slice Ao51 t934.length co51) t934 1 t953 t954 w _ ?side1 ?side2 A66.out).mono ?_); (case side1 => repeat (first | (with_reducible first | exact HB.out | apply below_alloc | apply pw_below_drewN | apply below_drew1 | refine below_set ?_ GE911.out | refine below_set ?_ GE930.out) | exact HB.out)); (case side2 => exact Kd.R_tight rfl HO_9.out); rintro e w78 ⟨rfl, hy0, hb, hkp⟩; refine ⟨_, rfl, ?_⟩; have n0_ := Aside0.mk (Kd.R_mono (ok' := fun k_ => some k_ ≠ (.slice Ao51 t934.length co51 : Value).ownBlock) (Kd.R_keptB (HO_6.out) hkp (fun k_ hk_ hs_ => by first | exact (hk_) hs_ | exact hk_ hs_ | exact hk_.1 hs_ | exact hk_.2 hs_ | exact hk_.1.1 hs_ | exact hk_.1.2 hs_ | exact hk_.2.1 hs_ | exact hk_.2.2 hs_ | exact hk_.1.1.1 hs_ | exact hk_.1.1.2 hs_ | exact hk_.1.2.1 hs_ | exact hk_.1.2.2 hs_ | exact hk_.1.1.1.1 hs_ | exact hk_.1.1.1.2 hs_)) (fun k_ hk_ => by first | exact hk_.1 | (repeat (first | exact hk_ | exact hk_.1 | exact hk_.2 | exact hk_.1.1 | exact hk_.1.2 | exact hk_.2.1 | exact hk_.2.2 | exact hk_.1.1.1 | exact hk_.1.1.2 | exact hk_.1.2.1 | exact hk_.1.2.2 | exact hk_.1.1.1.1 | exact hk_.1.1.1.2 | (refine ⟨?_, ?_⟩))))); have n1_ := Aside0.mk (Kd.R_reok rfl hy0 (fun k_ e_ => HO_9.out.1 k_ e_)); have n2_ := Aside0.mk (Kd.R_mono (ok' := fun k_ => True) (Kd.R_keptB ((Kd.R_apart' HO_931002.out (Kd.R_typed HO_9.out) (by decide))) hkp (fun k_ hk_ hs_ => by first | exact (hk_.2) hs_ | exact hk_ hs_ | exact hk_.1 hs_ | exact hk_.2 hs_ | exact hk_.1.1 hs_ | exact hk_.1.2 hs_ | exact hk_.2.1 hs_ | exact hk_.2.2 hs_ | exact hk_.1.1.1 hs_ | exact hk_.1.1.2 hs_ | exact hk_.1.2.1 hs_ | exact hk_.1.2.2 hs_ | exact hk_.1.1.1.1 hs_ | exact hk_.1.1.1.2 hs_)) (fun k_ hk_ => trivial)); have n3_ := Aside0.mk (blk_kept (bk_ BK911.out) hkp (fun hs_ => (fun e_ => (Kd.R_ne HO_9.out BK911.out (by decide)) e_) hs_)); have n4_ := Aside0.mk (blk_kept (bk_ BK930.out) hkp (fun hs_ => (fun e_ => (Kd.R_ne HO_9.out BK930.out (by decide)) e_) hs_)); have n5_ := Aside0.mk (hb); clear HO_6; clear HO_9; clear HO_931002; clear BK911; clear BK930; clear HB; have HO_6 := n0_; have HO_9 := n1_; have HO_931002 := n2_; have BK911 := n3_; have BK930 := n4_; have HB := n5_; clear n0_ n1_ n2_ n3_ n4_ n5_; (try clear hb); (try clear hkp); (try clear hy0)) | ((with_reducible refine gate_callee (f := 30) rfl ?_); refine goesL_ (some 69) rfl rfl Try.func30 (by kernel_rfl) rfl #[.slice Ao51 t954.length co51, .int .i64 1] rfl (by (try simp only [List.map_toArray, List.map_cons, List.map_nil]); first | done | (rw [show t954.length = t934.length from (Kd.R_reads' HO_9.out).1.symm] <;> rfl) | rfl | (simp only [List.length_drop, List.length_take]; rfl)) ?_; (with_reducible refine (laws_heldIntS.calls kj29 _ _ t954 1 t955 _ ?side1 ?side2 A67.out).mono ?_); (case side1 => repeat (first | exact (Kd.R_reads' HO_9.out).2.2 | (with_reducible refine Kd.C_alloc ?_ _) | (with_reducible refine Kd.C_drewN ?_ _) | (with_reducible refine Kd.C_drew ?_))); (case side2 => rw [show t954.length = t934.length from (Kd.R_reads' HO_9.out).1.symm]; exact (Kd.R_reads' HO_9.out).2.1); rintro e w' ⟨rfl, ⟨nd, rfl⟩⟩; refine ⟨_, rfl, ?_⟩; have hnb79 := NB911_930.out; have hnc79 := NB930_911.out; have hcz80_0 := bc_ BK911.out 0 (.int .i64 a0_0) rfl; have hcz80_1 := bc_ BK911.out 1 (.int .i64 a0_1) rfl; have hcz80_2 := bc_ BK911.out 2 (.slice A0_2 l0_2.length c0_2) rfl; have hfz80_0 := blk_frozen BK911.out 0; have hfz80_1 := blk_frozen BK911.out 1; have hfz80_2 := blk_frozen BK911.out 2) | ((with_reducible refine gate_callee (f := 43) rfl ?_); refine goesL_ (some 76) rfl rfl Try.func43 (by kernel_rfl) rfl #[.agg #[.int .i64 a0_0, .int .i64 a0_1, .slice A0_2 l0_2.length c0_2]] rfl arr_ ?_; (with_reducible refine (laws_toPlan.calls kj29 a0_0 a0_1 _ _ l0_2 t956 t957 t958 _ ?side1 ?side2 A70.out).mono ?_); (case side1 => repeat (first | exact (Kd.C_below HR0_2.out (hb2_ HB.out GE911.out GE930.out)) | (with_reducible refine Kd.C_alloc ?_ _) | (with_reducible refine Kd.C_drewN ?_ _) | (with_reducible refine Kd.C_drew ?_))); (case side2 => exact HC0_2.out); rintro e w81 ⟨v959, rfl, ho0, hb⟩; refine ⟨_, rfl, ?_⟩; have n0_ := Aside0.mk (Kd.R_below (by (with_reducible repeat (first | apply Kd.R_alloc | apply Kd.R_drewN | apply Kd.R_drew)); exact HO_6.out) hb); have n1_ := Aside0.mk (Kd.R_below (by (with_reducible repeat (first | apply Kd.R_alloc | apply Kd.R_drewN | apply Kd.R_drew)); exact HO_9.out) hb); have n2_ := Aside0.mk (Kd.R_elder' (by (with_reducible repeat (first | apply Kd.R_alloc | apply Kd.R_drewN | apply Kd.R_drew)); exact HO_931002.out) (Kd.R_base ho0) hb); have n3_ := Aside0.mk (Kd.R_lower (Kd.R_new' ho0 (Kd.R_lt (by (with_reducible repeat (first | apply Kd.R_alloc | apply Kd.R_drewN | apply Kd.R_drew)); exact HO_931002.out))) (below_size (hb2_ HB.out GE911.out GE930.out))); have n4_ := Aside0.mk (bb_ BK911.out hb); have n5_ := Aside0.mk (bb_ BK930.out hb); have n6_ := Aside0.mk (below_step (hb2_ HB.out GE911.out GE930.out) hb); clear HO_6; clear HO_9; clear HO_931002; clear BK911; clear BK930; clear HB; have HO_6 := n0_; have HO_9 := n1_; have HO_931002 := n2_; have HO960 := n3_; have BK911 := n4_; have BK930 := n5_; have HB := n6_; clear n0_ n1_ n2_ n3_ n4_ n5_ n6_; (try clear hb); (try clear hb2); (try clear hk); (try clear hi); (try clear ho0)) | ((with_reducible refine gate_callee (f := 25) rfl ?_); refine goesL_ (some 78) rfl rfl Try.func25 (by kernel_rfl) rfl #[.slice A1 l1.length c1] rfl arr_ ?_; (with_reducible refine (laws_toFrameS.calls kj29 _ _ l1 t961 _ ?side1 ?side2 A71.out).mono ?_); (case side1 => exact kc_ (Kd.C_below HR1.out HB.out)); (case side2 => exact HC1.out); rintro e w82 ⟨v962, rfl, ho0, hb⟩; refine ⟨_, rfl, ?_⟩; have n0_ := Aside0.mk (Kd.R_below (by (with_reducible repeat (first | apply Kd.R_alloc | apply Kd.R_drewN | apply Kd.R_drew)); exact HO_6.out) hb); have n1_ := Aside0.mk (Kd.R_below (by (with_reducible repeat (first | apply Kd.R_alloc | apply Kd.R_drewN | apply Kd.R_drew)); exact HO_9.out) hb); have n2_ := Aside0.mk (Kd.R_below (by (with_reducible repeat (first | apply Kd.R_alloc | apply Kd.R_drewN | apply Kd.R_drew)); exact HO_931002.out) hb); have n3_ := Aside0.mk (Kd.R_below (by (with_reducible repeat (first | apply Kd.R_alloc | apply Kd.R_drewN | apply Kd.R_drew)); exact HO960.out) hb); have n4_ := Aside0.mk (Kd.R_lower ho0 (below_size (hb2_ HB.out GE911.out GE930.out))); have n5_ := Aside0.mk (bb_ BK911.out hb); have n6_ := Aside0.mk (bb_ BK930.out hb); have n7_ := Aside0.mk (below_step (hb2_ HB.out GE911.out GE930.out) hb); clear HO_6; clear HO_9; clear HO_931002; clear HO960; clear BK911; clear BK930; clear HB; have HO_6 := n0_; have HO_9 := n1_; have HO_931002 := n2_; have HO960 := n3_; have HO963 := n4_; have BK911 := n5_; have BK930 := n6_; have HB := n7_; clear n0_ n1_ n2_ n3_ n4_ n5_ n6_ n7_; (try clear hb); (try clear hb2); (try clear hk); (try clear hi); (try clear ho0); obtain ⟨Ao83, co83, eo83⟩ := Kd.R_slice HO960.out; subst eo83; obtain ⟨Ao84, co84, eo84⟩ := Kd.R_slice HO963.out; subst eo84) | ((with_reducible refine gate_callee (f := 38) rfl ?_); refine goesL_ (some 79) rfl rfl Try.func38 (by kernel_rfl) rfl #[.agg #[.int .i64 t956, .int .i64 t957, .slice Ao83 t958.length co83], .slice Ao84 t961.length co84] rfl arr_ ?_; (with_reducible refine (impl_BusStray.calls kj29 t956 t957 _ _ t958 _ _ t961 t964 _ ?side1 ?side2 ?side3 ?side4 A72.out).mono ?_); (case side1 => repeat (first | exact (Kd.R_reads' HO960.out).2.2 | (with_reducible refine Kd.C_alloc ?_ _) | (with_reducible refine Kd.C_drewN ?_ _) | (with_reducible refine Kd.C_drew ?_))); (case side2 => exact (Kd.R_reads' HO960.out).2.1); (case side3 => repeat (first | exact (Kd.R_reads' HO963.out).2.2 | (with_reducible refine Kd.C_alloc ?_ _) | (with_reducible refine Kd.C_drewN ?_ _) | (with_reducible refine Kd.C_drew ?_))); (case side4 => exact (Kd.R_reads' HO963.out).2.1); rintro e w85 ⟨v965, rfl, ho0, hb⟩; refine ⟨_, rfl, ?_⟩; have n0_ := Aside0.mk (Kd.R_elder' (by (with_reducible repeat (first | apply Kd.R_alloc | apply Kd.R_drewN | apply Kd.R_drew)); exact HO_6.out) (Kd.R_base ho0) hb); have n1_ := Aside0.mk (Kd.R_elder' (by (with_reducible repeat (first | apply Kd.R_alloc | apply Kd.R_drewN | apply Kd.R_drew)); exact HO_9.out) (Kd.R_base ho0) hb); have n2_ := Aside0.mk (Kd.R_below (by (with_reducible repeat (first | apply Kd.R_alloc | apply Kd.R_drewN | apply Kd.R_drew)); exact HO_931002.out) hb); have n3_ := Aside0.mk (Kd.R_below (by (with_reducible repeat (first | apply Kd.R_alloc | apply Kd.R_drewN | apply Kd.R_drew)); exact HO960.out) hb); have n4_ := Aside0.mk (Kd.R_below (by (with_reducible repeat (first | apply Kd.R_alloc | apply Kd.R_drewN | apply Kd.R_drew)); exact HO963.out) hb); have n5_ := Aside0.mk (Kd.R_lower (Kd.R_new' (Kd.R_new' ho0 (Kd.R_lt (by (with_reducible repeat (first | apply Kd.R_alloc | apply Kd.R_drewN | apply Kd.R_drew)); exact HO_6.out))) (Kd.R_lt (by (with_reducible repeat (first | apply Kd.R_alloc | apply Kd.R_drewN | apply Kd.R_drew)); exact HO_9.out))) (below_size (hb2_ HB.out GE911.out GE930.out))); have n6_ := Aside0.mk (bb_ BK911.out hb); have n7_ := Aside0.mk (bb_ BK930.out hb); have n8_ := Aside0.mk (below_step (hb2_ HB.out GE911.out GE930.out) hb); clear HO_6; clear HO_9; clear HO_931002; clear HO960; clear HO963; clear BK911; clear BK930; clear HB; have HO_6 := n0_; have HO_9 := n1_; have HO_931002 := n2_; have HO960 := n3_; have HO963 := n4_; have HO966 := n5_; have BK911 := n6_; have BK930 := n7_; have HB := n8_; clear n0_ n1_ n2_ n3_ n4_ n5_ n6_ n7_ n8_; (try clear hb); (try clear hb2); (try clear hk); (try clear hi); (try clear ho0); obtain ⟨Ao86, co86, eo86⟩ := Kd.R_slice HO966.out; subst eo86) | ((with_reducible refine gate_callee (f := 26) rfl ?_); refine goesL_ (some 82) rfl rfl Try.func26 (by kernel_rfl) rfl #[.slice Ao86 t964.length co86, .slice Ao52 t922.length co52] rfl arr_ ?_; (with_reducible refine (laws_eqIntS.calls kj29 _ _ t964 _ _ t922 true _ ?side1 ?side2 ?side3 ?side4 A73.out).mono ?_); (case side1 => repeat (first | exact (Kd.R_reads' HO966.out).2.2 | (with_reducible refine Kd.C_alloc ?_ _) | (with_reducible refine Kd.C_drewN ?_ _) | (with_reducible refine Kd.C_drew ?_))); (case side2 => exact (Kd.R_reads' HO966.out).2.1); (case side3 => repeat (first | exact (Kd.R_reads' HO_6.out).2.2 | (with_reducible refine Kd.C_alloc ?_ _) | (with_reducible refine Kd.C_drewN ?_ _) | (with_reducible refine Kd.C_drew ?_))); (case side4 => exact (Kd.R_reads' HO_6.out).2.1); rintro e w' ⟨rfl, ⟨nd, rfl⟩⟩; refine ⟨_, rfl, ?_⟩) | ((with_reducible refine gate_callee (f := 30) rfl ?_); refine goesL_ (some 86) rfl rfl Try.func30 (by kernel_rfl) rfl #[.slice Ao51 t954.length co51, .int .i64 1] rfl (by (try simp only [List.map_toArray, List.map_cons, List.map_nil]); first | done | (rw [show t954.length = t934.length from (Kd.R_reads' HO_9.out).1.symm] <;> rfl) | rfl | (simp only [List.length_drop, List.length_take]; rfl)) ?_; (with_reducible refine (laws_heldIntS.calls kj29 _ _ t954 1 t968 _ ?side1 ?side2 A75.out).mono ?_); (case side1 => repeat (first | exact (Kd.R_reads' HO_9.out).2.2 | (with_reducible refine Kd.C_alloc ?_ _) | (with_reducible refine Kd.C_drewN ?_ _) | (with_reducible refine Kd.C_drew ?_))); (case side2 => rw [show t954.length = t934.length from (Kd.R_reads' HO_9.out).1.symm]; exact (Kd.R_reads' HO_9.out).2.1); rintro e w' ⟨rfl, ⟨nd, rfl⟩⟩; refine ⟨_, rfl, ?_⟩))
                            go_ret
                            exact ⟨er_, hb2_ HB.out GE911.out GE930.out⟩
                          · rw [if_neg c77] at H
                            have c77b0 : (t968 == t953) = false := beq_eq_false_iff_ne.mpr c77
                            have c77b1 : (t968 != t953) = true := bne_iff_ne.mpr c77
                            obtain rfl := Option.some.inj H
                            exact absurd hr_ (by decide)
                      · replace c74 := Bool.eq_false_iff.mpr c74
                        subst c74
                        have H1 : (some false) = some r := by rw [if_neg (show ¬ (false = true) by decide)] at H; exact H
                        clear H
                        have H := H1
                        clear H1
                        obtain rfl := Option.some.inj H
                        exact absurd hr_ (by decide)
                    · rw [if_neg c69] at H
                      have c69b0 : (t955 == t953) = false := beq_eq_false_iff_ne.mpr c69
                      have c69b1 : (t955 != t953) = true := bne_iff_ne.mpr c69
                      obtain rfl := Option.some.inj H
                      exact absurd hr_ (by decide)
          · replace c27 := Bool.eq_false_iff.mpr c27
            subst c27
            have H1 : (some false) = some r := by rw [if_neg (show ¬ (false = true) by decide)] at H; exact H
            clear H
            have H := H1
            clear H1
            obtain rfl := Option.some.inj H
            exact absurd hr_ (by decide)
        · replace c24 := Bool.eq_false_iff.mpr c24
          subst c24
          have H1 : (some false) = some r := by rw [if_neg (show ¬ (false = true) by decide)] at H; exact H
          clear H
          have H := H1
          clear H1
          obtain rfl := Option.some.inj H
          exact absurd hr_ (by decide)
      · replace c21 := Bool.eq_false_iff.mpr c21
        subst c21
        have H1 : (some false) = some r := by rw [if_neg (show ¬ (false = true) by decide)] at H; exact H
        clear H
        have H := H1
        clear H1
        obtain rfl := Option.some.inj H
        exact absurd hr_ (by decide)
end Go.Proofs.Ytjlmfnpgcmmdnaa.P
namespace Go.Proofs.Ytjlmfnpgcmmdnaa.G
open Go.RowKit Go.Proofs.YtjlmfnpgcmmdnaaW.PrintWords
theorem wrap_id {x : Int} (h1 : -9223372036854775808 ≤ x) (h2 : x ≤ 9223372036854775807) : wrap64 x = x := by unfold wrap64; omega
theorem wrap_succ {i n : Nat} (h : i < n) (hn : n ≤ 9223372036854775807) : wrap64 ((i : Int) + 1) = ((i + 1 : Nat) : Int) := by unfold wrap64; omega
theorem wrap_pred {i n : Nat} (h0 : 0 < i) (h : i < n) (hn : n ≤ 9223372036854775807) : wrap64 ((i : Int) - 1) = ((i - 1 : Nat) : Int) := by unfold wrap64; omega
theorem all_loop {n : Nat} {L : Nat → Int → Option Bool} {Q : Nat → Bool} {e : Bool}
    (hs : ∀ k i, i < n → L (k + 1) (i : Int) = if Q i = true then L k ((i + 1 : Nat) : Int) else some false)
    (he : ∀ k, L (k + 1) (n : Int) = some e) :
    ∀ d i k, i + d = n → d < k → L k (i : Int) = some ((List.range' i d).all Q && e) := by
  intro d
  induction d with
  | zero =>
    intro i k h hk
    obtain ⟨k, rfl⟩ : ∃ m, k = m + 1 := ⟨k - 1, by omega⟩
    obtain rfl : i = n := by omega
    rw [he]; simp
  | succ d ih =>
    intro i k h hk
    obtain ⟨k, rfl⟩ : ∃ m, k = m + 1 := ⟨k - 1, by omega⟩
    rw [hs k i (by omega)]
    rw [List.range'_succ]
    cases hq : Q i with
    | true => rw [if_pos rfl, ih (i + 1) k (by omega) (by omega)]; simp [hq]
    | false => simp [hq]
theorem all_loop0 {n : Nat} {L : Nat → Int → Option Bool} {Q : Nat → Bool} {e : Bool}
    (hs : ∀ k i, i < n → L (k + 1) (i : Int) = if Q i = true then L k ((i + 1 : Nat) : Int) else some false)
    (he : ∀ k, L (k + 1) (n : Int) = some e) (k : Nat) (hk : n < k) : L k 0 = some ((List.range n).all Q && e) := by
  have := all_loop hs he n 0 k (by omega) hk
  rw [List.range_eq_range']
  exact this
theorem all_loopT {n : Nat} {L : Nat → Int → Option Bool}
    (hs : ∀ k i, i < n → L (k + 1) (i : Int) = L k ((i + 1 : Nat) : Int)) (he : ∀ k, L (k + 1) (n : Int) = some true) (k : Nat) (hk : n < k) : L k 0 = some true := by
  have := all_loop0 (Q := fun _ => true) (e := true) (fun k i hi => by rw [if_pos rfl]; exact hs k i hi) he k hk
  rw [this]
  simp [List.all_eq_true]
def found {ρ : Type} (Q : Nat → Bool) (r : Nat → ρ) (e : ρ) (is : List Nat) : ρ := match is.find? Q with
  | some j => r j
  | none => e
theorem find_loop {n : Nat} {ρ : Type} {L : Nat → Int → Option ρ} {Q : Nat → Bool} {r : Nat → ρ} {e : ρ} {c : Nat}
    (hs : ∀ k i, i < n → c ≤ k → L (k + 1) (i : Int) = if Q i = true then some (r i) else L k ((i + 1 : Nat) : Int))
    (he : ∀ k, L (k + 1) (n : Int) = some e) :
    ∀ d i k, i + d = n → d + c < k → L k (i : Int) = some (found Q r e (List.range' i d)) := by
  intro d
  induction d with
  | zero =>
    intro i k h hk
    obtain ⟨k, rfl⟩ : ∃ m, k = m + 1 := ⟨k - 1, by omega⟩
    obtain rfl : i = n := by omega
    rw [he]; rfl
  | succ d ih =>
    intro i k h hk
    obtain ⟨k, rfl⟩ : ∃ m, k = m + 1 := ⟨k - 1, by omega⟩
    rw [hs k i (by omega) (by omega), List.range'_succ]
    unfold found
    cases hq : Q i with
    | true => simp [List.find?, hq]
    | false =>
      rw [if_neg (by simp), ih (i + 1) k (by omega) (by omega)]
      simp [List.find?, hq, found]
theorem find_loop0 {n : Nat} {ρ : Type} {L : Nat → Int → Option ρ} {Q : Nat → Bool} {r : Nat → ρ} {e : ρ} {c : Nat}
    (hs : ∀ k i, i < n → c ≤ k → L (k + 1) (i : Int) = if Q i = true then some (r i) else L k ((i + 1 : Nat) : Int))
    (he : ∀ k, L (k + 1) (n : Int) = some e) (k : Nat) (hk : n + c < k) : L k 0 = some (found Q r e (List.range n)) := by
  have := find_loop hs he n 0 k (by omega) hk
  rw [List.range_eq_range']
  exact this
theorem found_none {ρ : Type} {Q : Nat → Bool} {r : Nat → ρ} {e : ρ} {n : Nat} (h : ∀ i, i < n → Q i = false) : found Q r e (List.range n) = e := by
  unfold found
  have : (List.range n).find? Q = none := by
    rw [List.find?_eq_none]; intro i hi; rw [h i (List.mem_range.1 hi)]; simp
  rw [this]
theorem found_some {ρ : Type} {Q : Nat → Bool} {r : Nat → ρ} {e : ρ} {n j : Nat} (hj : j < n) (hq : Q j = true) (h : ∀ i, i < j → Q i = false) : found Q r e (List.range n) = r j := by
  unfold found
  have : (List.range n).find? Q = some j := by
    rw [List.find?_range_eq_some]; exact ⟨hq, List.mem_range.2 hj, fun i hi => by rw [h i hi]; rfl⟩
  rw [this]
theorem first_of {Q : Nat → Bool} : ∀ n, (∃ j, j < n ∧ Q j = true ∧ ∀ i, i < j → Q i = false) ∨ ∀ i, i < n → Q i = false := by
  intro n
  induction n with
  | zero => right; intro i hi; omega
  | succ n ih =>
    rcases ih with ⟨j, h1, h2, h3⟩ | h
    · left; exact ⟨j, by omega, h2, h3⟩
    · cases hq : Q n with
      | true => left; exact ⟨n, by omega, hq, h⟩
      | false => right; intro i hi; rcases Nat.lt_or_ge i n with c | c
                 · exact h i c
                 · obtain rfl : i = n := by omega
                   exact hq
theorem track_loop {n : Nat} {σ ρ : Type} {L : Nat → σ → Int → Option ρ} {F : Nat → σ} {r : ρ} {c : Nat}
    (hs : ∀ k i, i < n → c ≤ k → L (k + 1) (F i) (i : Int) = L k (F (i + 1)) ((i + 1 : Nat) : Int))
    (he : ∀ k, c ≤ k → L (k + 1) (F n) (n : Int) = some r) :
    ∀ d i k, i + d = n → d + c < k → L k (F i) (i : Int) = some r := by
  intro d
  induction d with
  | zero =>
    intro i k h hk
    obtain ⟨k, rfl⟩ : ∃ m, k = m + 1 := ⟨k - 1, by omega⟩
    obtain rfl : i = n := by omega
    exact he k (by omega)
  | succ d ih =>
    intro i k h hk
    obtain ⟨k, rfl⟩ : ∃ m, k = m + 1 := ⟨k - 1, by omega⟩
    rw [hs k i (by omega) (by omega)]
    exact ih (i + 1) k (by omega) (by omega)
theorem track_loop0 {n : Nat} {σ ρ : Type} {L : Nat → σ → Int → Option ρ} {F : Nat → σ} {r : ρ} {c : Nat}
    (hs : ∀ k i, i < n → c ≤ k → L (k + 1) (F i) (i : Int) = L k (F (i + 1)) ((i + 1 : Nat) : Int))
    (he : ∀ k, c ≤ k → L (k + 1) (F n) (n : Int) = some r) (k : Nat) (hk : n + c < k) : L k (F 0) 0 = some r :=
  track_loop hs he n 0 k (by omega) hk
theorem inv_loop {n : Nat} {σ ρ : Type} {L : Nat → σ → Int → Option ρ} {I : Nat → σ → Prop} {R : ρ → Prop}
    (hs : ∀ k i s, i < n → I i s → (∃ s', L (k + 1) s (i : Int) = L k s' ((i + 1 : Nat) : Int) ∧ I (i + 1) s') ∨ ∃ r, L (k + 1) s (i : Int) = some r ∧ R r)
    (he : ∀ k s, I n s → ∃ r, L (k + 1) s (n : Int) = some r ∧ R r) :
    ∀ d i s k, i + d = n → I i s → d < k → ∃ r, L k s (i : Int) = some r ∧ R r := by
  intro d
  induction d with
  | zero =>
    intro i s k h hi hk
    obtain ⟨k, rfl⟩ : ∃ m, k = m + 1 := ⟨k - 1, by omega⟩
    obtain rfl : i = n := by omega
    exact he k s hi
  | succ d ih =>
    intro i s k h hi hk
    obtain ⟨k, rfl⟩ : ∃ m, k = m + 1 := ⟨k - 1, by omega⟩
    rcases hs k i s (by omega) hi with ⟨s', h1, h2⟩ | ⟨r, h1, h2⟩
    · rw [h1]; exact ih (i + 1) s' k (by omega) h2 (by omega)
    · exact ⟨r, h1, h2⟩
theorem to_loop {α β : Type} {l : List α} {c : α → β} {z : β} {L : Nat → List β → Int → Option (List β)}
    (hs : ∀ k acc i (hi : i < l.length), acc.length = l.length → L (k + 1) acc (i : Int) = L k (acc.set i (c l[i])) ((i + 1 : Nat) : Int))
    (he : ∀ k acc, acc.length = l.length → L (k + 1) acc (l.length : Int) = some acc) :
    ∀ d i k, i + d = l.length → d < k → L k ((l.take i).map c ++ List.replicate d z) (i : Int) = some (l.map c) := by
  intro d
  induction d with
  | zero =>
    intro i k h hk
    obtain ⟨k, rfl⟩ : ∃ m, k = m + 1 := ⟨k - 1, by omega⟩
    obtain rfl : i = l.length := by omega
    rw [he _ _ (by simp)]; simp
  | succ d ih =>
    intro i k h hk
    obtain ⟨k, rfl⟩ : ∃ m, k = m + 1 := ⟨k - 1, by omega⟩
    have hi : i < l.length := by omega
    rw [hs _ _ i hi (by simp; omega), ← ih (i + 1) k (by omega) (by omega)]
    congr 1
    have hl : ((l.take i).map c).length = i := by simp; omega
    rw [List.set_append, if_neg (by omega), hl, Nat.sub_self, List.replicate_succ, List.set_cons_zero, List.take_succ_eq_append_getElem hi, List.map_append, List.append_assoc]
    rfl
theorem to_loop0 {α β : Type} {l : List α} {c : α → β} {z : β} {L : Nat → List β → Int → Option (List β)}
    (hs : ∀ k acc i (hi : i < l.length), acc.length = l.length → L (k + 1) acc (i : Int) = L k (acc.set i (c l[i])) ((i + 1 : Nat) : Int))
    (he : ∀ k acc, acc.length = l.length → L (k + 1) acc (l.length : Int) = some acc) (k : Nat) (hk : l.length < k) : L k (List.replicate l.length z) 0 = some (l.map c) := by
  have := to_loop hs he l.length 0 k (by omega) hk (z := z)
  simpa using this
theorem all_iff {n : Nat} {Q : Nat → Bool} : (List.range n).all Q = true ↔ ∀ i, i < n → Q i = true := by
  rw [List.all_eq_true]; exact ⟨fun h i hi => h i (List.mem_range.2 hi), fun h i hi => h i (List.mem_range.1 hi)⟩
end Go.Proofs.Ytjlmfnpgcmmdnaa.G
