/- Texts of the seat's proofs, part 2: functions of the program told as plain functions, with their contracts, and what is shown of them. No condition. -/
import Derived.Test.YtcbglmoeogbakaaU
import Derived.Test.YtcbglmoeogbakaaM1
set_option linter.unusedVariables false
set_option linter.unusedSimpArgs false
namespace Go.Proofs.Ytcbglmoeogbakaa.P
open Go.RowKit Go.Proofs.YtcbglmoeogbakaaW.PrintWords Go.Proofs.YtcbglmoeogbakaaW.PrintLast Go.Proofs.YtcbglmoeogbakaaW.PrintMore
attribute [local go_sem] max2_int min2_int max_two min_two max_three min_three max_four min_four
set_option linter.unusedVariables false
set_option linter.unusedSimpArgs false
def laws_toPlan.f (k : Nat) (a0_0 : Int) (a0_1 : Int) (l0_2 : List (S109)) : Option (Int × Int × (List (S78))) := (laws_toSlotS.f k l0_2).bind fun t135 => (some (a0_0, a0_1, t135))
theorem laws_toPlan.mono : ∀ a0 a1 a2 k, LeO (laws_toPlan.f k a0 a1 a2) (laws_toPlan.f (k + 1) a0 a1 a2) := by
  intro a0 a1 a2 k
  unfold laws_toPlan.f
  repeat' first
      | (with_reducible exact laws_toSlotS.mono _ _)
      | (with_reducible exact LeO.refl _)
      | (with_reducible exact LeO.none _)
      | (with_reducible refine LeO.ite ?_ ?_)
      | (with_reducible refine LeO.bind ?_ (fun _ => ?_))
      | exact laws_toSlotS.mono _ _
      | exact LeO.none _
      | refine LeO.ite ?_ ?_
      | refine LeO.bind ?_ (fun _ => ?_)
set_option maxHeartbeats 8000000 in
set_option maxRecDepth 100000 in
theorem laws_toPlan.calls (k : Nat) (a0_0 : Int) (a0_1 : Int) (A0_2 : Option Addr) (c0_2 : Nat) (l0_2 : List (S109)) (r1 : Int) (r2 : Int) (r3 : List (S78)) (w : World) (hr0_2 : Kd.C k109 w A0_2 l0_2.length l0_2) (hc0_2 : l0_2.length ≤ c0_2) (h : laws_toPlan.f k a0_0 a0_1 l0_2 = some (r1, r2, r3)) :
    Calls Try.prog 10 #[.agg #[.int .i64 a0_0, .int .i64 a0_1, .slice A0_2 l0_2.length c0_2]] w fun e w' => ∃ v2_ : Value, e = .returned (.agg #[.int .i64 r1, .int .i64 r2, v2_]) ∧ Kd.R k78 78 w' w.heap.size (fun _ => True) v2_ r3 ∧ Below w.heap.size w w' := by
  have hu24 := Try.underlying24
  have hu30 := Try.underlying30
  have HR0_2 := Aside0.mk hr0_2
  have HC0_2 := Aside0.mk hc0_2
  clear hr0_2 hc0_2
  have HB := Aside0.mk (Below.refl w.heap.size w)
  have H : ((laws_toSlotS.f k l0_2).bind fun t135 => (some (a0_0, a0_1, t135))) = some (r1, r2, r3) := h
  clear h
  replace H := Option.bind_eq_some_iff.mp H
  obtain ⟨t135, A20, H⟩ := H
  replace H : (some (a0_0, a0_1, t135)) = some (r1, r2, r3) := H
  have A2 := Aside0.mk A20
  clear A20
  simp only [Option.some.injEq, Prod.mk.injEq] at H
  obtain ⟨rfl, rfl, rfl⟩ := H
  go_enter Try.func10, Try.ntmps10
  go_wp2_with (first | ((with_reducible refine gate_dst (N := 1) rfl ?_); refine box_event ?hg (N := 1) ?hd (cs := #[.int .i64 a0_0, .int .i64 a0_1, .slice A0_2 l0_2.length c0_2]) (t := 24) ?hr ?_; (case hd => rfl); (case hg => rfl); (case hr => first | (go_simp; done) | (go_simp; rfl)); intro gb132 hg w3 hbox hb; have n0_ := Aside0.mk (below_step (hb_ HB.out) hb); have n1_ := Aside0.mk (hbox); have n2_ := Aside0.mk ((by rw [hg]; exact (below_size (hb_ HB.out)) : w.heap.size ≤ gb132)); have n3_ := Aside0.mk ((by rw [hg]; exact (below_size (hb_ HB.out)) : w.heap.size ≤ gb132)); clear HB; have HB := n0_; have BK132 := n1_; have GW132 := n2_; have GE132 := n3_; clear n0_ n1_ n2_ n3_; clear hb hbox hg) | ((with_reducible refine gate_dst (N := 2) rfl ?_); refine box_event ?hg (N := 2) ?hd (cs := #[.int .i64 0, .int .i64 0, .slice none 0 0]) (t := 30) ?hr ?_; (case hd => rfl); (case hg => rfl); (case hr => first | (go_simp; done) | (go_simp; rfl)); intro gb133 hg w4 hbox hb; have n0_ := Aside0.mk (bb_ BK132.out hb); have n1_ := Aside0.mk (below_step (hb1_ HB.out GE132.out) hb); have n2_ := Aside0.mk (hbox); have n3_ := Aside0.mk ((by rw [hg]; exact (below_size (hb1_ HB.out GE132.out)) : w.heap.size ≤ gb133)); have n4_ := Aside0.mk ((by rw [hg]; exact (below_size (hb1_ HB.out GE132.out)) : w.heap.size ≤ gb133)); have n5_ := Aside0.mk ((bl_ hg BK132.out : gb132 ≠ gb133)); have n6_ := Aside0.mk ((bg_ hg BK132.out : gb133 ≠ gb132)); clear BK132; clear HB; have BK132 := n0_; have HB := n1_; have BK133 := n2_; have GW133 := n3_; have GE133 := n4_; have NB132_133 := n5_; have NB133_132 := n6_; clear n0_ n1_ n2_ n3_ n4_ n5_ n6_; clear hb hbox hg) | ((with_reducible refine gate_dst (N := 3) rfl ?_); refine box_event ?hg (N := 3) ?hd (cs := #[.int .i64 0, .int .i64 0, .slice none 0 0]) (t := 30) ?hr ?_; (case hd => rfl); (case hg => rfl); (case hr => first | (go_simp; done) | (go_simp; rfl)); intro gb134 hg w5 hbox hb; have n0_ := Aside0.mk (bb_ BK132.out hb); have n1_ := Aside0.mk (bb_ BK133.out hb); have n2_ := Aside0.mk (below_step (hb2_ HB.out GE132.out GE133.out) hb); have n3_ := Aside0.mk (hbox); have n4_ := Aside0.mk ((by rw [hg]; exact (below_size (hb2_ HB.out GE132.out GE133.out)) : w.heap.size ≤ gb134)); have n5_ := Aside0.mk ((by rw [hg]; exact (below_size (hb2_ HB.out GE132.out GE133.out)) : w.heap.size ≤ gb134)); have n6_ := Aside0.mk ((bl_ hg BK132.out : gb132 ≠ gb134)); have n7_ := Aside0.mk ((bg_ hg BK132.out : gb134 ≠ gb132)); have n8_ := Aside0.mk ((bl_ hg BK133.out : gb133 ≠ gb134)); have n9_ := Aside0.mk ((bg_ hg BK133.out : gb134 ≠ gb133)); clear BK132; clear BK133; clear HB; have BK132 := n0_; have BK133 := n1_; have HB := n2_; have BK134 := n3_; have GW134 := n4_; have GE134 := n5_; have NB132_134 := n6_; have NB134_132 := n7_; have NB133_134 := n8_; have NB134_133 := n9_; clear n0_ n1_ n2_ n3_ n4_ n5_ n6_ n7_ n8_ n9_; clear hb hbox hg; have hnb6 := NB132_133.out; have hnc6 := NB133_132.out; have hnb7 := NB132_134.out; have hnc7 := NB134_132.out; have hcz8_0 := bc_ BK132.out 0 (.int .i64 a0_0) rfl; have hcz8_1 := bc_ BK132.out 1 (.int .i64 a0_1) rfl; have hcz8_2 := bc_ BK132.out 2 (.slice A0_2 l0_2.length c0_2) rfl; have hfz8_0 := blk_frozen BK132.out 0; have hfz8_1 := blk_frozen BK132.out 1; have hfz8_2 := blk_frozen BK132.out 2; have hnb9 := NB134_133.out; have hnc9 := NB133_134.out; have hcz10_0 := bc_ BK134.out 0 (.int .i64 0) rfl; have hcz10_1 := bc_ BK134.out 1 (.int .i64 0) rfl; have hcz10_2 := bc_ BK134.out 2 (.slice none 0 0) rfl; have hfz10_0 := blk_frozen BK134.out 0; have hfz10_1 := blk_frozen BK134.out 1; have hfz10_2 := blk_frozen BK134.out 2) | ((with_reducible refine gate_callee (f := 39) rfl ?_); refine goesL_ (some 12) rfl rfl Try.func39 (by kernel_rfl) rfl #[.slice A0_2 l0_2.length c0_2] rfl arr_ ?_; (with_reducible refine (laws_toSlotS.calls k _ _ l0_2 t135 _ ?side1 ?side2 A2.out).mono ?_); (case side1 => exact Kd.C_below HR0_2.out (hb3_ HB.out GE132.out GE133.out GE134.out)); (case side2 => exact HC0_2.out); rintro e w11 ⟨v136, rfl, ho0, hb⟩; refine ⟨_, rfl, ?_⟩; have n0_ := Aside0.mk (Kd.R_lower ho0 (below_size (hb3_ HB.out GE132.out GE133.out GE134.out))); have n1_ := Aside0.mk (blk_below (g := gb132) (o := .cells #[.int .i64 a0_0, .int .i64 a0_1, .slice A0_2 l0_2.length c0_2] 24 (0, 0)) (by (with_reducible repeat (first | refine blk_drewN ?_ _ | refine blk_drew ?_ | refine blk_alloc ?_ _)); refine blk_far ?_ NB132_134.out _; (with_reducible repeat (first | refine blk_drewN ?_ _ | refine blk_drew ?_ | refine blk_alloc ?_ _)); refine blk_far ?_ NB132_134.out _; (with_reducible repeat (first | refine blk_drewN ?_ _ | refine blk_drew ?_ | refine blk_alloc ?_ _)); exact BK132.out) hb); have n2_ := Aside0.mk (blk_below (g := gb133) (o := .cells #[.int .i64 0, .int .i64 0, .slice none 0 0] 30 (0, 0)) (by (with_reducible repeat (first | refine blk_drewN ?_ _ | refine blk_drew ?_ | refine blk_alloc ?_ _)); refine blk_far ?_ NB133_134.out _; (with_reducible repeat (first | refine blk_drewN ?_ _ | refine blk_drew ?_ | refine blk_alloc ?_ _)); refine blk_far ?_ NB133_134.out _; (with_reducible repeat (first | refine blk_drewN ?_ _ | refine blk_drew ?_ | refine blk_alloc ?_ _)); exact BK133.out) hb); have n3_ := Aside0.mk (blk_below (g := gb134) (o := .cells #[.int .i64 a0_0, .int .i64 a0_1, .slice none 0 0] 30 (0, 0)) (by (with_reducible repeat (first | refine blk_drewN ?_ _ | refine blk_drew ?_ | refine blk_alloc ?_ _)); refine blk_put (cs := #[.int .i64 a0_0, .int .i64 0, .slice none 0 0]) ?_ 1 _ rfl; (with_reducible repeat (first | refine blk_drewN ?_ _ | refine blk_drew ?_ | refine blk_alloc ?_ _)); refine blk_put (cs := #[.int .i64 0, .int .i64 0, .slice none 0 0]) ?_ 0 _ rfl; (with_reducible repeat (first | refine blk_drewN ?_ _ | refine blk_drew ?_ | refine blk_alloc ?_ _)); exact BK134.out) hb); have n4_ := Aside0.mk (below_step (hb3_ HB.out GE132.out GE133.out GE134.out) hb); clear BK132; clear BK133; clear BK134; clear HB; have HO137 := n0_; have BK132 := n1_; have BK133 := n2_; have BK134 := n3_; have HB := n4_; clear n0_ n1_ n2_ n3_ n4_; (try clear hb); (try clear hb2); (try clear hk); (try clear hi); (try clear ho0); obtain ⟨Ao12, co12, eo12⟩ := Kd.R_slice HO137.out; subst eo12; have hcz13_0 := bc_ BK134.out 0 (.int .i64 a0_0) rfl; have hcz13_1 := bc_ BK134.out 1 (.int .i64 a0_1) rfl; have hcz13_2 := bc_ BK134.out 2 (.slice none 0 0) rfl; have hfz13_0 := blk_frozen BK134.out 0; have hfz13_1 := blk_frozen BK134.out 1; have hfz13_2 := blk_frozen BK134.out 2; have hcz14_0 := bc_ BK133.out 0 (.int .i64 0) rfl; have hcz14_1 := bc_ BK133.out 1 (.int .i64 0) rfl; have hcz14_2 := bc_ BK133.out 2 (.slice none 0 0) rfl; have hfz14_0 := blk_frozen BK133.out 0; have hfz14_1 := blk_frozen BK133.out 1; have hfz14_2 := blk_frozen BK133.out 2))
  refine bodyPost_ret (results_cell_row rfl _ _ gb133 30 #[.int .i64 a0_0, .int .i64 a0_1, .slice Ao12 t135.length co12] (0, 0) _ rfl (by (with_reducible repeat (first | refine blk_drewN ?_ _ | refine blk_drew ?_ | refine blk_alloc ?_ _)); refine blk_put (cs := #[.int .i64 a0_0, .int .i64 a0_1, .slice none 0 0]) ?_ 2 _ rfl; (with_reducible repeat (first | refine blk_drewN ?_ _ | refine blk_drew ?_ | refine blk_alloc ?_ _)); refine blk_put (cs := #[.int .i64 a0_0, .int .i64 0, .slice none 0 0]) ?_ 1 _ rfl; (with_reducible repeat (first | refine blk_drewN ?_ _ | refine blk_drew ?_ | refine blk_alloc ?_ _)); refine blk_put (cs := #[.int .i64 0, .int .i64 0, .slice none 0 0]) ?_ 0 _ rfl; (with_reducible repeat (first | refine blk_drewN ?_ _ | refine blk_drew ?_ | refine blk_alloc ?_ _)); refine blk_far ?_ NB133_134.out _; (with_reducible repeat (first | refine blk_drewN ?_ _ | refine blk_drew ?_ | refine blk_alloc ?_ _)); exact BK133.out) Try.underlying30 rfl (by kernel_rfl)) rfl ?_
  exact ⟨_, er_, by (with_reducible repeat (first | apply Kd.R_alloc | apply Kd.R_drewN | apply Kd.R_drew)); exact Kd.R_mono (Kd.R_far (p := ⟨gb133, 2, none⟩) (Kd.R_far (p := ⟨gb133, 1, none⟩) (Kd.R_far (p := ⟨gb133, 0, none⟩) (Kd.R_far (p := ⟨gb134, 2, none⟩) (Kd.R_types (Kd.R_types HO137.out BK134.out (by decide)) BK133.out (by decide)) (fun _ hk => hk.1.2) (.slice Ao12 t135.length co12)) (fun _ hk => hk.2) (.int .i64 a0_0)) (fun _ hk => hk.2) (.int .i64 a0_1)) (fun _ hk => hk.2) (.slice Ao12 t135.length co12)) (fun _ hk => trivial), hb3_ HB.out GE132.out GE133.out GE134.out⟩
def laws_toDrift.f (a0_0 : Int) (a0_1 : Int) : Option (Int × Int) := some (a0_0, a0_1)
set_option maxHeartbeats 8000000 in
set_option maxRecDepth 100000 in
theorem laws_toDrift.calls (a0_0 : Int) (a0_1 : Int) (r1 : Int) (r2 : Int) (w : World) (h : laws_toDrift.f a0_0 a0_1 = some (r1, r2)) :
    Calls Try.prog 70 #[.agg #[.int .i64 a0_0, .int .i64 a0_1]] w fun e w' => e = .returned (.agg #[.int .i64 r1, .int .i64 r2]) ∧ Below w.heap.size w w' := by
  have hu65 := Try.underlying65
  have hu70 := Try.underlying70
  have HB := Aside0.mk (Below.refl w.heap.size w)
  have H : (some (a0_0, a0_1)) = some (r1, r2) := h
  clear h
  simp only [Option.some.injEq, Prod.mk.injEq] at H
  obtain ⟨rfl, rfl⟩ := H
  go_enter Try.func70, Try.ntmps70
  go_wp2_with (first | ((with_reducible refine gate_dst (N := 1) rfl ?_); refine box_event ?hg (N := 1) ?hd (cs := #[.int .i64 a0_0, .int .i64 a0_1]) (t := 65) ?hr ?_; (case hd => rfl); (case hg => rfl); (case hr => first | (go_simp; done) | (go_simp; rfl)); intro gb778 hg w2 hbox hb; have n0_ := Aside0.mk (below_step (hb_ HB.out) hb); have n1_ := Aside0.mk (hbox); have n2_ := Aside0.mk ((by rw [hg]; exact (below_size (hb_ HB.out)) : w.heap.size ≤ gb778)); have n3_ := Aside0.mk ((by rw [hg]; exact (below_size (hb_ HB.out)) : w.heap.size ≤ gb778)); clear HB; have HB := n0_; have BK778 := n1_; have GW778 := n2_; have GE778 := n3_; clear n0_ n1_ n2_ n3_; clear hb hbox hg) | ((with_reducible refine gate_dst (N := 2) rfl ?_); refine box_event ?hg (N := 2) ?hd (cs := #[.int .i64 0, .int .i64 0]) (t := 70) ?hr ?_; (case hd => rfl); (case hg => rfl); (case hr => first | (go_simp; done) | (go_simp; rfl)); intro gb779 hg w3 hbox hb; have n0_ := Aside0.mk (bb_ BK778.out hb); have n1_ := Aside0.mk (below_step (hb1_ HB.out GE778.out) hb); have n2_ := Aside0.mk (hbox); have n3_ := Aside0.mk ((by rw [hg]; exact (below_size (hb1_ HB.out GE778.out)) : w.heap.size ≤ gb779)); have n4_ := Aside0.mk ((by rw [hg]; exact (below_size (hb1_ HB.out GE778.out)) : w.heap.size ≤ gb779)); have n5_ := Aside0.mk ((bl_ hg BK778.out : gb778 ≠ gb779)); have n6_ := Aside0.mk ((bg_ hg BK778.out : gb779 ≠ gb778)); clear BK778; clear HB; have BK778 := n0_; have HB := n1_; have BK779 := n2_; have GW779 := n3_; have GE779 := n4_; have NB778_779 := n5_; have NB779_778 := n6_; clear n0_ n1_ n2_ n3_ n4_ n5_ n6_; clear hb hbox hg) | ((with_reducible refine gate_dst (N := 3) rfl ?_); refine box_event ?hg (N := 3) ?hd (cs := #[.int .i64 0, .int .i64 0]) (t := 70) ?hr ?_; (case hd => rfl); (case hg => rfl); (case hr => first | (go_simp; done) | (go_simp; rfl)); intro gb780 hg w4 hbox hb; have n0_ := Aside0.mk (bb_ BK778.out hb); have n1_ := Aside0.mk (bb_ BK779.out hb); have n2_ := Aside0.mk (below_step (hb2_ HB.out GE778.out GE779.out) hb); have n3_ := Aside0.mk (hbox); have n4_ := Aside0.mk ((by rw [hg]; exact (below_size (hb2_ HB.out GE778.out GE779.out)) : w.heap.size ≤ gb780)); have n5_ := Aside0.mk ((by rw [hg]; exact (below_size (hb2_ HB.out GE778.out GE779.out)) : w.heap.size ≤ gb780)); have n6_ := Aside0.mk ((bl_ hg BK778.out : gb778 ≠ gb780)); have n7_ := Aside0.mk ((bg_ hg BK778.out : gb780 ≠ gb778)); have n8_ := Aside0.mk ((bl_ hg BK779.out : gb779 ≠ gb780)); have n9_ := Aside0.mk ((bg_ hg BK779.out : gb780 ≠ gb779)); clear BK778; clear BK779; clear HB; have BK778 := n0_; have BK779 := n1_; have HB := n2_; have BK780 := n3_; have GW780 := n4_; have GE780 := n5_; have NB778_780 := n6_; have NB780_778 := n7_; have NB779_780 := n8_; have NB780_779 := n9_; clear n0_ n1_ n2_ n3_ n4_ n5_ n6_ n7_ n8_ n9_; clear hb hbox hg; have hnb5 := NB778_779.out; have hnc5 := NB779_778.out; have hnb6 := NB778_780.out; have hnc6 := NB780_778.out; have hcz7_0 := bc_ BK778.out 0 (.int .i64 a0_0) rfl; have hcz7_1 := bc_ BK778.out 1 (.int .i64 a0_1) rfl; have hfz7_0 := blk_frozen BK778.out 0; have hfz7_1 := blk_frozen BK778.out 1; have hnb8 := NB780_779.out; have hnc8 := NB779_780.out; have hcz9_0 := bc_ BK780.out 0 (.int .i64 0) rfl; have hcz9_1 := bc_ BK780.out 1 (.int .i64 0) rfl; have hfz9_0 := blk_frozen BK780.out 0; have hfz9_1 := blk_frozen BK780.out 1; have hcz10_0 := bc_ BK779.out 0 (.int .i64 0) rfl; have hcz10_1 := bc_ BK779.out 1 (.int .i64 0) rfl; have hfz10_0 := blk_frozen BK779.out 0; have hfz10_1 := blk_frozen BK779.out 1))
  refine bodyPost_ret (results_cell_row rfl _ _ gb779 70 #[.int .i64 a0_0, .int .i64 a0_1] (0, 0) _ rfl (by (with_reducible repeat (first | refine blk_drewN ?_ _ | refine blk_drew ?_ | refine blk_alloc ?_ _)); refine blk_put (cs := #[.int .i64 a0_0, .int .i64 0]) ?_ 1 _ rfl; (with_reducible repeat (first | refine blk_drewN ?_ _ | refine blk_drew ?_ | refine blk_alloc ?_ _)); refine blk_put (cs := #[.int .i64 0, .int .i64 0]) ?_ 0 _ rfl; (with_reducible repeat (first | refine blk_drewN ?_ _ | refine blk_drew ?_ | refine blk_alloc ?_ _)); refine blk_far ?_ NB779_780.out _; (with_reducible repeat (first | refine blk_drewN ?_ _ | refine blk_drew ?_ | refine blk_alloc ?_ _)); refine blk_far ?_ NB779_780.out _; (with_reducible repeat (first | refine blk_drewN ?_ _ | refine blk_drew ?_ | refine blk_alloc ?_ _)); exact BK779.out) Try.underlying70 rfl (by kernel_rfl)) rfl ?_
  exact ⟨er_, hb3_ HB.out GE778.out GE779.out GE780.out⟩
def laws_toCfg.f (k : Nat) (a0_0 : Int) (a0_1 : Int) (a0_2 : Int) (a0_3 : Int) (a0_4 : Int) (a0_5 : Int) (a0_6 : Int) (a0_7 : Int) (a0_8 : Int) (a0_9 : Int) (l0_10 : List (S109)) : Option (Int × Int × Int × Int × Int × Int × Int × Int × Int × Int × (List (S78))) := (laws_toDrift.f a0_0 a0_1).bind fun bt784 => ((laws_toPlan.f k a0_8 a0_9 l0_10).bind fun bt786 => (some (bt784.1, bt784.2, a0_2, a0_3, a0_4, a0_5, a0_6, a0_7, bt786.1, bt786.2.1, bt786.2.2)))
theorem laws_toCfg.mono : ∀ a0 a1 a2 a3 a4 a5 a6 a7 a8 a9 a10 k, LeO (laws_toCfg.f k a0 a1 a2 a3 a4 a5 a6 a7 a8 a9 a10) (laws_toCfg.f (k + 1) a0 a1 a2 a3 a4 a5 a6 a7 a8 a9 a10) := by
  intro a0 a1 a2 a3 a4 a5 a6 a7 a8 a9 a10 k
  unfold laws_toCfg.f
  repeat' first
      | (with_reducible exact laws_toPlan.mono _ _ _ _)
      | (with_reducible exact LeO.refl _)
      | (with_reducible exact LeO.none _)
      | (with_reducible refine LeO.ite ?_ ?_)
      | (with_reducible refine LeO.bind ?_ (fun _ => ?_))
      | exact laws_toPlan.mono _ _ _ _
      | exact LeO.none _
      | refine LeO.ite ?_ ?_
      | refine LeO.bind ?_ (fun _ => ?_)
set_option maxHeartbeats 8000000 in
set_option maxRecDepth 100000 in
theorem laws_toCfg.calls (k : Nat) (a0_0 : Int) (a0_1 : Int) (a0_2 : Int) (a0_3 : Int) (a0_4 : Int) (a0_5 : Int) (a0_6 : Int) (a0_7 : Int) (a0_8 : Int) (a0_9 : Int) (A0_10 : Option Addr) (c0_10 : Nat) (l0_10 : List (S109)) (r1 : Int) (r2 : Int) (r3 : Int) (r4 : Int) (r5 : Int) (r6 : Int) (r7 : Int) (r8 : Int) (r9 : Int) (r10 : Int) (r11 : List (S78)) (w : World) (hr0_10 : Kd.C k109 w A0_10 l0_10.length l0_10) (hc0_10 : l0_10.length ≤ c0_10) (h : laws_toCfg.f k a0_0 a0_1 a0_2 a0_3 a0_4 a0_5 a0_6 a0_7 a0_8 a0_9 l0_10 = some (r1, r2, r3, r4, r5, r6, r7, r8, r9, r10, r11)) :
    Calls Try.prog 35 #[.agg #[.int .i64 a0_0, .int .i64 a0_1, .int .i64 a0_2, .int .i64 a0_3, .int .i64 a0_4, .int .i64 a0_5, .int .i64 a0_6, .int .i64 a0_7, .int .i64 a0_8, .int .i64 a0_9, .slice A0_10 l0_10.length c0_10]] w fun e w' => ∃ v10_ : Value, e = .returned (.agg #[.int .i64 r1, .int .i64 r2, .int .i64 r3, .int .i64 r4, .int .i64 r5, .int .i64 r6, .int .i64 r7, .int .i64 r8, .int .i64 r9, .int .i64 r10, v10_]) ∧ Kd.R k78 78 w' w.heap.size (fun _ => True) v10_ r11 ∧ Below w.heap.size w w' := by
  have hu67 := Try.underlying67
  have hu72 := Try.underlying72
  have hu65 := Try.underlying65
  have hu70 := Try.underlying70
  have hu24 := Try.underlying24
  have hu30 := Try.underlying30
  have HR0_10 := Aside0.mk hr0_10
  have HC0_10 := Aside0.mk hc0_10
  clear hr0_10 hc0_10
  have HB := Aside0.mk (Below.refl w.heap.size w)
  have H : ((laws_toDrift.f a0_0 a0_1).bind fun bt784 => ((laws_toPlan.f k a0_8 a0_9 l0_10).bind fun bt786 => (some (bt784.1, bt784.2, a0_2, a0_3, a0_4, a0_5, a0_6, a0_7, bt786.1, bt786.2.1, bt786.2.2)))) = some (r1, r2, r3, r4, r5, r6, r7, r8, r9, r10, r11) := h
  clear h
  replace H := Option.bind_eq_some_iff.mp H
  obtain ⟨⟨t784, t785⟩, A20, H⟩ := H
  replace H : ((laws_toPlan.f k a0_8 a0_9 l0_10).bind fun bt786 => (some (t784, t785, a0_2, a0_3, a0_4, a0_5, a0_6, a0_7, bt786.1, bt786.2.1, bt786.2.2))) = some (r1, r2, r3, r4, r5, r6, r7, r8, r9, r10, r11) := H
  have A2 := Aside0.mk A20
  clear A20
  replace H := Option.bind_eq_some_iff.mp H
  obtain ⟨⟨t786, t787, t788⟩, A30, H⟩ := H
  replace H : (some (t784, t785, a0_2, a0_3, a0_4, a0_5, a0_6, a0_7, t786, t787, t788)) = some (r1, r2, r3, r4, r5, r6, r7, r8, r9, r10, r11) := H
  have A3 := Aside0.mk A30
  clear A30
  simp only [Option.some.injEq, Prod.mk.injEq] at H
  obtain ⟨rfl, rfl, rfl, rfl, rfl, rfl, rfl, rfl, rfl, rfl, rfl⟩ := H
  go_enter Try.func35, Try.ntmps35
  go_wp2_with (first | ((with_reducible refine gate_dst (N := 1) rfl ?_); refine box_event ?hg (N := 1) ?hd (cs := #[.int .i64 a0_0, .int .i64 a0_1, .int .i64 a0_2, .int .i64 a0_3, .int .i64 a0_4, .int .i64 a0_5, .int .i64 a0_6, .int .i64 a0_7, .int .i64 a0_8, .int .i64 a0_9, .slice A0_10 l0_10.length c0_10]) (t := 67) ?hr ?_; (case hd => rfl); (case hg => rfl); (case hr => first | (go_simp; done) | (go_simp; rfl)); intro gb781 hg w4 hbox hb; have n0_ := Aside0.mk (below_step (hb_ HB.out) hb); have n1_ := Aside0.mk (hbox); have n2_ := Aside0.mk ((by rw [hg]; exact (below_size (hb_ HB.out)) : w.heap.size ≤ gb781)); have n3_ := Aside0.mk ((by rw [hg]; exact (below_size (hb_ HB.out)) : w.heap.size ≤ gb781)); clear HB; have HB := n0_; have BK781 := n1_; have GW781 := n2_; have GE781 := n3_; clear n0_ n1_ n2_ n3_; clear hb hbox hg) | ((with_reducible refine gate_dst (N := 2) rfl ?_); refine box_event ?hg (N := 2) ?hd (cs := #[.int .i64 0, .int .i64 0, .int .i64 0, .int .i64 0, .int .i64 0, .int .i64 0, .int .i64 0, .int .i64 0, .int .i64 0, .int .i64 0, .slice none 0 0]) (t := 72) ?hr ?_; (case hd => rfl); (case hg => rfl); (case hr => first | (go_simp; done) | (go_simp; rfl)); intro gb782 hg w5 hbox hb; have n0_ := Aside0.mk (bb_ BK781.out hb); have n1_ := Aside0.mk (below_step (hb1_ HB.out GE781.out) hb); have n2_ := Aside0.mk (hbox); have n3_ := Aside0.mk ((by rw [hg]; exact (below_size (hb1_ HB.out GE781.out)) : w.heap.size ≤ gb782)); have n4_ := Aside0.mk ((by rw [hg]; exact (below_size (hb1_ HB.out GE781.out)) : w.heap.size ≤ gb782)); have n5_ := Aside0.mk ((bl_ hg BK781.out : gb781 ≠ gb782)); have n6_ := Aside0.mk ((bg_ hg BK781.out : gb782 ≠ gb781)); clear BK781; clear HB; have BK781 := n0_; have HB := n1_; have BK782 := n2_; have GW782 := n3_; have GE782 := n4_; have NB781_782 := n5_; have NB782_781 := n6_; clear n0_ n1_ n2_ n3_ n4_ n5_ n6_; clear hb hbox hg) | ((with_reducible refine gate_dst (N := 3) rfl ?_); refine box_event ?hg (N := 3) ?hd (cs := #[.int .i64 0, .int .i64 0, .int .i64 0, .int .i64 0, .int .i64 0, .int .i64 0, .int .i64 0, .int .i64 0, .int .i64 0, .int .i64 0, .slice none 0 0]) (t := 72) ?hr ?_; (case hd => rfl); (case hg => rfl); (case hr => first | (go_simp; done) | (go_simp; rfl)); intro gb783 hg w6 hbox hb; have n0_ := Aside0.mk (bb_ BK781.out hb); have n1_ := Aside0.mk (bb_ BK782.out hb); have n2_ := Aside0.mk (below_step (hb2_ HB.out GE781.out GE782.out) hb); have n3_ := Aside0.mk (hbox); have n4_ := Aside0.mk ((by rw [hg]; exact (below_size (hb2_ HB.out GE781.out GE782.out)) : w.heap.size ≤ gb783)); have n5_ := Aside0.mk ((by rw [hg]; exact (below_size (hb2_ HB.out GE781.out GE782.out)) : w.heap.size ≤ gb783)); have n6_ := Aside0.mk ((bl_ hg BK781.out : gb781 ≠ gb783)); have n7_ := Aside0.mk ((bg_ hg BK781.out : gb783 ≠ gb781)); have n8_ := Aside0.mk ((bl_ hg BK782.out : gb782 ≠ gb783)); have n9_ := Aside0.mk ((bg_ hg BK782.out : gb783 ≠ gb782)); clear BK781; clear BK782; clear HB; have BK781 := n0_; have BK782 := n1_; have HB := n2_; have BK783 := n3_; have GW783 := n4_; have GE783 := n5_; have NB781_783 := n6_; have NB783_781 := n7_; have NB782_783 := n8_; have NB783_782 := n9_; clear n0_ n1_ n2_ n3_ n4_ n5_ n6_ n7_ n8_ n9_; clear hb hbox hg; have hnb7 := NB781_782.out; have hnc7 := NB782_781.out; have hnb8 := NB781_783.out; have hnc8 := NB783_781.out; have hcz9_0 := bc_ BK781.out 0 (.int .i64 a0_0) rfl; have hcz9_1 := bc_ BK781.out 1 (.int .i64 a0_1) rfl; have hcz9_2 := bc_ BK781.out 2 (.int .i64 a0_2) rfl; have hcz9_3 := bc_ BK781.out 3 (.int .i64 a0_3) rfl; have hcz9_4 := bc_ BK781.out 4 (.int .i64 a0_4) rfl; have hcz9_5 := bc_ BK781.out 5 (.int .i64 a0_5) rfl; have hcz9_6 := bc_ BK781.out 6 (.int .i64 a0_6) rfl; have hcz9_7 := bc_ BK781.out 7 (.int .i64 a0_7) rfl; have hcz9_8 := bc_ BK781.out 8 (.int .i64 a0_8) rfl; have hcz9_9 := bc_ BK781.out 9 (.int .i64 a0_9) rfl; have hcz9_10 := bc_ BK781.out 10 (.slice A0_10 l0_10.length c0_10) rfl; have hfz9_0 := blk_frozen BK781.out 0; have hfz9_1 := blk_frozen BK781.out 1; have hfz9_2 := blk_frozen BK781.out 2; have hfz9_3 := blk_frozen BK781.out 3; have hfz9_4 := blk_frozen BK781.out 4; have hfz9_5 := blk_frozen BK781.out 5; have hfz9_6 := blk_frozen BK781.out 6; have hfz9_7 := blk_frozen BK781.out 7; have hfz9_8 := blk_frozen BK781.out 8; have hfz9_9 := blk_frozen BK781.out 9; have hfz9_10 := blk_frozen BK781.out 10) | ((with_reducible refine gate_callee (f := 70) rfl ?_); refine goesL_ (some 6) rfl rfl Try.func70 (by kernel_rfl) rfl #[.agg #[.int .i64 a0_0, .int .i64 a0_1]] rfl arr_ ?_; (with_reducible refine (laws_toDrift.calls a0_0 a0_1 t784 t785 _ A2.out).mono ?_); rintro e w10 ⟨rfl, hb⟩; refine ⟨_, rfl, ?_⟩; have n0_ := Aside0.mk (bb_ BK781.out hb); have n1_ := Aside0.mk (bb_ BK782.out hb); have n2_ := Aside0.mk (bb_ BK783.out hb); have n3_ := Aside0.mk (below_step (hb3_ HB.out GE781.out GE782.out GE783.out) hb); clear BK781; clear BK782; clear BK783; clear HB; have BK781 := n0_; have BK782 := n1_; have BK783 := n2_; have HB := n3_; clear n0_ n1_ n2_ n3_; (try clear hb); (try clear hb2); (try clear hk); (try clear hi); have hnb11 := NB783_782.out; have hnc11 := NB782_783.out; have hcz12_0 := bc_ BK783.out 0 (.int .i64 0) rfl; have hcz12_1 := bc_ BK783.out 1 (.int .i64 0) rfl; have hcz12_2 := bc_ BK783.out 2 (.int .i64 0) rfl; have hcz12_3 := bc_ BK783.out 3 (.int .i64 0) rfl; have hcz12_4 := bc_ BK783.out 4 (.int .i64 0) rfl; have hcz12_5 := bc_ BK783.out 5 (.int .i64 0) rfl; have hcz12_6 := bc_ BK783.out 6 (.int .i64 0) rfl; have hcz12_7 := bc_ BK783.out 7 (.int .i64 0) rfl; have hcz12_8 := bc_ BK783.out 8 (.int .i64 0) rfl; have hcz12_9 := bc_ BK783.out 9 (.int .i64 0) rfl; have hcz12_10 := bc_ BK783.out 10 (.slice none 0 0) rfl; have hfz12_0 := blk_frozen BK783.out 0; have hfz12_1 := blk_frozen BK783.out 1; have hfz12_2 := blk_frozen BK783.out 2; have hfz12_3 := blk_frozen BK783.out 3; have hfz12_4 := blk_frozen BK783.out 4; have hfz12_5 := blk_frozen BK783.out 5; have hfz12_6 := blk_frozen BK783.out 6; have hfz12_7 := blk_frozen BK783.out 7; have hfz12_8 := blk_frozen BK783.out 8; have hfz12_9 := blk_frozen BK783.out 9; have hfz12_10 := blk_frozen BK783.out 10; have hcz13_0 := bc_ BK781.out 0 (.int .i64 a0_0) rfl; have hcz13_1 := bc_ BK781.out 1 (.int .i64 a0_1) rfl; have hcz13_2 := bc_ BK781.out 2 (.int .i64 a0_2) rfl; have hcz13_3 := bc_ BK781.out 3 (.int .i64 a0_3) rfl; have hcz13_4 := bc_ BK781.out 4 (.int .i64 a0_4) rfl; have hcz13_5 := bc_ BK781.out 5 (.int .i64 a0_5) rfl; have hcz13_6 := bc_ BK781.out 6 (.int .i64 a0_6) rfl; have hcz13_7 := bc_ BK781.out 7 (.int .i64 a0_7) rfl; have hcz13_8 := bc_ BK781.out 8 (.int .i64 a0_8) rfl; have hcz13_9 := bc_ BK781.out 9 (.int .i64 a0_9) rfl; have hcz13_10 := bc_ BK781.out 10 (.slice A0_10 l0_10.length c0_10) rfl; have hfz13_0 := blk_frozen BK781.out 0; have hfz13_1 := blk_frozen BK781.out 1; have hfz13_2 := blk_frozen BK781.out 2; have hfz13_3 := blk_frozen BK781.out 3; have hfz13_4 := blk_frozen BK781.out 4; have hfz13_5 := blk_frozen BK781.out 5; have hfz13_6 := blk_frozen BK781.out 6; have hfz13_7 := blk_frozen BK781.out 7; have hfz13_8 := blk_frozen BK781.out 8; have hfz13_9 := blk_frozen BK781.out 9; have hfz13_10 := blk_frozen BK781.out 10) | ((with_reducible refine gate_callee (f := 10) rfl ?_); refine goesL_ (some 28) rfl rfl Try.func10 (by kernel_rfl) rfl #[.agg #[.int .i64 a0_8, .int .i64 a0_9, .slice A0_10 l0_10.length c0_10]] rfl arr_ ?_; (with_reducible refine (laws_toPlan.calls k a0_8 a0_9 _ _ l0_10 t786 t787 t788 _ ?side1 ?side2 A3.out).mono ?_); (case side1 => exact Kd.C_below HR0_10.out (hb3_ HB.out GE781.out GE782.out GE783.out)); (case side2 => exact HC0_10.out); rintro e w14 ⟨v789, rfl, ho0, hb⟩; refine ⟨_, rfl, ?_⟩; have n0_ := Aside0.mk (Kd.R_lower ho0 (below_size (hb3_ HB.out GE781.out GE782.out GE783.out))); have n1_ := Aside0.mk (blk_below (g := gb781) (o := .cells #[.int .i64 a0_0, .int .i64 a0_1, .int .i64 a0_2, .int .i64 a0_3, .int .i64 a0_4, .int .i64 a0_5, .int .i64 a0_6, .int .i64 a0_7, .int .i64 a0_8, .int .i64 a0_9, .slice A0_10 l0_10.length c0_10] 67 (0, 0)) (by (with_reducible repeat (first | refine blk_drewN ?_ _ | refine blk_drew ?_ | refine blk_alloc ?_ _)); refine blk_far ?_ NB781_783.out _; (with_reducible repeat (first | refine blk_drewN ?_ _ | refine blk_drew ?_ | refine blk_alloc ?_ _)); refine blk_far ?_ NB781_783.out _; (with_reducible repeat (first | refine blk_drewN ?_ _ | refine blk_drew ?_ | refine blk_alloc ?_ _)); refine blk_far ?_ NB781_783.out _; (with_reducible repeat (first | refine blk_drewN ?_ _ | refine blk_drew ?_ | refine blk_alloc ?_ _)); refine blk_far ?_ NB781_783.out _; (with_reducible repeat (first | refine blk_drewN ?_ _ | refine blk_drew ?_ | refine blk_alloc ?_ _)); refine blk_far ?_ NB781_783.out _; (with_reducible repeat (first | refine blk_drewN ?_ _ | refine blk_drew ?_ | refine blk_alloc ?_ _)); refine blk_far ?_ NB781_783.out _; (with_reducible repeat (first | refine blk_drewN ?_ _ | refine blk_drew ?_ | refine blk_alloc ?_ _)); refine blk_far ?_ NB781_783.out _; (with_reducible repeat (first | refine blk_drewN ?_ _ | refine blk_drew ?_ | refine blk_alloc ?_ _)); refine blk_far ?_ NB781_783.out _; (with_reducible repeat (first | refine blk_drewN ?_ _ | refine blk_drew ?_ | refine blk_alloc ?_ _)); exact BK781.out) hb); have n2_ := Aside0.mk (blk_below (g := gb782) (o := .cells #[.int .i64 0, .int .i64 0, .int .i64 0, .int .i64 0, .int .i64 0, .int .i64 0, .int .i64 0, .int .i64 0, .int .i64 0, .int .i64 0, .slice none 0 0] 72 (0, 0)) (by (with_reducible repeat (first | refine blk_drewN ?_ _ | refine blk_drew ?_ | refine blk_alloc ?_ _)); refine blk_far ?_ NB782_783.out _; (with_reducible repeat (first | refine blk_drewN ?_ _ | refine blk_drew ?_ | refine blk_alloc ?_ _)); refine blk_far ?_ NB782_783.out _; (with_reducible repeat (first | refine blk_drewN ?_ _ | refine blk_drew ?_ | refine blk_alloc ?_ _)); refine blk_far ?_ NB782_783.out _; (with_reducible repeat (first | refine blk_drewN ?_ _ | refine blk_drew ?_ | refine blk_alloc ?_ _)); refine blk_far ?_ NB782_783.out _; (with_reducible repeat (first | refine blk_drewN ?_ _ | refine blk_drew ?_ | refine blk_alloc ?_ _)); refine blk_far ?_ NB782_783.out _; (with_reducible repeat (first | refine blk_drewN ?_ _ | refine blk_drew ?_ | refine blk_alloc ?_ _)); refine blk_far ?_ NB782_783.out _; (with_reducible repeat (first | refine blk_drewN ?_ _ | refine blk_drew ?_ | refine blk_alloc ?_ _)); refine blk_far ?_ NB782_783.out _; (with_reducible repeat (first | refine blk_drewN ?_ _ | refine blk_drew ?_ | refine blk_alloc ?_ _)); refine blk_far ?_ NB782_783.out _; (with_reducible repeat (first | refine blk_drewN ?_ _ | refine blk_drew ?_ | refine blk_alloc ?_ _)); exact BK782.out) hb); have n3_ := Aside0.mk (blk_below (g := gb783) (o := .cells #[.int .i64 t784, .int .i64 t785, .int .i64 a0_2, .int .i64 a0_3, .int .i64 a0_4, .int .i64 a0_5, .int .i64 a0_6, .int .i64 a0_7, .int .i64 0, .int .i64 0, .slice none 0 0] 72 (0, 0)) (by (with_reducible repeat (first | refine blk_drewN ?_ _ | refine blk_drew ?_ | refine blk_alloc ?_ _)); refine blk_put (cs := #[.int .i64 t784, .int .i64 t785, .int .i64 a0_2, .int .i64 a0_3, .int .i64 a0_4, .int .i64 a0_5, .int .i64 a0_6, .int .i64 0, .int .i64 0, .int .i64 0, .slice none 0 0]) ?_ 7 _ rfl; (with_reducible repeat (first | refine blk_drewN ?_ _ | refine blk_drew ?_ | refine blk_alloc ?_ _)); refine blk_put (cs := #[.int .i64 t784, .int .i64 t785, .int .i64 a0_2, .int .i64 a0_3, .int .i64 a0_4, .int .i64 a0_5, .int .i64 0, .int .i64 0, .int .i64 0, .int .i64 0, .slice none 0 0]) ?_ 6 _ rfl; (with_reducible repeat (first | refine blk_drewN ?_ _ | refine blk_drew ?_ | refine blk_alloc ?_ _)); refine blk_put (cs := #[.int .i64 t784, .int .i64 t785, .int .i64 a0_2, .int .i64 a0_3, .int .i64 a0_4, .int .i64 0, .int .i64 0, .int .i64 0, .int .i64 0, .int .i64 0, .slice none 0 0]) ?_ 5 _ rfl; (with_reducible repeat (first | refine blk_drewN ?_ _ | refine blk_drew ?_ | refine blk_alloc ?_ _)); refine blk_put (cs := #[.int .i64 t784, .int .i64 t785, .int .i64 a0_2, .int .i64 a0_3, .int .i64 0, .int .i64 0, .int .i64 0, .int .i64 0, .int .i64 0, .int .i64 0, .slice none 0 0]) ?_ 4 _ rfl; (with_reducible repeat (first | refine blk_drewN ?_ _ | refine blk_drew ?_ | refine blk_alloc ?_ _)); refine blk_put (cs := #[.int .i64 t784, .int .i64 t785, .int .i64 a0_2, .int .i64 0, .int .i64 0, .int .i64 0, .int .i64 0, .int .i64 0, .int .i64 0, .int .i64 0, .slice none 0 0]) ?_ 3 _ rfl; (with_reducible repeat (first | refine blk_drewN ?_ _ | refine blk_drew ?_ | refine blk_alloc ?_ _)); refine blk_put (cs := #[.int .i64 t784, .int .i64 t785, .int .i64 0, .int .i64 0, .int .i64 0, .int .i64 0, .int .i64 0, .int .i64 0, .int .i64 0, .int .i64 0, .slice none 0 0]) ?_ 2 _ rfl; (with_reducible repeat (first | refine blk_drewN ?_ _ | refine blk_drew ?_ | refine blk_alloc ?_ _)); refine blk_put (cs := #[.int .i64 t784, .int .i64 0, .int .i64 0, .int .i64 0, .int .i64 0, .int .i64 0, .int .i64 0, .int .i64 0, .int .i64 0, .int .i64 0, .slice none 0 0]) ?_ 1 _ rfl; (with_reducible repeat (first | refine blk_drewN ?_ _ | refine blk_drew ?_ | refine blk_alloc ?_ _)); refine blk_put (cs := #[.int .i64 0, .int .i64 0, .int .i64 0, .int .i64 0, .int .i64 0, .int .i64 0, .int .i64 0, .int .i64 0, .int .i64 0, .int .i64 0, .slice none 0 0]) ?_ 0 _ rfl; (with_reducible repeat (first | refine blk_drewN ?_ _ | refine blk_drew ?_ | refine blk_alloc ?_ _)); exact BK783.out) hb); have n4_ := Aside0.mk (below_step (hb3_ HB.out GE781.out GE782.out GE783.out) hb); clear BK781; clear BK782; clear BK783; clear HB; have HO790 := n0_; have BK781 := n1_; have BK782 := n2_; have BK783 := n3_; have HB := n4_; clear n0_ n1_ n2_ n3_ n4_; (try clear hb); (try clear hb2); (try clear hk); (try clear hi); (try clear ho0); have hcz15_0 := bc_ BK783.out 0 (.int .i64 t784) rfl; have hcz15_1 := bc_ BK783.out 1 (.int .i64 t785) rfl; have hcz15_2 := bc_ BK783.out 2 (.int .i64 a0_2) rfl; have hcz15_3 := bc_ BK783.out 3 (.int .i64 a0_3) rfl; have hcz15_4 := bc_ BK783.out 4 (.int .i64 a0_4) rfl; have hcz15_5 := bc_ BK783.out 5 (.int .i64 a0_5) rfl; have hcz15_6 := bc_ BK783.out 6 (.int .i64 a0_6) rfl; have hcz15_7 := bc_ BK783.out 7 (.int .i64 a0_7) rfl; have hcz15_8 := bc_ BK783.out 8 (.int .i64 0) rfl; have hcz15_9 := bc_ BK783.out 9 (.int .i64 0) rfl; have hcz15_10 := bc_ BK783.out 10 (.slice none 0 0) rfl; have hfz15_0 := blk_frozen BK783.out 0; have hfz15_1 := blk_frozen BK783.out 1; have hfz15_2 := blk_frozen BK783.out 2; have hfz15_3 := blk_frozen BK783.out 3; have hfz15_4 := blk_frozen BK783.out 4; have hfz15_5 := blk_frozen BK783.out 5; have hfz15_6 := blk_frozen BK783.out 6; have hfz15_7 := blk_frozen BK783.out 7; have hfz15_8 := blk_frozen BK783.out 8; have hfz15_9 := blk_frozen BK783.out 9; have hfz15_10 := blk_frozen BK783.out 10; obtain ⟨Ao16, co16, eo16⟩ := Kd.R_slice HO790.out; subst eo16; have hcz17_0 := bc_ BK782.out 0 (.int .i64 0) rfl; have hcz17_1 := bc_ BK782.out 1 (.int .i64 0) rfl; have hcz17_2 := bc_ BK782.out 2 (.int .i64 0) rfl; have hcz17_3 := bc_ BK782.out 3 (.int .i64 0) rfl; have hcz17_4 := bc_ BK782.out 4 (.int .i64 0) rfl; have hcz17_5 := bc_ BK782.out 5 (.int .i64 0) rfl; have hcz17_6 := bc_ BK782.out 6 (.int .i64 0) rfl; have hcz17_7 := bc_ BK782.out 7 (.int .i64 0) rfl; have hcz17_8 := bc_ BK782.out 8 (.int .i64 0) rfl; have hcz17_9 := bc_ BK782.out 9 (.int .i64 0) rfl; have hcz17_10 := bc_ BK782.out 10 (.slice none 0 0) rfl; have hfz17_0 := blk_frozen BK782.out 0; have hfz17_1 := blk_frozen BK782.out 1; have hfz17_2 := blk_frozen BK782.out 2; have hfz17_3 := blk_frozen BK782.out 3; have hfz17_4 := blk_frozen BK782.out 4; have hfz17_5 := blk_frozen BK782.out 5; have hfz17_6 := blk_frozen BK782.out 6; have hfz17_7 := blk_frozen BK782.out 7; have hfz17_8 := blk_frozen BK782.out 8; have hfz17_9 := blk_frozen BK782.out 9; have hfz17_10 := blk_frozen BK782.out 10))
  refine bodyPost_ret (results_cell_row rfl _ _ gb782 72 #[.int .i64 t784, .int .i64 t785, .int .i64 a0_2, .int .i64 a0_3, .int .i64 a0_4, .int .i64 a0_5, .int .i64 a0_6, .int .i64 a0_7, .int .i64 t786, .int .i64 t787, .slice Ao16 t788.length co16] (0, 0) _ rfl (by (with_reducible repeat (first | refine blk_drewN ?_ _ | refine blk_drew ?_ | refine blk_alloc ?_ _)); refine blk_put (cs := #[.int .i64 t784, .int .i64 t785, .int .i64 a0_2, .int .i64 a0_3, .int .i64 a0_4, .int .i64 a0_5, .int .i64 a0_6, .int .i64 a0_7, .int .i64 t786, .int .i64 t787, .slice none 0 0]) ?_ 10 _ rfl; (with_reducible repeat (first | refine blk_drewN ?_ _ | refine blk_drew ?_ | refine blk_alloc ?_ _)); refine blk_put (cs := #[.int .i64 t784, .int .i64 t785, .int .i64 a0_2, .int .i64 a0_3, .int .i64 a0_4, .int .i64 a0_5, .int .i64 a0_6, .int .i64 a0_7, .int .i64 t786, .int .i64 0, .slice none 0 0]) ?_ 9 _ rfl; (with_reducible repeat (first | refine blk_drewN ?_ _ | refine blk_drew ?_ | refine blk_alloc ?_ _)); refine blk_put (cs := #[.int .i64 t784, .int .i64 t785, .int .i64 a0_2, .int .i64 a0_3, .int .i64 a0_4, .int .i64 a0_5, .int .i64 a0_6, .int .i64 a0_7, .int .i64 0, .int .i64 0, .slice none 0 0]) ?_ 8 _ rfl; (with_reducible repeat (first | refine blk_drewN ?_ _ | refine blk_drew ?_ | refine blk_alloc ?_ _)); refine blk_put (cs := #[.int .i64 t784, .int .i64 t785, .int .i64 a0_2, .int .i64 a0_3, .int .i64 a0_4, .int .i64 a0_5, .int .i64 a0_6, .int .i64 0, .int .i64 0, .int .i64 0, .slice none 0 0]) ?_ 7 _ rfl; (with_reducible repeat (first | refine blk_drewN ?_ _ | refine blk_drew ?_ | refine blk_alloc ?_ _)); refine blk_put (cs := #[.int .i64 t784, .int .i64 t785, .int .i64 a0_2, .int .i64 a0_3, .int .i64 a0_4, .int .i64 a0_5, .int .i64 0, .int .i64 0, .int .i64 0, .int .i64 0, .slice none 0 0]) ?_ 6 _ rfl; (with_reducible repeat (first | refine blk_drewN ?_ _ | refine blk_drew ?_ | refine blk_alloc ?_ _)); refine blk_put (cs := #[.int .i64 t784, .int .i64 t785, .int .i64 a0_2, .int .i64 a0_3, .int .i64 a0_4, .int .i64 0, .int .i64 0, .int .i64 0, .int .i64 0, .int .i64 0, .slice none 0 0]) ?_ 5 _ rfl; (with_reducible repeat (first | refine blk_drewN ?_ _ | refine blk_drew ?_ | refine blk_alloc ?_ _)); refine blk_put (cs := #[.int .i64 t784, .int .i64 t785, .int .i64 a0_2, .int .i64 a0_3, .int .i64 0, .int .i64 0, .int .i64 0, .int .i64 0, .int .i64 0, .int .i64 0, .slice none 0 0]) ?_ 4 _ rfl; (with_reducible repeat (first | refine blk_drewN ?_ _ | refine blk_drew ?_ | refine blk_alloc ?_ _)); refine blk_put (cs := #[.int .i64 t784, .int .i64 t785, .int .i64 a0_2, .int .i64 0, .int .i64 0, .int .i64 0, .int .i64 0, .int .i64 0, .int .i64 0, .int .i64 0, .slice none 0 0]) ?_ 3 _ rfl; (with_reducible repeat (first | refine blk_drewN ?_ _ | refine blk_drew ?_ | refine blk_alloc ?_ _)); refine blk_put (cs := #[.int .i64 t784, .int .i64 t785, .int .i64 0, .int .i64 0, .int .i64 0, .int .i64 0, .int .i64 0, .int .i64 0, .int .i64 0, .int .i64 0, .slice none 0 0]) ?_ 2 _ rfl; (with_reducible repeat (first | refine blk_drewN ?_ _ | refine blk_drew ?_ | refine blk_alloc ?_ _)); refine blk_put (cs := #[.int .i64 t784, .int .i64 0, .int .i64 0, .int .i64 0, .int .i64 0, .int .i64 0, .int .i64 0, .int .i64 0, .int .i64 0, .int .i64 0, .slice none 0 0]) ?_ 1 _ rfl; (with_reducible repeat (first | refine blk_drewN ?_ _ | refine blk_drew ?_ | refine blk_alloc ?_ _)); refine blk_put (cs := #[.int .i64 0, .int .i64 0, .int .i64 0, .int .i64 0, .int .i64 0, .int .i64 0, .int .i64 0, .int .i64 0, .int .i64 0, .int .i64 0, .slice none 0 0]) ?_ 0 _ rfl; (with_reducible repeat (first | refine blk_drewN ?_ _ | refine blk_drew ?_ | refine blk_alloc ?_ _)); refine blk_far ?_ NB782_783.out _; (with_reducible repeat (first | refine blk_drewN ?_ _ | refine blk_drew ?_ | refine blk_alloc ?_ _)); refine blk_far ?_ NB782_783.out _; (with_reducible repeat (first | refine blk_drewN ?_ _ | refine blk_drew ?_ | refine blk_alloc ?_ _)); refine blk_far ?_ NB782_783.out _; (with_reducible repeat (first | refine blk_drewN ?_ _ | refine blk_drew ?_ | refine blk_alloc ?_ _)); exact BK782.out) Try.underlying72 rfl (by kernel_rfl)) rfl ?_
  exact ⟨_, er_, by (with_reducible repeat (first | apply Kd.R_alloc | apply Kd.R_drewN | apply Kd.R_drew)); exact Kd.R_mono (Kd.R_far (p := ⟨gb782, 10, none⟩) (Kd.R_far (p := ⟨gb782, 9, none⟩) (Kd.R_far (p := ⟨gb782, 8, none⟩) (Kd.R_far (p := ⟨gb782, 7, none⟩) (Kd.R_far (p := ⟨gb782, 6, none⟩) (Kd.R_far (p := ⟨gb782, 5, none⟩) (Kd.R_far (p := ⟨gb782, 4, none⟩) (Kd.R_far (p := ⟨gb782, 3, none⟩) (Kd.R_far (p := ⟨gb782, 2, none⟩) (Kd.R_far (p := ⟨gb782, 1, none⟩) (Kd.R_far (p := ⟨gb782, 0, none⟩) (Kd.R_far (p := ⟨gb783, 10, none⟩) (Kd.R_far (p := ⟨gb783, 9, none⟩) (Kd.R_far (p := ⟨gb783, 8, none⟩) (Kd.R_types (Kd.R_types HO790.out BK783.out (by decide)) BK782.out (by decide)) (fun _ hk => hk.1.2) (.int .i64 t786)) (fun _ hk => hk.1.2) (.int .i64 t787)) (fun _ hk => hk.1.2) (.slice Ao16 t788.length co16)) (fun _ hk => hk.2) (.int .i64 t784)) (fun _ hk => hk.2) (.int .i64 t785)) (fun _ hk => hk.2) (.int .i64 a0_2)) (fun _ hk => hk.2) (.int .i64 a0_3)) (fun _ hk => hk.2) (.int .i64 a0_4)) (fun _ hk => hk.2) (.int .i64 a0_5)) (fun _ hk => hk.2) (.int .i64 a0_6)) (fun _ hk => hk.2) (.int .i64 a0_7)) (fun _ hk => hk.2) (.int .i64 t786)) (fun _ hk => hk.2) (.int .i64 t787)) (fun _ hk => hk.2) (.slice Ao16 t788.length co16)) (fun _ hk => trivial), hb3_ HB.out GE781.out GE782.out GE783.out⟩
def impl_in.f (a0 : Int) (a1 : Int) (a2 : Int) : Option (Bool) := if a1 ≤ a0 then (some (decide (a0 ≤ a2))) else (some false)
set_option maxHeartbeats 8000000 in
set_option maxRecDepth 100000 in
theorem impl_in.calls (a0 : Int) (a1 : Int) (a2 : Int) (r : Bool) (w : World) (h : impl_in.f a0 a1 a2 = some r) :
    Calls Try.prog 72 #[.int .i64 a0, .int .i64 a1, .int .i64 a2] w fun e w' => e = .returned (.bool r) ∧ Drawn0 w w' := by
  have H : (if a1 ≤ a0 then (some (decide (a0 ≤ a2))) else (some false)) = some r := h
  clear h
  by_cases c4 : a1 ≤ a0
  · rw [if_pos c4] at H
    have c4b0 : decide (a1 ≤ a0) = true := decide_eq_true c4
    clear c4
    obtain rfl := Option.some.inj H
    go_enter Try.func72, Try.ntmps72
    go_wp2
    go_ret
    exact ⟨by first | rfl | (simp; done) | (simp [*]; done), by repeat (first | exact Drawn0.refl _ | apply Drawn0.step)⟩
  · rw [if_neg c4] at H
    have c4b0 : decide (a1 ≤ a0) = false := decide_eq_false c4
    clear c4
    obtain rfl := Option.some.inj H
    go_enter Try.func72, Try.ntmps72
    go_wp2
    go_ret
    exact ⟨by first | rfl | (simp; done) | (simp [*]; done), by repeat (first | exact Drawn0.refl _ | apply Drawn0.step)⟩
def impl_isTime.f (a0 : Int) : Option (Bool) := (impl_in.f a0 0 1000000000000).bind fun t138 => (some t138)
set_option maxHeartbeats 8000000 in
set_option maxRecDepth 100000 in
theorem impl_isTime.calls (a0 : Int) (r : Bool) (w : World) (h : impl_isTime.f a0 = some r) :
    Calls Try.prog 73 #[.int .i64 a0] w fun e w' => e = .returned (.bool r) ∧ Drawn0 w w' := by
  have H : ((impl_in.f a0 0 1000000000000).bind fun t138 => (some t138)) = some r := h
  clear h
  replace H := Option.bind_eq_some_iff.mp H
  obtain ⟨t138, A20, H⟩ := H
  replace H : (some t138) = some r := H
  have A2 := Aside0.mk A20
  clear A20
  obtain rfl := Option.some.inj H
  go_enter Try.func73, Try.ntmps73
  go_wp2_with (first | ((with_reducible refine gate_callee (f := 72) rfl ?_); refine goesL_ (some 4) rfl rfl Try.func72 (by kernel_rfl) rfl #[.int .i64 a0, .int .i64 0, .int .i64 1000000000000] rfl arr_ ?_; (with_reducible refine (impl_in.calls a0 0 1000000000000 t138 _ A2.out).mono ?_); rintro e w' ⟨rfl, ⟨nd, rfl⟩⟩; refine ⟨_, rfl, ?_⟩))
  go_ret
  exact ⟨by first | rfl | (simp; done) | (simp [*]; done), by repeat (first | exact Drawn0.refl _ | apply Drawn0.step)⟩
def impl_isNode.f (a0 : Int) : Option (Bool) := (impl_in.f a0 0 7).bind fun t139 => (some t139)
set_option maxHeartbeats 8000000 in
set_option maxRecDepth 100000 in
theorem impl_isNode.calls (a0 : Int) (r : Bool) (w : World) (h : impl_isNode.f a0 = some r) :
    Calls Try.prog 78 #[.int .i64 a0] w fun e w' => e = .returned (.bool r) ∧ Drawn0 w w' := by
  have H : ((impl_in.f a0 0 7).bind fun t139 => (some t139)) = some r := h
  clear h
  replace H := Option.bind_eq_some_iff.mp H
  obtain ⟨t139, A20, H⟩ := H
  replace H : (some t139) = some r := H
  have A2 := Aside0.mk A20
  clear A20
  obtain rfl := Option.some.inj H
  go_enter Try.func78, Try.ntmps78
  go_wp2_with (first | ((with_reducible refine gate_callee (f := 72) rfl ?_); refine goesL_ (some 4) rfl rfl Try.func72 (by kernel_rfl) rfl #[.int .i64 a0, .int .i64 0, .int .i64 7] rfl arr_ ?_; (with_reducible refine (impl_in.calls a0 0 7 t139 _ A2.out).mono ?_); rintro e w' ⟨rfl, ⟨nd, rfl⟩⟩; refine ⟨_, rfl, ?_⟩))
  go_ret
  exact ⟨by first | rfl | (simp; done) | (simp [*]; done), by repeat (first | exact Drawn0.refl _ | apply Drawn0.step)⟩
def impl_PlanOk_1.f (a0_0 : Int) (a0_1 : Int) : Option (Bool) := (impl_isNode.f a0_0).bind fun t141 => (if t141 = true then ((impl_in.f a0_1 1 1000000).bind fun t142 => (some (!t142))) else (some true))
set_option maxHeartbeats 8000000 in
set_option maxRecDepth 100000 in
theorem impl_PlanOk_1.calls (a0_0 : Int) (a0_1 : Int) (r : Bool) (w : World) (h : impl_PlanOk_1.f a0_0 a0_1 = some r) :
    Calls Try.prog 77 #[.agg #[.int .i64 a0_0, .int .i64 a0_1]] w fun e w' => e = .returned (.bool r) ∧ Below w.heap.size w w' := by
  have hu78 := Try.underlying78
  have HB := Aside0.mk (Below.refl w.heap.size w)
  have H : ((impl_isNode.f a0_0).bind fun t141 => (if t141 = true then ((impl_in.f a0_1 1 1000000).bind fun t142 => (some (!t142))) else (some true))) = some r := h
  clear h
  replace H := Option.bind_eq_some_iff.mp H
  obtain ⟨t141, A20, H⟩ := H
  replace H : (if t141 = true then ((impl_in.f a0_1 1 1000000).bind fun t142 => (some (!t142))) else (some true)) = some r := H
  have A2 := Aside0.mk A20
  clear A20
  by_cases c3 : t141 = true
  · subst c3
    have H1 : ((impl_in.f a0_1 1 1000000).bind fun t142 => (some (!t142))) = some r := by rw [if_pos rfl] at H; exact H
    clear H
    have H := H1
    clear H1
    replace H := Option.bind_eq_some_iff.mp H
    obtain ⟨t142, A40, H⟩ := H
    replace H : (some (!t142)) = some r := H
    have A4 := Aside0.mk A40
    clear A40
    obtain rfl := Option.some.inj H
    go_enter Try.func77, Try.ntmps77
    go_wp2_with (first | ((with_reducible refine gate_dst (N := 1) rfl ?_); refine box_event ?hg (N := 1) ?hd (cs := #[.int .i64 a0_0, .int .i64 a0_1]) (t := 78) ?hr ?_; (case hd => rfl); (case hg => rfl); (case hr => first | (go_simp; done) | (go_simp; rfl)); intro gb140 hg w5 hbox hb; have n0_ := Aside0.mk (below_step (hb_ HB.out) hb); have n1_ := Aside0.mk (hbox); have n2_ := Aside0.mk ((by rw [hg]; exact (below_size (hb_ HB.out)) : w.heap.size ≤ gb140)); have n3_ := Aside0.mk ((by rw [hg]; exact (below_size (hb_ HB.out)) : w.heap.size ≤ gb140)); clear HB; have HB := n0_; have BK140 := n1_; have GW140 := n2_; have GE140 := n3_; clear n0_ n1_ n2_ n3_; clear hb hbox hg; have hcz6_0 := bc_ BK140.out 0 (.int .i64 a0_0) rfl; have hcz6_1 := bc_ BK140.out 1 (.int .i64 a0_1) rfl; have hfz6_0 := blk_frozen BK140.out 0; have hfz6_1 := blk_frozen BK140.out 1) | ((with_reducible refine gate_callee (f := 78) rfl ?_); refine goesL_ (some 5) rfl rfl Try.func78 (by kernel_rfl) rfl #[.int .i64 a0_0] rfl arr_ ?_; (with_reducible refine (impl_isNode.calls a0_0 true _ A2.out).mono ?_); rintro e w' ⟨rfl, ⟨nd, rfl⟩⟩; refine ⟨_, rfl, ?_⟩) | (go_at_call 72; (with_reducible refine (impl_in.calls a0_1 1 1000000 t142 _ A4.out).mono ?_); rintro e w' ⟨rfl, ⟨nd, rfl⟩⟩))
    go_ret
    exact ⟨er_, hb1_ HB.out GE140.out⟩
  · replace c3 := Bool.eq_false_iff.mpr c3
    subst c3
    have H1 : (some true) = some r := by rw [if_neg (show ¬ (false = true) by decide)] at H; exact H
    clear H
    have H := H1
    clear H1
    obtain rfl := Option.some.inj H
    go_enter Try.func77, Try.ntmps77
    go_wp2_with (first | ((with_reducible refine gate_dst (N := 1) rfl ?_); refine box_event ?hg (N := 1) ?hd (cs := #[.int .i64 a0_0, .int .i64 a0_1]) (t := 78) ?hr ?_; (case hd => rfl); (case hg => rfl); (case hr => first | (go_simp; done) | (go_simp; rfl)); intro gb140 hg w7 hbox hb; have n0_ := Aside0.mk (below_step (hb_ HB.out) hb); have n1_ := Aside0.mk (hbox); have n2_ := Aside0.mk ((by rw [hg]; exact (below_size (hb_ HB.out)) : w.heap.size ≤ gb140)); have n3_ := Aside0.mk ((by rw [hg]; exact (below_size (hb_ HB.out)) : w.heap.size ≤ gb140)); clear HB; have HB := n0_; have BK140 := n1_; have GW140 := n2_; have GE140 := n3_; clear n0_ n1_ n2_ n3_; clear hb hbox hg; have hcz8_0 := bc_ BK140.out 0 (.int .i64 a0_0) rfl; have hcz8_1 := bc_ BK140.out 1 (.int .i64 a0_1) rfl; have hfz8_0 := blk_frozen BK140.out 0; have hfz8_1 := blk_frozen BK140.out 1) | ((with_reducible refine gate_callee (f := 78) rfl ?_); refine goesL_ (some 5) rfl rfl Try.func78 (by kernel_rfl) rfl #[.int .i64 a0_0] rfl arr_ ?_; (with_reducible refine (impl_isNode.calls a0_0 false _ A2.out).mono ?_); rintro e w' ⟨rfl, ⟨nd, rfl⟩⟩; refine ⟨_, rfl, ?_⟩))
    go_ret
    exact ⟨er_, hb1_ HB.out GE140.out⟩
def slices_IndexFunc_Slot.l0 : Nat → List (S78) → Int → Int → Option (Int)
  | 0, _, _, _ => none
  | k + 1, x0, x7, x8 => if x8 < x7 then (if 0 ≤ x8 then (if x8 < (x0.length : Int) then ((impl_PlanOk_1.f ((rd_T78 x0 x8).f0) ((rd_T78 x0 x8).f1)).bind fun t144 => (if t144 = true then (some x8) else (slices_IndexFunc_Slot.l0 k x0 x7 (wrap64 (x8 + 1))))) else (none)) else (none)) else (some (-1))
def slices_IndexFunc_Slot.f (k : Nat) (l0 : List (S78)) : Option (Int) := slices_IndexFunc_Slot.l0 k l0 (l0.length : Int) 0
theorem slices_IndexFunc_Slot.mono_l : ∀ k, (∀ y0 y1 y2, LeO (slices_IndexFunc_Slot.l0 k y0 y1 y2) (slices_IndexFunc_Slot.l0 (k + 1) y0 y1 y2))
  | 0 => fun _ _ _ r h => by simp [slices_IndexFunc_Slot.l0] at h
  | k + 1 => by
    have ih0 := slices_IndexFunc_Slot.mono_l k
    · intro y0 y1 y2
      unfold slices_IndexFunc_Slot.l0
      repeat' first
      | (with_reducible exact ih0 _ _ _)
      | (with_reducible exact LeO.refl _)
      | (with_reducible exact LeO.none _)
      | (with_reducible refine LeO.ite ?_ ?_)
      | (with_reducible refine LeO.bind ?_ (fun _ => ?_))
      | exact ih0 _ _ _
      | exact LeO.none _
      | refine LeO.ite ?_ ?_
      | refine LeO.bind ?_ (fun _ => ?_)
theorem slices_IndexFunc_Slot.mono : ∀ a0 k, LeO (slices_IndexFunc_Slot.f k a0) (slices_IndexFunc_Slot.f (k + 1) a0) := by
  intro a0 k
  have ih0 := slices_IndexFunc_Slot.mono_l k
  unfold slices_IndexFunc_Slot.f
  repeat' first
      | (with_reducible exact ih0 _ _ _)
      | (with_reducible exact LeO.refl _)
      | (with_reducible exact LeO.none _)
      | (with_reducible refine LeO.ite ?_ ?_)
      | (with_reducible refine LeO.bind ?_ (fun _ => ?_))
      | exact ih0 _ _ _
      | exact LeO.none _
      | refine LeO.ite ?_ ?_
      | refine LeO.bind ?_ (fun _ => ?_)
set_option maxHeartbeats 8000000 in
set_option maxRecDepth 100000 in
theorem slices_IndexFunc_Slot.calls (k : Nat) (A0 : Option Addr) (c0 : Nat) (l0 : List (S78)) (r : Int) (w : World) (hr0 : Kd.C k78 w A0 l0.length l0) (hc0 : l0.length ≤ c0) (h : slices_IndexFunc_Slot.f k l0 = some r) :
    Calls Try.prog 95 #[.slice A0 l0.length c0, .func (.func 77) #[] #[]] w fun e w' => e = .returned (.int .i64 r) ∧ Below w.heap.size w w' := by
  have hu78 := Try.underlying78
  have HR0 := Aside0.mk hr0
  have HC0 := Aside0.mk hc0
  clear hr0 hc0
  have HB := Aside0.mk (Below.refl w.heap.size w)
  have H : (slices_IndexFunc_Slot.l0 k l0 (l0.length : Int) 0) = some r := h
  clear h
  have H' := Aside0.mk H
  clear H
  go_enter Try.func95, Try.ntmps95
  go_wp2
  go_loopg [8] k (fun kq v8 w' => ∃ (x8_1 : Int), v8 = .int .i64 x8_1 ∧ Aside0 (slices_IndexFunc_Slot.l0 kq l0 (l0.length : Int) x8_1 = some r) ∧ Aside0 (kq ≤ k) ∧ Aside0 (Below w.heap.size w w'))
  case atStart => exact ⟨(0), (by first | rfl | (simp; done) | (simp [*]; done)), H', ⟨Nat.le_refl _⟩, ⟨hb_ HB.out⟩⟩
  case round =>
    clear H'
    obtain ⟨x8_1, rfl, HA, HK1, HB⟩ := hrel
    cases gk with
    | zero => exact absurd HA.out (by simp [slices_IndexFunc_Slot.l0])
    | succ k1 =>
      have H := HA.out
      clear HA
      simp only [slices_IndexFunc_Slot.l0] at H
      by_cases c2 : x8_1 < (l0.length : Int)
      · rw [if_pos c2] at H
        have c2b0 : decide (x8_1 < (l0.length : Int)) = true := decide_eq_true c2
        clear c2
        by_cases c3 : 0 ≤ x8_1
        · rw [if_pos c3] at H
          have c3b0 : decide (0 ≤ x8_1) = true := decide_eq_true c3
          clear c3
          by_cases c4 : x8_1 < (l0.length : Int)
          · rw [if_pos c4] at H
            have c4b0 : decide (x8_1 < (l0.length : Int)) = true := decide_eq_true c4
            clear c4
            replace H := Option.bind_eq_some_iff.mp H
            obtain ⟨t144, A50, H⟩ := H
            replace H : (if t144 = true then (some x8_1) else (slices_IndexFunc_Slot.l0 k1 l0 (l0.length : Int) (wrap64 (x8_1 + 1)))) = some r := H
            have A5 := Aside0.mk A50
            clear A50
            by_cases c6 : t144 = true
            · subst c6
              have H1 : (some x8_1) = some r := by rw [if_pos rfl] at H; exact H
              clear H
              have H := H1
              clear H1
              obtain rfl := Option.some.inj H
              have p143 : 0 ≤ (x8_1 : Int) := of_decide_eq_true (by first | (with_reducible assumption) | assumption)
              have q143 : x8_1 < (l0.length : Int) := of_decide_eq_true (by first | (with_reducible assumption) | assumption)
              obtain ⟨ad143, e143, hx143_0, hx143_1⟩ := at_T78 HR0.out x8_1 p143 q143
              cases e143
              replace hx143_0 := (HB.out.cell (World.block_lt_of_cell? w _ hx143_0)).trans hx143_0
              replace hx143_1 := (HB.out.cell (World.block_lt_of_cell? w _ hx143_1)).trans hx143_1
              replace p143 := eq_true p143
              replace q143 := eq_true q143
              go_wp2_with (first | (go_at_call 77; (with_reducible refine (impl_PlanOk_1.calls ((rd_T78 l0 x8_1).f0) ((rd_T78 l0 x8_1).f1) true _ A5.out).mono ?_); rintro e w7 ⟨rfl, hb⟩; have n0_ := Aside0.mk (below_step (hb_ HB.out) hb); clear HB; have HB := n0_; clear n0_; (try clear hb); (try clear hb2); (try clear hk); (try clear hi)))
              go_ret
              exact ⟨er_, hb_ HB.out⟩
            · replace c6 := Bool.eq_false_iff.mpr c6
              subst c6
              have H1 : (slices_IndexFunc_Slot.l0 k1 l0 (l0.length : Int) (wrap64 (x8_1 + 1))) = some r := by rw [if_neg (show ¬ (false = true) by decide)] at H; exact H
              clear H
              have H := H1
              clear H1
              have H' := Aside0.mk H
              clear H
              have p143 : 0 ≤ (x8_1 : Int) := of_decide_eq_true (by first | (with_reducible assumption) | assumption)
              have q143 : x8_1 < (l0.length : Int) := of_decide_eq_true (by first | (with_reducible assumption) | assumption)
              obtain ⟨ad143, e143, hx143_0, hx143_1⟩ := at_T78 HR0.out x8_1 p143 q143
              cases e143
              replace hx143_0 := (HB.out.cell (World.block_lt_of_cell? w _ hx143_0)).trans hx143_0
              replace hx143_1 := (HB.out.cell (World.block_lt_of_cell? w _ hx143_1)).trans hx143_1
              replace p143 := eq_true p143
              replace q143 := eq_true q143
              go_wp2_with (first | (go_at_call 77; (with_reducible refine (impl_PlanOk_1.calls ((rd_T78 l0 x8_1).f0) ((rd_T78 l0 x8_1).f1) false _ A5.out).mono ?_); rintro e w8 ⟨rfl, hb⟩; have n0_ := Aside0.mk (below_step (hb_ HB.out) hb); clear HB; have HB := n0_; clear n0_; (try clear hb); (try clear hb2); (try clear hk); (try clear hi)))
              go_roundg k1
              case measure => have := HK1.out; omega
              case rel => exact ⟨(wrap64 (x8_1 + 1)), (by first | rfl | (simp; done) | (simp [*]; done)), H', ⟨by have := HK1.out; omega⟩, ⟨hb_ HB.out⟩⟩
          · rw [if_neg c4] at H
            exact absurd H (by simp)
        · rw [if_neg c3] at H
          exact absurd H (by simp)
      · rw [if_neg c2] at H
        have c2b0 : decide (x8_1 < (l0.length : Int)) = false := decide_eq_false c2
        clear c2
        obtain rfl := Option.some.inj H
        go_wp2
        go_ret
        exact ⟨er_, hb_ HB.out⟩
def slices_ContainsFunc_Slot.f (k : Nat) (l0 : List (S78)) : Option (Bool) := (slices_IndexFunc_Slot.f k l0).bind fun t145 => (some (decide (t145 ≥ 0)))
theorem slices_ContainsFunc_Slot.mono : ∀ a0 k, LeO (slices_ContainsFunc_Slot.f k a0) (slices_ContainsFunc_Slot.f (k + 1) a0) := by
  intro a0 k
  unfold slices_ContainsFunc_Slot.f
  repeat' first
      | (with_reducible exact slices_IndexFunc_Slot.mono _ _)
      | (with_reducible exact LeO.refl _)
      | (with_reducible exact LeO.none _)
      | (with_reducible refine LeO.ite ?_ ?_)
      | (with_reducible refine LeO.bind ?_ (fun _ => ?_))
      | exact slices_IndexFunc_Slot.mono _ _
      | exact LeO.none _
      | refine LeO.ite ?_ ?_
      | refine LeO.bind ?_ (fun _ => ?_)
set_option maxHeartbeats 8000000 in
set_option maxRecDepth 100000 in
theorem slices_ContainsFunc_Slot.calls (k : Nat) (A0 : Option Addr) (c0 : Nat) (l0 : List (S78)) (r : Bool) (w : World) (hr0 : Kd.C k78 w A0 l0.length l0) (hc0 : l0.length ≤ c0) (h : slices_ContainsFunc_Slot.f k l0 = some r) :
    Calls Try.prog 76 #[.slice A0 l0.length c0, .func (.func 77) #[] #[]] w fun e w' => e = .returned (.bool r) ∧ Below w.heap.size w w' := by
  have HR0 := Aside0.mk hr0
  have HC0 := Aside0.mk hc0
  clear hr0 hc0
  have HB := Aside0.mk (Below.refl w.heap.size w)
  have H : ((slices_IndexFunc_Slot.f k l0).bind fun t145 => (some (decide (t145 ≥ 0)))) = some r := h
  clear h
  replace H := Option.bind_eq_some_iff.mp H
  obtain ⟨t145, A20, H⟩ := H
  replace H : (some (decide (t145 ≥ 0))) = some r := H
  have A2 := Aside0.mk A20
  clear A20
  obtain rfl := Option.some.inj H
  go_enter Try.func76, Try.ntmps76
  go_wp2_with (first | ((with_reducible refine gate_callee (f := 95) rfl ?_); refine goesL_ (some 7) rfl rfl Try.func95 (by kernel_rfl) rfl #[.slice A0 l0.length c0, .func (.func 77) #[] #[]] rfl arr_ ?_; (with_reducible refine (slices_IndexFunc_Slot.calls k _ _ l0 t145 _ ?side1 ?side2 A2.out).mono ?_); (case side1 => repeat (first | exact HR0.out | (with_reducible refine Kd.C_alloc ?_ _) | (with_reducible refine Kd.C_drewN ?_ _) | (with_reducible refine Kd.C_drew ?_))); (case side2 => exact HC0.out); rintro e w3 ⟨rfl, hb⟩; refine ⟨_, rfl, ?_⟩; have n0_ := Aside0.mk (below_step (hb_ HB.out) hb); clear HB; have HB := n0_; clear n0_; (try clear hb); (try clear hb2); (try clear hk); (try clear hi)))
  go_ret
  exact ⟨er_, hb_ HB.out⟩
def impl_PlanOk.f (k : Nat) (a0_0 : Int) (a0_1 : Int) (l0_2 : List (S78)) : Option (Bool) := (impl_isTime.f a0_0).bind fun t147 => (if t147 = true then ((impl_in.f a0_1 0 100000).bind fun t148 => (if t148 = true then ((impl_in.f (l0_2.length : Int) 1 12).bind fun t149 => (if t149 = true then ((slices_ContainsFunc_Slot.f k l0_2).bind fun t150 => (some (!t150))) else (some false))) else (some false))) else (some false))
theorem impl_PlanOk.mono : ∀ a0 a1 a2 k, LeO (impl_PlanOk.f k a0 a1 a2) (impl_PlanOk.f (k + 1) a0 a1 a2) := by
  intro a0 a1 a2 k
  unfold impl_PlanOk.f
  repeat' first
      | (with_reducible exact slices_ContainsFunc_Slot.mono _ _)
      | (with_reducible exact LeO.refl _)
      | (with_reducible exact LeO.none _)
      | (with_reducible refine LeO.ite ?_ ?_)
      | (with_reducible refine LeO.bind ?_ (fun _ => ?_))
      | exact slices_ContainsFunc_Slot.mono _ _
      | exact LeO.none _
      | refine LeO.ite ?_ ?_
      | refine LeO.bind ?_ (fun _ => ?_)
set_option maxHeartbeats 8000000 in
set_option maxRecDepth 100000 in
theorem impl_PlanOk.calls (k : Nat) (a0_0 : Int) (a0_1 : Int) (A0_2 : Option Addr) (c0_2 : Nat) (l0_2 : List (S78)) (r : Bool) (w : World) (hr0_2 : Kd.C k78 w A0_2 l0_2.length l0_2) (hc0_2 : l0_2.length ≤ c0_2) (h : impl_PlanOk.f k a0_0 a0_1 l0_2 = some r) :
    Calls Try.prog 40 #[.agg #[.int .i64 a0_0, .int .i64 a0_1, .slice A0_2 l0_2.length c0_2]] w fun e w' => e = .returned (.bool r) ∧ Below w.heap.size w w' := by
  have hu30 := Try.underlying30
  have HR0_2 := Aside0.mk hr0_2
  have HC0_2 := Aside0.mk hc0_2
  clear hr0_2 hc0_2
  have HB := Aside0.mk (Below.refl w.heap.size w)
  have H : ((impl_isTime.f a0_0).bind fun t147 => (if t147 = true then ((impl_in.f a0_1 0 100000).bind fun t148 => (if t148 = true then ((impl_in.f (l0_2.length : Int) 1 12).bind fun t149 => (if t149 = true then ((slices_ContainsFunc_Slot.f k l0_2).bind fun t150 => (some (!t150))) else (some false))) else (some false))) else (some false))) = some r := h
  clear h
  replace H := Option.bind_eq_some_iff.mp H
  obtain ⟨t147, A20, H⟩ := H
  replace H : (if t147 = true then ((impl_in.f a0_1 0 100000).bind fun t148 => (if t148 = true then ((impl_in.f (l0_2.length : Int) 1 12).bind fun t149 => (if t149 = true then ((slices_ContainsFunc_Slot.f k l0_2).bind fun t150 => (some (!t150))) else (some false))) else (some false))) else (some false)) = some r := H
  have A2 := Aside0.mk A20
  clear A20
  by_cases c3 : t147 = true
  · subst c3
    have H1 : ((impl_in.f a0_1 0 100000).bind fun t148 => (if t148 = true then ((impl_in.f (l0_2.length : Int) 1 12).bind fun t149 => (if t149 = true then ((slices_ContainsFunc_Slot.f k l0_2).bind fun t150 => (some (!t150))) else (some false))) else (some false))) = some r := by rw [if_pos rfl] at H; exact H
    clear H
    have H := H1
    clear H1
    replace H := Option.bind_eq_some_iff.mp H
    obtain ⟨t148, A40, H⟩ := H
    replace H : (if t148 = true then ((impl_in.f (l0_2.length : Int) 1 12).bind fun t149 => (if t149 = true then ((slices_ContainsFunc_Slot.f k l0_2).bind fun t150 => (some (!t150))) else (some false))) else (some false)) = some r := H
    have A4 := Aside0.mk A40
    clear A40
    by_cases c5 : t148 = true
    · subst c5
      have H1 : ((impl_in.f (l0_2.length : Int) 1 12).bind fun t149 => (if t149 = true then ((slices_ContainsFunc_Slot.f k l0_2).bind fun t150 => (some (!t150))) else (some false))) = some r := by rw [if_pos rfl] at H; exact H
      clear H
      have H := H1
      clear H1
      replace H := Option.bind_eq_some_iff.mp H
      obtain ⟨t149, A60, H⟩ := H
      replace H : (if t149 = true then ((slices_ContainsFunc_Slot.f k l0_2).bind fun t150 => (some (!t150))) else (some false)) = some r := H
      have A6 := Aside0.mk A60
      clear A60
      by_cases c7 : t149 = true
      · subst c7
        have H1 : ((slices_ContainsFunc_Slot.f k l0_2).bind fun t150 => (some (!t150))) = some r := by rw [if_pos rfl] at H; exact H
        clear H
        have H := H1
        clear H1
        replace H := Option.bind_eq_some_iff.mp H
        obtain ⟨t150, A80, H⟩ := H
        replace H : (some (!t150)) = some r := H
        have A8 := Aside0.mk A80
        clear A80
        obtain rfl := Option.some.inj H
        go_enter Try.func40, Try.ntmps40
        go_wp2_with (first | ((with_reducible refine gate_dst (N := 1) rfl ?_); (try (refine gate_guard (by rfl) ?_; dsimp only)); refine box_event ?hg (N := 1) ?hd (cs := #[.int .i64 a0_0, .int .i64 a0_1, .slice A0_2 l0_2.length c0_2]) (t := 30) ?hr ?_; (case hd => rfl); (case hg => rfl); (case hr => first | (go_simp; done) | (go_simp; rfl)); intro gb146 hg w9 hbox hb; have n0_ := Aside0.mk (below_step (hb_ HB.out) hb); have n1_ := Aside0.mk (hbox); have n2_ := Aside0.mk ((by rw [hg]; exact (below_size (hb_ HB.out)) : w.heap.size ≤ gb146)); have n3_ := Aside0.mk ((by rw [hg]; exact (below_size (hb_ HB.out)) : w.heap.size ≤ gb146)); clear HB; have HB := n0_; have BK146 := n1_; have GW146 := n2_; have GE146 := n3_; clear n0_ n1_ n2_ n3_; clear hb hbox hg; have hcz10_0 := bc_ BK146.out 0 (.int .i64 a0_0) rfl; have hcz10_1 := bc_ BK146.out 1 (.int .i64 a0_1) rfl; have hcz10_2 := bc_ BK146.out 2 (.slice A0_2 l0_2.length c0_2) rfl; have hfz10_0 := blk_frozen BK146.out 0; have hfz10_1 := blk_frozen BK146.out 1; have hfz10_2 := blk_frozen BK146.out 2) | ((with_reducible refine gate_callee (f := 73) rfl ?_); refine goesL_ (some 5) rfl rfl Try.func73 (by kernel_rfl) rfl #[.int .i64 a0_0] rfl arr_ ?_; (with_reducible refine (impl_isTime.calls a0_0 true _ A2.out).mono ?_); rintro e w' ⟨rfl, ⟨nd, rfl⟩⟩; refine ⟨_, rfl, ?_⟩) | (go_at_call 72; (with_reducible refine (impl_in.calls a0_1 0 100000 true _ A4.out).mono ?_); rintro e w' ⟨rfl, ⟨nd, rfl⟩⟩) | (go_at_call 72; (with_reducible refine (impl_in.calls (l0_2.length : Int) 1 12 true _ A6.out).mono ?_); rintro e w' ⟨rfl, ⟨nd, rfl⟩⟩) | (go_at_call 76; (with_reducible refine (slices_ContainsFunc_Slot.calls k _ _ l0_2 t150 _ ?side1 ?side2 A8.out).mono ?_); (case side1 => repeat (first | exact (Kd.C_below HR0_2.out (hb1_ HB.out GE146.out)) | (with_reducible refine Kd.C_alloc ?_ _) | (with_reducible refine Kd.C_drewN ?_ _) | (with_reducible refine Kd.C_drew ?_))); (case side2 => exact HC0_2.out); rintro e w11 ⟨rfl, hb⟩; have n0_ := Aside0.mk (bb_ BK146.out hb); have n1_ := Aside0.mk (below_step (hb1_ HB.out GE146.out) hb); clear BK146; clear HB; have BK146 := n0_; have HB := n1_; clear n0_ n1_; (try clear hb); (try clear hb2); (try clear hk); (try clear hi)))
        go_ret
        exact ⟨er_, hb1_ HB.out GE146.out⟩
      · replace c7 := Bool.eq_false_iff.mpr c7
        subst c7
        have H1 : (some false) = some r := by rw [if_neg (show ¬ (false = true) by decide)] at H; exact H
        clear H
        have H := H1
        clear H1
        obtain rfl := Option.some.inj H
        go_enter Try.func40, Try.ntmps40
        go_wp2_with (first | ((with_reducible refine gate_dst (N := 1) rfl ?_); (try (refine gate_guard (by rfl) ?_; dsimp only)); refine box_event ?hg (N := 1) ?hd (cs := #[.int .i64 a0_0, .int .i64 a0_1, .slice A0_2 l0_2.length c0_2]) (t := 30) ?hr ?_; (case hd => rfl); (case hg => rfl); (case hr => first | (go_simp; done) | (go_simp; rfl)); intro gb146 hg w12 hbox hb; have n0_ := Aside0.mk (below_step (hb_ HB.out) hb); have n1_ := Aside0.mk (hbox); have n2_ := Aside0.mk ((by rw [hg]; exact (below_size (hb_ HB.out)) : w.heap.size ≤ gb146)); have n3_ := Aside0.mk ((by rw [hg]; exact (below_size (hb_ HB.out)) : w.heap.size ≤ gb146)); clear HB; have HB := n0_; have BK146 := n1_; have GW146 := n2_; have GE146 := n3_; clear n0_ n1_ n2_ n3_; clear hb hbox hg; have hcz13_0 := bc_ BK146.out 0 (.int .i64 a0_0) rfl; have hcz13_1 := bc_ BK146.out 1 (.int .i64 a0_1) rfl; have hcz13_2 := bc_ BK146.out 2 (.slice A0_2 l0_2.length c0_2) rfl; have hfz13_0 := blk_frozen BK146.out 0; have hfz13_1 := blk_frozen BK146.out 1; have hfz13_2 := blk_frozen BK146.out 2) | ((with_reducible refine gate_callee (f := 73) rfl ?_); refine goesL_ (some 5) rfl rfl Try.func73 (by kernel_rfl) rfl #[.int .i64 a0_0] rfl arr_ ?_; (with_reducible refine (impl_isTime.calls a0_0 true _ A2.out).mono ?_); rintro e w' ⟨rfl, ⟨nd, rfl⟩⟩; refine ⟨_, rfl, ?_⟩) | (go_at_call 72; (with_reducible refine (impl_in.calls a0_1 0 100000 true _ A4.out).mono ?_); rintro e w' ⟨rfl, ⟨nd, rfl⟩⟩) | (go_at_call 72; (with_reducible refine (impl_in.calls (l0_2.length : Int) 1 12 false _ A6.out).mono ?_); rintro e w' ⟨rfl, ⟨nd, rfl⟩⟩))
        go_ret
        exact ⟨er_, hb1_ HB.out GE146.out⟩
    · replace c5 := Bool.eq_false_iff.mpr c5
      subst c5
      have H1 : (some false) = some r := by rw [if_neg (show ¬ (false = true) by decide)] at H; exact H
      clear H
      have H := H1
      clear H1
      obtain rfl := Option.some.inj H
      go_enter Try.func40, Try.ntmps40
      go_wp2_with (first | ((with_reducible refine gate_dst (N := 1) rfl ?_); (try (refine gate_guard (by rfl) ?_; dsimp only)); refine box_event ?hg (N := 1) ?hd (cs := #[.int .i64 a0_0, .int .i64 a0_1, .slice A0_2 l0_2.length c0_2]) (t := 30) ?hr ?_; (case hd => rfl); (case hg => rfl); (case hr => first | (go_simp; done) | (go_simp; rfl)); intro gb146 hg w14 hbox hb; have n0_ := Aside0.mk (below_step (hb_ HB.out) hb); have n1_ := Aside0.mk (hbox); have n2_ := Aside0.mk ((by rw [hg]; exact (below_size (hb_ HB.out)) : w.heap.size ≤ gb146)); have n3_ := Aside0.mk ((by rw [hg]; exact (below_size (hb_ HB.out)) : w.heap.size ≤ gb146)); clear HB; have HB := n0_; have BK146 := n1_; have GW146 := n2_; have GE146 := n3_; clear n0_ n1_ n2_ n3_; clear hb hbox hg; have hcz15_0 := bc_ BK146.out 0 (.int .i64 a0_0) rfl; have hcz15_1 := bc_ BK146.out 1 (.int .i64 a0_1) rfl; have hcz15_2 := bc_ BK146.out 2 (.slice A0_2 l0_2.length c0_2) rfl; have hfz15_0 := blk_frozen BK146.out 0; have hfz15_1 := blk_frozen BK146.out 1; have hfz15_2 := blk_frozen BK146.out 2) | ((with_reducible refine gate_callee (f := 73) rfl ?_); refine goesL_ (some 5) rfl rfl Try.func73 (by kernel_rfl) rfl #[.int .i64 a0_0] rfl arr_ ?_; (with_reducible refine (impl_isTime.calls a0_0 true _ A2.out).mono ?_); rintro e w' ⟨rfl, ⟨nd, rfl⟩⟩; refine ⟨_, rfl, ?_⟩) | (go_at_call 72; (with_reducible refine (impl_in.calls a0_1 0 100000 false _ A4.out).mono ?_); rintro e w' ⟨rfl, ⟨nd, rfl⟩⟩))
      go_ret
      exact ⟨er_, hb1_ HB.out GE146.out⟩
  · replace c3 := Bool.eq_false_iff.mpr c3
    subst c3
    have H1 : (some false) = some r := by rw [if_neg (show ¬ (false = true) by decide)] at H; exact H
    clear H
    have H := H1
    clear H1
    obtain rfl := Option.some.inj H
    go_enter Try.func40, Try.ntmps40
    go_wp2_with (first | ((with_reducible refine gate_dst (N := 1) rfl ?_); (try (refine gate_guard (by rfl) ?_; dsimp only)); refine box_event ?hg (N := 1) ?hd (cs := #[.int .i64 a0_0, .int .i64 a0_1, .slice A0_2 l0_2.length c0_2]) (t := 30) ?hr ?_; (case hd => rfl); (case hg => rfl); (case hr => first | (go_simp; done) | (go_simp; rfl)); intro gb146 hg w16 hbox hb; have n0_ := Aside0.mk (below_step (hb_ HB.out) hb); have n1_ := Aside0.mk (hbox); have n2_ := Aside0.mk ((by rw [hg]; exact (below_size (hb_ HB.out)) : w.heap.size ≤ gb146)); have n3_ := Aside0.mk ((by rw [hg]; exact (below_size (hb_ HB.out)) : w.heap.size ≤ gb146)); clear HB; have HB := n0_; have BK146 := n1_; have GW146 := n2_; have GE146 := n3_; clear n0_ n1_ n2_ n3_; clear hb hbox hg; have hcz17_0 := bc_ BK146.out 0 (.int .i64 a0_0) rfl; have hcz17_1 := bc_ BK146.out 1 (.int .i64 a0_1) rfl; have hcz17_2 := bc_ BK146.out 2 (.slice A0_2 l0_2.length c0_2) rfl; have hfz17_0 := blk_frozen BK146.out 0; have hfz17_1 := blk_frozen BK146.out 1; have hfz17_2 := blk_frozen BK146.out 2) | ((with_reducible refine gate_callee (f := 73) rfl ?_); refine goesL_ (some 5) rfl rfl Try.func73 (by kernel_rfl) rfl #[.int .i64 a0_0] rfl arr_ ?_; (with_reducible refine (impl_isTime.calls a0_0 false _ A2.out).mono ?_); rintro e w' ⟨rfl, ⟨nd, rfl⟩⟩; refine ⟨_, rfl, ?_⟩))
    go_ret
    exact ⟨er_, hb1_ HB.out GE146.out⟩
def impl_DriftOk.f (a0_0 : Int) (a0_1 : Int) : Option (Bool) := (impl_in.f a0_1 1 1000000).bind fun t792 => (if t792 = true then ((impl_in.f a0_0 0 a0_1).bind fun t793 => (if t793 = true then (some (decide ((wrap64 (2 * a0_0)) ≤ a0_1))) else (some false))) else (some false))
set_option maxHeartbeats 8000000 in
set_option maxRecDepth 100000 in
theorem impl_DriftOk.calls (a0_0 : Int) (a0_1 : Int) (r : Bool) (w : World) (h : impl_DriftOk.f a0_0 a0_1 = some r) :
    Calls Try.prog 71 #[.agg #[.int .i64 a0_0, .int .i64 a0_1]] w fun e w' => e = .returned (.bool r) ∧ Below w.heap.size w w' := by
  have hu70 := Try.underlying70
  have HB := Aside0.mk (Below.refl w.heap.size w)
  have H : ((impl_in.f a0_1 1 1000000).bind fun t792 => (if t792 = true then ((impl_in.f a0_0 0 a0_1).bind fun t793 => (if t793 = true then (some (decide ((wrap64 (2 * a0_0)) ≤ a0_1))) else (some false))) else (some false))) = some r := h
  clear h
  replace H := Option.bind_eq_some_iff.mp H
  obtain ⟨t792, A20, H⟩ := H
  replace H : (if t792 = true then ((impl_in.f a0_0 0 a0_1).bind fun t793 => (if t793 = true then (some (decide ((wrap64 (2 * a0_0)) ≤ a0_1))) else (some false))) else (some false)) = some r := H
  have A2 := Aside0.mk A20
  clear A20
  by_cases c3 : t792 = true
  · subst c3
    have H1 : ((impl_in.f a0_0 0 a0_1).bind fun t793 => (if t793 = true then (some (decide ((wrap64 (2 * a0_0)) ≤ a0_1))) else (some false))) = some r := by rw [if_pos rfl] at H; exact H
    clear H
    have H := H1
    clear H1
    replace H := Option.bind_eq_some_iff.mp H
    obtain ⟨t793, A40, H⟩ := H
    replace H : (if t793 = true then (some (decide ((wrap64 (2 * a0_0)) ≤ a0_1))) else (some false)) = some r := H
    have A4 := Aside0.mk A40
    clear A40
    by_cases c5 : t793 = true
    · subst c5
      have H1 : (some (decide ((wrap64 (2 * a0_0)) ≤ a0_1))) = some r := by rw [if_pos rfl] at H; exact H
      clear H
      have H := H1
      clear H1
      obtain rfl := Option.some.inj H
      go_enter Try.func71, Try.ntmps71
      go_wp2_with (first | ((with_reducible refine gate_dst (N := 1) rfl ?_); refine box_event ?hg (N := 1) ?hd (cs := #[.int .i64 a0_0, .int .i64 a0_1]) (t := 70) ?hr ?_; (case hd => rfl); (case hg => rfl); (case hr => first | (go_simp; done) | (go_simp; rfl)); intro gb791 hg w6 hbox hb; have n0_ := Aside0.mk (below_step (hb_ HB.out) hb); have n1_ := Aside0.mk (hbox); have n2_ := Aside0.mk ((by rw [hg]; exact (below_size (hb_ HB.out)) : w.heap.size ≤ gb791)); have n3_ := Aside0.mk ((by rw [hg]; exact (below_size (hb_ HB.out)) : w.heap.size ≤ gb791)); clear HB; have HB := n0_; have BK791 := n1_; have GW791 := n2_; have GE791 := n3_; clear n0_ n1_ n2_ n3_; clear hb hbox hg; have hcz7_0 := bc_ BK791.out 0 (.int .i64 a0_0) rfl; have hcz7_1 := bc_ BK791.out 1 (.int .i64 a0_1) rfl; have hfz7_0 := blk_frozen BK791.out 0; have hfz7_1 := blk_frozen BK791.out 1) | ((with_reducible refine gate_callee (f := 72) rfl ?_); refine goesL_ (some 5) rfl rfl Try.func72 (by kernel_rfl) rfl #[.int .i64 a0_1, .int .i64 1, .int .i64 1000000] rfl arr_ ?_; (with_reducible refine (impl_in.calls a0_1 1 1000000 true _ A2.out).mono ?_); rintro e w' ⟨rfl, ⟨nd, rfl⟩⟩; refine ⟨_, rfl, ?_⟩) | (go_at_call 72; (with_reducible refine (impl_in.calls a0_0 0 a0_1 true _ A4.out).mono ?_); rintro e w' ⟨rfl, ⟨nd, rfl⟩⟩))
      go_ret
      exact ⟨er_, hb1_ HB.out GE791.out⟩
    · replace c5 := Bool.eq_false_iff.mpr c5
      subst c5
      have H1 : (some false) = some r := by rw [if_neg (show ¬ (false = true) by decide)] at H; exact H
      clear H
      have H := H1
      clear H1
      obtain rfl := Option.some.inj H
      go_enter Try.func71, Try.ntmps71
      go_wp2_with (first | ((with_reducible refine gate_dst (N := 1) rfl ?_); refine box_event ?hg (N := 1) ?hd (cs := #[.int .i64 a0_0, .int .i64 a0_1]) (t := 70) ?hr ?_; (case hd => rfl); (case hg => rfl); (case hr => first | (go_simp; done) | (go_simp; rfl)); intro gb791 hg w8 hbox hb; have n0_ := Aside0.mk (below_step (hb_ HB.out) hb); have n1_ := Aside0.mk (hbox); have n2_ := Aside0.mk ((by rw [hg]; exact (below_size (hb_ HB.out)) : w.heap.size ≤ gb791)); have n3_ := Aside0.mk ((by rw [hg]; exact (below_size (hb_ HB.out)) : w.heap.size ≤ gb791)); clear HB; have HB := n0_; have BK791 := n1_; have GW791 := n2_; have GE791 := n3_; clear n0_ n1_ n2_ n3_; clear hb hbox hg; have hcz9_0 := bc_ BK791.out 0 (.int .i64 a0_0) rfl; have hcz9_1 := bc_ BK791.out 1 (.int .i64 a0_1) rfl; have hfz9_0 := blk_frozen BK791.out 0; have hfz9_1 := blk_frozen BK791.out 1) | ((with_reducible refine gate_callee (f := 72) rfl ?_); refine goesL_ (some 5) rfl rfl Try.func72 (by kernel_rfl) rfl #[.int .i64 a0_1, .int .i64 1, .int .i64 1000000] rfl arr_ ?_; (with_reducible refine (impl_in.calls a0_1 1 1000000 true _ A2.out).mono ?_); rintro e w' ⟨rfl, ⟨nd, rfl⟩⟩; refine ⟨_, rfl, ?_⟩) | (go_at_call 72; (with_reducible refine (impl_in.calls a0_0 0 a0_1 false _ A4.out).mono ?_); rintro e w' ⟨rfl, ⟨nd, rfl⟩⟩))
      go_ret
      exact ⟨er_, hb1_ HB.out GE791.out⟩
  · replace c3 := Bool.eq_false_iff.mpr c3
    subst c3
    have H1 : (some false) = some r := by rw [if_neg (show ¬ (false = true) by decide)] at H; exact H
    clear H
    have H := H1
    clear H1
    obtain rfl := Option.some.inj H
    go_enter Try.func71, Try.ntmps71
    go_wp2_with (first | ((with_reducible refine gate_dst (N := 1) rfl ?_); refine box_event ?hg (N := 1) ?hd (cs := #[.int .i64 a0_0, .int .i64 a0_1]) (t := 70) ?hr ?_; (case hd => rfl); (case hg => rfl); (case hr => first | (go_simp; done) | (go_simp; rfl)); intro gb791 hg w10 hbox hb; have n0_ := Aside0.mk (below_step (hb_ HB.out) hb); have n1_ := Aside0.mk (hbox); have n2_ := Aside0.mk ((by rw [hg]; exact (below_size (hb_ HB.out)) : w.heap.size ≤ gb791)); have n3_ := Aside0.mk ((by rw [hg]; exact (below_size (hb_ HB.out)) : w.heap.size ≤ gb791)); clear HB; have HB := n0_; have BK791 := n1_; have GW791 := n2_; have GE791 := n3_; clear n0_ n1_ n2_ n3_; clear hb hbox hg; have hcz11_0 := bc_ BK791.out 0 (.int .i64 a0_0) rfl; have hcz11_1 := bc_ BK791.out 1 (.int .i64 a0_1) rfl; have hfz11_0 := blk_frozen BK791.out 0; have hfz11_1 := blk_frozen BK791.out 1) | ((with_reducible refine gate_callee (f := 72) rfl ?_); refine goesL_ (some 5) rfl rfl Try.func72 (by kernel_rfl) rfl #[.int .i64 a0_1, .int .i64 1, .int .i64 1000000] rfl arr_ ?_; (with_reducible refine (impl_in.calls a0_1 1 1000000 false _ A2.out).mono ?_); rintro e w' ⟨rfl, ⟨nd, rfl⟩⟩; refine ⟨_, rfl, ?_⟩))
    go_ret
    exact ⟨er_, hb1_ HB.out GE791.out⟩
def impl_CfgOk.f (k : Nat) (a0_0 : Int) (a0_1 : Int) (a0_2 : Int) (a0_3 : Int) (a0_4 : Int) (a0_5 : Int) (a0_6 : Int) (a0_7 : Int) (a0_8 : Int) (a0_9 : Int) (l0_10 : List (S78)) : Option (Bool) := (impl_DriftOk.f a0_0 a0_1).bind fun t795 => (if t795 = true then ((impl_in.f a0_2 0 8).bind fun t796 => (if t796 = true then ((impl_in.f a0_3 1 8).bind fun t797 => (if t797 = true then ((impl_isTime.f a0_4).bind fun t798 => (if t798 = true then ((impl_isTime.f a0_5).bind fun t799 => (if t799 = true then ((impl_isTime.f a0_6).bind fun t800 => (if t800 = true then ((impl_in.f a0_7 1 1000000).bind fun t801 => (if t801 = true then ((impl_PlanOk.f k a0_8 a0_9 l0_10).bind fun t802 => (some t802)) else (some false))) else (some false))) else (some false))) else (some false))) else (some false))) else (some false))) else (some false))
theorem impl_CfgOk.mono : ∀ a0 a1 a2 a3 a4 a5 a6 a7 a8 a9 a10 k, LeO (impl_CfgOk.f k a0 a1 a2 a3 a4 a5 a6 a7 a8 a9 a10) (impl_CfgOk.f (k + 1) a0 a1 a2 a3 a4 a5 a6 a7 a8 a9 a10) := by
  intro a0 a1 a2 a3 a4 a5 a6 a7 a8 a9 a10 k
  unfold impl_CfgOk.f
  repeat' first
      | (with_reducible exact impl_PlanOk.mono _ _ _ _)
      | (with_reducible exact LeO.refl _)
      | (with_reducible exact LeO.none _)
      | (with_reducible refine LeO.ite ?_ ?_)
      | (with_reducible refine LeO.bind ?_ (fun _ => ?_))
      | exact impl_PlanOk.mono _ _ _ _
      | exact LeO.none _
      | refine LeO.ite ?_ ?_
      | refine LeO.bind ?_ (fun _ => ?_)
set_option maxHeartbeats 8000000 in
set_option maxRecDepth 100000 in
theorem impl_CfgOk.calls (k : Nat) (a0_0 : Int) (a0_1 : Int) (a0_2 : Int) (a0_3 : Int) (a0_4 : Int) (a0_5 : Int) (a0_6 : Int) (a0_7 : Int) (a0_8 : Int) (a0_9 : Int) (A0_10 : Option Addr) (c0_10 : Nat) (l0_10 : List (S78)) (r : Bool) (w : World) (hr0_10 : Kd.C k78 w A0_10 l0_10.length l0_10) (hc0_10 : l0_10.length ≤ c0_10) (h : impl_CfgOk.f k a0_0 a0_1 a0_2 a0_3 a0_4 a0_5 a0_6 a0_7 a0_8 a0_9 l0_10 = some r) :
    Calls Try.prog 36 #[.agg #[.int .i64 a0_0, .int .i64 a0_1, .int .i64 a0_2, .int .i64 a0_3, .int .i64 a0_4, .int .i64 a0_5, .int .i64 a0_6, .int .i64 a0_7, .int .i64 a0_8, .int .i64 a0_9, .slice A0_10 l0_10.length c0_10]] w fun e w' => e = .returned (.bool r) ∧ Below w.heap.size w w' := by
  have hu72 := Try.underlying72
  have hu70 := Try.underlying70
  have hu30 := Try.underlying30
  have HR0_10 := Aside0.mk hr0_10
  have HC0_10 := Aside0.mk hc0_10
  clear hr0_10 hc0_10
  have HB := Aside0.mk (Below.refl w.heap.size w)
  have H : ((impl_DriftOk.f a0_0 a0_1).bind fun t795 => (if t795 = true then ((impl_in.f a0_2 0 8).bind fun t796 => (if t796 = true then ((impl_in.f a0_3 1 8).bind fun t797 => (if t797 = true then ((impl_isTime.f a0_4).bind fun t798 => (if t798 = true then ((impl_isTime.f a0_5).bind fun t799 => (if t799 = true then ((impl_isTime.f a0_6).bind fun t800 => (if t800 = true then ((impl_in.f a0_7 1 1000000).bind fun t801 => (if t801 = true then ((impl_PlanOk.f k a0_8 a0_9 l0_10).bind fun t802 => (some t802)) else (some false))) else (some false))) else (some false))) else (some false))) else (some false))) else (some false))) else (some false))) = some r := h
  clear h
  replace H := Option.bind_eq_some_iff.mp H
  obtain ⟨t795, A20, H⟩ := H
  replace H : (if t795 = true then ((impl_in.f a0_2 0 8).bind fun t796 => (if t796 = true then ((impl_in.f a0_3 1 8).bind fun t797 => (if t797 = true then ((impl_isTime.f a0_4).bind fun t798 => (if t798 = true then ((impl_isTime.f a0_5).bind fun t799 => (if t799 = true then ((impl_isTime.f a0_6).bind fun t800 => (if t800 = true then ((impl_in.f a0_7 1 1000000).bind fun t801 => (if t801 = true then ((impl_PlanOk.f k a0_8 a0_9 l0_10).bind fun t802 => (some t802)) else (some false))) else (some false))) else (some false))) else (some false))) else (some false))) else (some false))) else (some false)) = some r := H
  have A2 := Aside0.mk A20
  clear A20
  by_cases c3 : t795 = true
  · subst c3
    have H1 : ((impl_in.f a0_2 0 8).bind fun t796 => (if t796 = true then ((impl_in.f a0_3 1 8).bind fun t797 => (if t797 = true then ((impl_isTime.f a0_4).bind fun t798 => (if t798 = true then ((impl_isTime.f a0_5).bind fun t799 => (if t799 = true then ((impl_isTime.f a0_6).bind fun t800 => (if t800 = true then ((impl_in.f a0_7 1 1000000).bind fun t801 => (if t801 = true then ((impl_PlanOk.f k a0_8 a0_9 l0_10).bind fun t802 => (some t802)) else (some false))) else (some false))) else (some false))) else (some false))) else (some false))) else (some false))) = some r := by rw [if_pos rfl] at H; exact H
    clear H
    have H := H1
    clear H1
    replace H := Option.bind_eq_some_iff.mp H
    obtain ⟨t796, A40, H⟩ := H
    replace H : (if t796 = true then ((impl_in.f a0_3 1 8).bind fun t797 => (if t797 = true then ((impl_isTime.f a0_4).bind fun t798 => (if t798 = true then ((impl_isTime.f a0_5).bind fun t799 => (if t799 = true then ((impl_isTime.f a0_6).bind fun t800 => (if t800 = true then ((impl_in.f a0_7 1 1000000).bind fun t801 => (if t801 = true then ((impl_PlanOk.f k a0_8 a0_9 l0_10).bind fun t802 => (some t802)) else (some false))) else (some false))) else (some false))) else (some false))) else (some false))) else (some false)) = some r := H
    have A4 := Aside0.mk A40
    clear A40
    by_cases c5 : t796 = true
    · subst c5
      have H1 : ((impl_in.f a0_3 1 8).bind fun t797 => (if t797 = true then ((impl_isTime.f a0_4).bind fun t798 => (if t798 = true then ((impl_isTime.f a0_5).bind fun t799 => (if t799 = true then ((impl_isTime.f a0_6).bind fun t800 => (if t800 = true then ((impl_in.f a0_7 1 1000000).bind fun t801 => (if t801 = true then ((impl_PlanOk.f k a0_8 a0_9 l0_10).bind fun t802 => (some t802)) else (some false))) else (some false))) else (some false))) else (some false))) else (some false))) = some r := by rw [if_pos rfl] at H; exact H
      clear H
      have H := H1
      clear H1
      replace H := Option.bind_eq_some_iff.mp H
      obtain ⟨t797, A60, H⟩ := H
      replace H : (if t797 = true then ((impl_isTime.f a0_4).bind fun t798 => (if t798 = true then ((impl_isTime.f a0_5).bind fun t799 => (if t799 = true then ((impl_isTime.f a0_6).bind fun t800 => (if t800 = true then ((impl_in.f a0_7 1 1000000).bind fun t801 => (if t801 = true then ((impl_PlanOk.f k a0_8 a0_9 l0_10).bind fun t802 => (some t802)) else (some false))) else (some false))) else (some false))) else (some false))) else (some false)) = some r := H
      have A6 := Aside0.mk A60
      clear A60
      by_cases c7 : t797 = true
      · subst c7
        have H1 : ((impl_isTime.f a0_4).bind fun t798 => (if t798 = true then ((impl_isTime.f a0_5).bind fun t799 => (if t799 = true then ((impl_isTime.f a0_6).bind fun t800 => (if t800 = true then ((impl_in.f a0_7 1 1000000).bind fun t801 => (if t801 = true then ((impl_PlanOk.f k a0_8 a0_9 l0_10).bind fun t802 => (some t802)) else (some false))) else (some false))) else (some false))) else (some false))) = some r := by rw [if_pos rfl] at H; exact H
        clear H
        have H := H1
        clear H1
        replace H := Option.bind_eq_some_iff.mp H
        obtain ⟨t798, A80, H⟩ := H
        replace H : (if t798 = true then ((impl_isTime.f a0_5).bind fun t799 => (if t799 = true then ((impl_isTime.f a0_6).bind fun t800 => (if t800 = true then ((impl_in.f a0_7 1 1000000).bind fun t801 => (if t801 = true then ((impl_PlanOk.f k a0_8 a0_9 l0_10).bind fun t802 => (some t802)) else (some false))) else (some false))) else (some false))) else (some false)) = some r := H
        have A8 := Aside0.mk A80
        clear A80
        by_cases c9 : t798 = true
        · subst c9
          have H1 : ((impl_isTime.f a0_5).bind fun t799 => (if t799 = true then ((impl_isTime.f a0_6).bind fun t800 => (if t800 = true then ((impl_in.f a0_7 1 1000000).bind fun t801 => (if t801 = true then ((impl_PlanOk.f k a0_8 a0_9 l0_10).bind fun t802 => (some t802)) else (some false))) else (some false))) else (some false))) = some r := by rw [if_pos rfl] at H; exact H
          clear H
          have H := H1
          clear H1
          replace H := Option.bind_eq_some_iff.mp H
          obtain ⟨t799, A100, H⟩ := H
          replace H : (if t799 = true then ((impl_isTime.f a0_6).bind fun t800 => (if t800 = true then ((impl_in.f a0_7 1 1000000).bind fun t801 => (if t801 = true then ((impl_PlanOk.f k a0_8 a0_9 l0_10).bind fun t802 => (some t802)) else (some false))) else (some false))) else (some false)) = some r := H
          have A10 := Aside0.mk A100
          clear A100
          by_cases c11 : t799 = true
          · subst c11
            have H1 : ((impl_isTime.f a0_6).bind fun t800 => (if t800 = true then ((impl_in.f a0_7 1 1000000).bind fun t801 => (if t801 = true then ((impl_PlanOk.f k a0_8 a0_9 l0_10).bind fun t802 => (some t802)) else (some false))) else (some false))) = some r := by rw [if_pos rfl] at H; exact H
            clear H
            have H := H1
            clear H1
            replace H := Option.bind_eq_some_iff.mp H
            obtain ⟨t800, A120, H⟩ := H
            replace H : (if t800 = true then ((impl_in.f a0_7 1 1000000).bind fun t801 => (if t801 = true then ((impl_PlanOk.f k a0_8 a0_9 l0_10).bind fun t802 => (some t802)) else (some false))) else (some false)) = some r := H
            have A12 := Aside0.mk A120
            clear A120
            by_cases c13 : t800 = true
            · subst c13
              have H1 : ((impl_in.f a0_7 1 1000000).bind fun t801 => (if t801 = true then ((impl_PlanOk.f k a0_8 a0_9 l0_10).bind fun t802 => (some t802)) else (some false))) = some r := by rw [if_pos rfl] at H; exact H
              clear H
              have H := H1
              clear H1
              replace H := Option.bind_eq_some_iff.mp H
              obtain ⟨t801, A140, H⟩ := H
              replace H : (if t801 = true then ((impl_PlanOk.f k a0_8 a0_9 l0_10).bind fun t802 => (some t802)) else (some false)) = some r := H
              have A14 := Aside0.mk A140
              clear A140
              by_cases c15 : t801 = true
              · subst c15
                have H1 : ((impl_PlanOk.f k a0_8 a0_9 l0_10).bind fun t802 => (some t802)) = some r := by rw [if_pos rfl] at H; exact H
                clear H
                have H := H1
                clear H1
                replace H := Option.bind_eq_some_iff.mp H
                obtain ⟨t802, A160, H⟩ := H
                replace H : (some t802) = some r := H
                have A16 := Aside0.mk A160
                clear A160
                obtain rfl := Option.some.inj H
                go_enter Try.func36, Try.ntmps36
                go_wp2_with (first | ((with_reducible refine gate_dst (N := 1) rfl ?_); refine box_event ?hg (N := 1) ?hd (cs := #[.int .i64 a0_0, .int .i64 a0_1, .int .i64 a0_2, .int .i64 a0_3, .int .i64 a0_4, .int .i64 a0_5, .int .i64 a0_6, .int .i64 a0_7, .int .i64 a0_8, .int .i64 a0_9, .slice A0_10 l0_10.length c0_10]) (t := 72) ?hr ?_; (case hd => rfl); (case hg => rfl); (case hr => first | (go_simp; done) | (go_simp; rfl)); intro gb794 hg w17 hbox hb; have n0_ := Aside0.mk (below_step (hb_ HB.out) hb); have n1_ := Aside0.mk (hbox); have n2_ := Aside0.mk ((by rw [hg]; exact (below_size (hb_ HB.out)) : w.heap.size ≤ gb794)); have n3_ := Aside0.mk ((by rw [hg]; exact (below_size (hb_ HB.out)) : w.heap.size ≤ gb794)); clear HB; have HB := n0_; have BK794 := n1_; have GW794 := n2_; have GE794 := n3_; clear n0_ n1_ n2_ n3_; clear hb hbox hg; have hcz18_0 := bc_ BK794.out 0 (.int .i64 a0_0) rfl; have hcz18_1 := bc_ BK794.out 1 (.int .i64 a0_1) rfl; have hcz18_2 := bc_ BK794.out 2 (.int .i64 a0_2) rfl; have hcz18_3 := bc_ BK794.out 3 (.int .i64 a0_3) rfl; have hcz18_4 := bc_ BK794.out 4 (.int .i64 a0_4) rfl; have hcz18_5 := bc_ BK794.out 5 (.int .i64 a0_5) rfl; have hcz18_6 := bc_ BK794.out 6 (.int .i64 a0_6) rfl; have hcz18_7 := bc_ BK794.out 7 (.int .i64 a0_7) rfl; have hcz18_8 := bc_ BK794.out 8 (.int .i64 a0_8) rfl; have hcz18_9 := bc_ BK794.out 9 (.int .i64 a0_9) rfl; have hcz18_10 := bc_ BK794.out 10 (.slice A0_10 l0_10.length c0_10) rfl; have hfz18_0 := blk_frozen BK794.out 0; have hfz18_1 := blk_frozen BK794.out 1; have hfz18_2 := blk_frozen BK794.out 2; have hfz18_3 := blk_frozen BK794.out 3; have hfz18_4 := blk_frozen BK794.out 4; have hfz18_5 := blk_frozen BK794.out 5; have hfz18_6 := blk_frozen BK794.out 6; have hfz18_7 := blk_frozen BK794.out 7; have hfz18_8 := blk_frozen BK794.out 8; have hfz18_9 := blk_frozen BK794.out 9; have hfz18_10 := blk_frozen BK794.out 10) | ((with_reducible refine gate_callee (f := 71) rfl ?_); refine goesL_ (some 5) rfl rfl Try.func71 (by kernel_rfl) rfl #[.agg #[.int .i64 a0_0, .int .i64 a0_1]] rfl arr_ ?_; (with_reducible refine (impl_DriftOk.calls a0_0 a0_1 true _ A2.out).mono ?_); rintro e w19 ⟨rfl, hb⟩; refine ⟨_, rfl, ?_⟩; have n0_ := Aside0.mk (bb_ BK794.out hb); have n1_ := Aside0.mk (below_step (hb1_ HB.out GE794.out) hb); clear BK794; clear HB; have BK794 := n0_; have HB := n1_; clear n0_ n1_; (try clear hb); (try clear hb2); (try clear hk); (try clear hi); have hcz20_0 := bc_ BK794.out 0 (.int .i64 a0_0) rfl; have hcz20_1 := bc_ BK794.out 1 (.int .i64 a0_1) rfl; have hcz20_2 := bc_ BK794.out 2 (.int .i64 a0_2) rfl; have hcz20_3 := bc_ BK794.out 3 (.int .i64 a0_3) rfl; have hcz20_4 := bc_ BK794.out 4 (.int .i64 a0_4) rfl; have hcz20_5 := bc_ BK794.out 5 (.int .i64 a0_5) rfl; have hcz20_6 := bc_ BK794.out 6 (.int .i64 a0_6) rfl; have hcz20_7 := bc_ BK794.out 7 (.int .i64 a0_7) rfl; have hcz20_8 := bc_ BK794.out 8 (.int .i64 a0_8) rfl; have hcz20_9 := bc_ BK794.out 9 (.int .i64 a0_9) rfl; have hcz20_10 := bc_ BK794.out 10 (.slice A0_10 l0_10.length c0_10) rfl; have hfz20_0 := blk_frozen BK794.out 0; have hfz20_1 := blk_frozen BK794.out 1; have hfz20_2 := blk_frozen BK794.out 2; have hfz20_3 := blk_frozen BK794.out 3; have hfz20_4 := blk_frozen BK794.out 4; have hfz20_5 := blk_frozen BK794.out 5; have hfz20_6 := blk_frozen BK794.out 6; have hfz20_7 := blk_frozen BK794.out 7; have hfz20_8 := blk_frozen BK794.out 8; have hfz20_9 := blk_frozen BK794.out 9; have hfz20_10 := blk_frozen BK794.out 10) | (go_at_call 72; (with_reducible refine (impl_in.calls a0_2 0 8 true _ A4.out).mono ?_); rintro e w' ⟨rfl, ⟨nd, rfl⟩⟩) | (go_at_call 72; (with_reducible refine (impl_in.calls a0_3 1 8 true _ A6.out).mono ?_); rintro e w' ⟨rfl, ⟨nd, rfl⟩⟩) | (go_at_call 73; (with_reducible refine (impl_isTime.calls a0_4 true _ A8.out).mono ?_); rintro e w' ⟨rfl, ⟨nd, rfl⟩⟩) | (go_at_call 73; (with_reducible refine (impl_isTime.calls a0_5 true _ A10.out).mono ?_); rintro e w' ⟨rfl, ⟨nd, rfl⟩⟩) | (go_at_call 73; (with_reducible refine (impl_isTime.calls a0_6 true _ A12.out).mono ?_); rintro e w' ⟨rfl, ⟨nd, rfl⟩⟩) | (go_at_call 72; (with_reducible refine (impl_in.calls a0_7 1 1000000 true _ A14.out).mono ?_); rintro e w' ⟨rfl, ⟨nd, rfl⟩⟩) | (go_at_call 40; (with_reducible refine (impl_PlanOk.calls k a0_8 a0_9 _ _ l0_10 t802 _ ?side1 ?side2 A16.out).mono ?_); (case side1 => repeat (first | exact (Kd.C_below HR0_10.out (hb1_ HB.out GE794.out)) | (with_reducible refine Kd.C_alloc ?_ _) | (with_reducible refine Kd.C_drewN ?_ _) | (with_reducible refine Kd.C_drew ?_))); (case side2 => exact HC0_10.out); rintro e w21 ⟨rfl, hb⟩; have n0_ := Aside0.mk (bb_ BK794.out hb); have n1_ := Aside0.mk (below_step (hb1_ HB.out GE794.out) hb); clear BK794; clear HB; have BK794 := n0_; have HB := n1_; clear n0_ n1_; (try clear hb); (try clear hb2); (try clear hk); (try clear hi)))
                go_ret
                exact ⟨er_, hb1_ HB.out GE794.out⟩
              · replace c15 := Bool.eq_false_iff.mpr c15
                subst c15
                have H1 : (some false) = some r := by rw [if_neg (show ¬ (false = true) by decide)] at H; exact H
                clear H
                have H := H1
                clear H1
                obtain rfl := Option.some.inj H
                go_enter Try.func36, Try.ntmps36
                go_wp2_with (first | ((with_reducible refine gate_dst (N := 1) rfl ?_); refine box_event ?hg (N := 1) ?hd (cs := #[.int .i64 a0_0, .int .i64 a0_1, .int .i64 a0_2, .int .i64 a0_3, .int .i64 a0_4, .int .i64 a0_5, .int .i64 a0_6, .int .i64 a0_7, .int .i64 a0_8, .int .i64 a0_9, .slice A0_10 l0_10.length c0_10]) (t := 72) ?hr ?_; (case hd => rfl); (case hg => rfl); (case hr => first | (go_simp; done) | (go_simp; rfl)); intro gb794 hg w22 hbox hb; have n0_ := Aside0.mk (below_step (hb_ HB.out) hb); have n1_ := Aside0.mk (hbox); have n2_ := Aside0.mk ((by rw [hg]; exact (below_size (hb_ HB.out)) : w.heap.size ≤ gb794)); have n3_ := Aside0.mk ((by rw [hg]; exact (below_size (hb_ HB.out)) : w.heap.size ≤ gb794)); clear HB; have HB := n0_; have BK794 := n1_; have GW794 := n2_; have GE794 := n3_; clear n0_ n1_ n2_ n3_; clear hb hbox hg; have hcz23_0 := bc_ BK794.out 0 (.int .i64 a0_0) rfl; have hcz23_1 := bc_ BK794.out 1 (.int .i64 a0_1) rfl; have hcz23_2 := bc_ BK794.out 2 (.int .i64 a0_2) rfl; have hcz23_3 := bc_ BK794.out 3 (.int .i64 a0_3) rfl; have hcz23_4 := bc_ BK794.out 4 (.int .i64 a0_4) rfl; have hcz23_5 := bc_ BK794.out 5 (.int .i64 a0_5) rfl; have hcz23_6 := bc_ BK794.out 6 (.int .i64 a0_6) rfl; have hcz23_7 := bc_ BK794.out 7 (.int .i64 a0_7) rfl; have hcz23_8 := bc_ BK794.out 8 (.int .i64 a0_8) rfl; have hcz23_9 := bc_ BK794.out 9 (.int .i64 a0_9) rfl; have hcz23_10 := bc_ BK794.out 10 (.slice A0_10 l0_10.length c0_10) rfl; have hfz23_0 := blk_frozen BK794.out 0; have hfz23_1 := blk_frozen BK794.out 1; have hfz23_2 := blk_frozen BK794.out 2; have hfz23_3 := blk_frozen BK794.out 3; have hfz23_4 := blk_frozen BK794.out 4; have hfz23_5 := blk_frozen BK794.out 5; have hfz23_6 := blk_frozen BK794.out 6; have hfz23_7 := blk_frozen BK794.out 7; have hfz23_8 := blk_frozen BK794.out 8; have hfz23_9 := blk_frozen BK794.out 9; have hfz23_10 := blk_frozen BK794.out 10) | ((with_reducible refine gate_callee (f := 71) rfl ?_); refine goesL_ (some 5) rfl rfl Try.func71 (by kernel_rfl) rfl #[.agg #[.int .i64 a0_0, .int .i64 a0_1]] rfl arr_ ?_; (with_reducible refine (impl_DriftOk.calls a0_0 a0_1 true _ A2.out).mono ?_); rintro e w24 ⟨rfl, hb⟩; refine ⟨_, rfl, ?_⟩; have n0_ := Aside0.mk (bb_ BK794.out hb); have n1_ := Aside0.mk (below_step (hb1_ HB.out GE794.out) hb); clear BK794; clear HB; have BK794 := n0_; have HB := n1_; clear n0_ n1_; (try clear hb); (try clear hb2); (try clear hk); (try clear hi); have hcz25_0 := bc_ BK794.out 0 (.int .i64 a0_0) rfl; have hcz25_1 := bc_ BK794.out 1 (.int .i64 a0_1) rfl; have hcz25_2 := bc_ BK794.out 2 (.int .i64 a0_2) rfl; have hcz25_3 := bc_ BK794.out 3 (.int .i64 a0_3) rfl; have hcz25_4 := bc_ BK794.out 4 (.int .i64 a0_4) rfl; have hcz25_5 := bc_ BK794.out 5 (.int .i64 a0_5) rfl; have hcz25_6 := bc_ BK794.out 6 (.int .i64 a0_6) rfl; have hcz25_7 := bc_ BK794.out 7 (.int .i64 a0_7) rfl; have hcz25_8 := bc_ BK794.out 8 (.int .i64 a0_8) rfl; have hcz25_9 := bc_ BK794.out 9 (.int .i64 a0_9) rfl; have hcz25_10 := bc_ BK794.out 10 (.slice A0_10 l0_10.length c0_10) rfl; have hfz25_0 := blk_frozen BK794.out 0; have hfz25_1 := blk_frozen BK794.out 1; have hfz25_2 := blk_frozen BK794.out 2; have hfz25_3 := blk_frozen BK794.out 3; have hfz25_4 := blk_frozen BK794.out 4; have hfz25_5 := blk_frozen BK794.out 5; have hfz25_6 := blk_frozen BK794.out 6; have hfz25_7 := blk_frozen BK794.out 7; have hfz25_8 := blk_frozen BK794.out 8; have hfz25_9 := blk_frozen BK794.out 9; have hfz25_10 := blk_frozen BK794.out 10) | (go_at_call 72; (with_reducible refine (impl_in.calls a0_2 0 8 true _ A4.out).mono ?_); rintro e w' ⟨rfl, ⟨nd, rfl⟩⟩) | (go_at_call 72; (with_reducible refine (impl_in.calls a0_3 1 8 true _ A6.out).mono ?_); rintro e w' ⟨rfl, ⟨nd, rfl⟩⟩) | (go_at_call 73; (with_reducible refine (impl_isTime.calls a0_4 true _ A8.out).mono ?_); rintro e w' ⟨rfl, ⟨nd, rfl⟩⟩) | (go_at_call 73; (with_reducible refine (impl_isTime.calls a0_5 true _ A10.out).mono ?_); rintro e w' ⟨rfl, ⟨nd, rfl⟩⟩) | (go_at_call 73; (with_reducible refine (impl_isTime.calls a0_6 true _ A12.out).mono ?_); rintro e w' ⟨rfl, ⟨nd, rfl⟩⟩) | (go_at_call 72; (with_reducible refine (impl_in.calls a0_7 1 1000000 false _ A14.out).mono ?_); rintro e w' ⟨rfl, ⟨nd, rfl⟩⟩))
                go_ret
                exact ⟨er_, hb1_ HB.out GE794.out⟩
            · replace c13 := Bool.eq_false_iff.mpr c13
              subst c13
              have H1 : (some false) = some r := by rw [if_neg (show ¬ (false = true) by decide)] at H; exact H
              clear H
              have H := H1
              clear H1
              obtain rfl := Option.some.inj H
              go_enter Try.func36, Try.ntmps36
              go_wp2_with (first | ((with_reducible refine gate_dst (N := 1) rfl ?_); refine box_event ?hg (N := 1) ?hd (cs := #[.int .i64 a0_0, .int .i64 a0_1, .int .i64 a0_2, .int .i64 a0_3, .int .i64 a0_4, .int .i64 a0_5, .int .i64 a0_6, .int .i64 a0_7, .int .i64 a0_8, .int .i64 a0_9, .slice A0_10 l0_10.length c0_10]) (t := 72) ?hr ?_; (case hd => rfl); (case hg => rfl); (case hr => first | (go_simp; done) | (go_simp; rfl)); intro gb794 hg w26 hbox hb; have n0_ := Aside0.mk (below_step (hb_ HB.out) hb); have n1_ := Aside0.mk (hbox); have n2_ := Aside0.mk ((by rw [hg]; exact (below_size (hb_ HB.out)) : w.heap.size ≤ gb794)); have n3_ := Aside0.mk ((by rw [hg]; exact (below_size (hb_ HB.out)) : w.heap.size ≤ gb794)); clear HB; have HB := n0_; have BK794 := n1_; have GW794 := n2_; have GE794 := n3_; clear n0_ n1_ n2_ n3_; clear hb hbox hg; have hcz27_0 := bc_ BK794.out 0 (.int .i64 a0_0) rfl; have hcz27_1 := bc_ BK794.out 1 (.int .i64 a0_1) rfl; have hcz27_2 := bc_ BK794.out 2 (.int .i64 a0_2) rfl; have hcz27_3 := bc_ BK794.out 3 (.int .i64 a0_3) rfl; have hcz27_4 := bc_ BK794.out 4 (.int .i64 a0_4) rfl; have hcz27_5 := bc_ BK794.out 5 (.int .i64 a0_5) rfl; have hcz27_6 := bc_ BK794.out 6 (.int .i64 a0_6) rfl; have hcz27_7 := bc_ BK794.out 7 (.int .i64 a0_7) rfl; have hcz27_8 := bc_ BK794.out 8 (.int .i64 a0_8) rfl; have hcz27_9 := bc_ BK794.out 9 (.int .i64 a0_9) rfl; have hcz27_10 := bc_ BK794.out 10 (.slice A0_10 l0_10.length c0_10) rfl; have hfz27_0 := blk_frozen BK794.out 0; have hfz27_1 := blk_frozen BK794.out 1; have hfz27_2 := blk_frozen BK794.out 2; have hfz27_3 := blk_frozen BK794.out 3; have hfz27_4 := blk_frozen BK794.out 4; have hfz27_5 := blk_frozen BK794.out 5; have hfz27_6 := blk_frozen BK794.out 6; have hfz27_7 := blk_frozen BK794.out 7; have hfz27_8 := blk_frozen BK794.out 8; have hfz27_9 := blk_frozen BK794.out 9; have hfz27_10 := blk_frozen BK794.out 10) | ((with_reducible refine gate_callee (f := 71) rfl ?_); refine goesL_ (some 5) rfl rfl Try.func71 (by kernel_rfl) rfl #[.agg #[.int .i64 a0_0, .int .i64 a0_1]] rfl arr_ ?_; (with_reducible refine (impl_DriftOk.calls a0_0 a0_1 true _ A2.out).mono ?_); rintro e w28 ⟨rfl, hb⟩; refine ⟨_, rfl, ?_⟩; have n0_ := Aside0.mk (bb_ BK794.out hb); have n1_ := Aside0.mk (below_step (hb1_ HB.out GE794.out) hb); clear BK794; clear HB; have BK794 := n0_; have HB := n1_; clear n0_ n1_; (try clear hb); (try clear hb2); (try clear hk); (try clear hi); have hcz29_0 := bc_ BK794.out 0 (.int .i64 a0_0) rfl; have hcz29_1 := bc_ BK794.out 1 (.int .i64 a0_1) rfl; have hcz29_2 := bc_ BK794.out 2 (.int .i64 a0_2) rfl; have hcz29_3 := bc_ BK794.out 3 (.int .i64 a0_3) rfl; have hcz29_4 := bc_ BK794.out 4 (.int .i64 a0_4) rfl; have hcz29_5 := bc_ BK794.out 5 (.int .i64 a0_5) rfl; have hcz29_6 := bc_ BK794.out 6 (.int .i64 a0_6) rfl; have hcz29_7 := bc_ BK794.out 7 (.int .i64 a0_7) rfl; have hcz29_8 := bc_ BK794.out 8 (.int .i64 a0_8) rfl; have hcz29_9 := bc_ BK794.out 9 (.int .i64 a0_9) rfl; have hcz29_10 := bc_ BK794.out 10 (.slice A0_10 l0_10.length c0_10) rfl; have hfz29_0 := blk_frozen BK794.out 0; have hfz29_1 := blk_frozen BK794.out 1; have hfz29_2 := blk_frozen BK794.out 2; have hfz29_3 := blk_frozen BK794.out 3; have hfz29_4 := blk_frozen BK794.out 4; have hfz29_5 := blk_frozen BK794.out 5; have hfz29_6 := blk_frozen BK794.out 6; have hfz29_7 := blk_frozen BK794.out 7; have hfz29_8 := blk_frozen BK794.out 8; have hfz29_9 := blk_frozen BK794.out 9; have hfz29_10 := blk_frozen BK794.out 10) | (go_at_call 72; (with_reducible refine (impl_in.calls a0_2 0 8 true _ A4.out).mono ?_); rintro e w' ⟨rfl, ⟨nd, rfl⟩⟩) | (go_at_call 72; (with_reducible refine (impl_in.calls a0_3 1 8 true _ A6.out).mono ?_); rintro e w' ⟨rfl, ⟨nd, rfl⟩⟩) | (go_at_call 73; (with_reducible refine (impl_isTime.calls a0_4 true _ A8.out).mono ?_); rintro e w' ⟨rfl, ⟨nd, rfl⟩⟩) | (go_at_call 73; (with_reducible refine (impl_isTime.calls a0_5 true _ A10.out).mono ?_); rintro e w' ⟨rfl, ⟨nd, rfl⟩⟩) | (go_at_call 73; (with_reducible refine (impl_isTime.calls a0_6 false _ A12.out).mono ?_); rintro e w' ⟨rfl, ⟨nd, rfl⟩⟩))
              go_ret
              exact ⟨er_, hb1_ HB.out GE794.out⟩
          · replace c11 := Bool.eq_false_iff.mpr c11
            subst c11
            have H1 : (some false) = some r := by rw [if_neg (show ¬ (false = true) by decide)] at H; exact H
            clear H
            have H := H1
            clear H1
            obtain rfl := Option.some.inj H
            go_enter Try.func36, Try.ntmps36
            go_wp2_with (first | ((with_reducible refine gate_dst (N := 1) rfl ?_); refine box_event ?hg (N := 1) ?hd (cs := #[.int .i64 a0_0, .int .i64 a0_1, .int .i64 a0_2, .int .i64 a0_3, .int .i64 a0_4, .int .i64 a0_5, .int .i64 a0_6, .int .i64 a0_7, .int .i64 a0_8, .int .i64 a0_9, .slice A0_10 l0_10.length c0_10]) (t := 72) ?hr ?_; (case hd => rfl); (case hg => rfl); (case hr => first | (go_simp; done) | (go_simp; rfl)); intro gb794 hg w30 hbox hb; have n0_ := Aside0.mk (below_step (hb_ HB.out) hb); have n1_ := Aside0.mk (hbox); have n2_ := Aside0.mk ((by rw [hg]; exact (below_size (hb_ HB.out)) : w.heap.size ≤ gb794)); have n3_ := Aside0.mk ((by rw [hg]; exact (below_size (hb_ HB.out)) : w.heap.size ≤ gb794)); clear HB; have HB := n0_; have BK794 := n1_; have GW794 := n2_; have GE794 := n3_; clear n0_ n1_ n2_ n3_; clear hb hbox hg; have hcz31_0 := bc_ BK794.out 0 (.int .i64 a0_0) rfl; have hcz31_1 := bc_ BK794.out 1 (.int .i64 a0_1) rfl; have hcz31_2 := bc_ BK794.out 2 (.int .i64 a0_2) rfl; have hcz31_3 := bc_ BK794.out 3 (.int .i64 a0_3) rfl; have hcz31_4 := bc_ BK794.out 4 (.int .i64 a0_4) rfl; have hcz31_5 := bc_ BK794.out 5 (.int .i64 a0_5) rfl; have hcz31_6 := bc_ BK794.out 6 (.int .i64 a0_6) rfl; have hcz31_7 := bc_ BK794.out 7 (.int .i64 a0_7) rfl; have hcz31_8 := bc_ BK794.out 8 (.int .i64 a0_8) rfl; have hcz31_9 := bc_ BK794.out 9 (.int .i64 a0_9) rfl; have hcz31_10 := bc_ BK794.out 10 (.slice A0_10 l0_10.length c0_10) rfl; have hfz31_0 := blk_frozen BK794.out 0; have hfz31_1 := blk_frozen BK794.out 1; have hfz31_2 := blk_frozen BK794.out 2; have hfz31_3 := blk_frozen BK794.out 3; have hfz31_4 := blk_frozen BK794.out 4; have hfz31_5 := blk_frozen BK794.out 5; have hfz31_6 := blk_frozen BK794.out 6; have hfz31_7 := blk_frozen BK794.out 7; have hfz31_8 := blk_frozen BK794.out 8; have hfz31_9 := blk_frozen BK794.out 9; have hfz31_10 := blk_frozen BK794.out 10) | ((with_reducible refine gate_callee (f := 71) rfl ?_); refine goesL_ (some 5) rfl rfl Try.func71 (by kernel_rfl) rfl #[.agg #[.int .i64 a0_0, .int .i64 a0_1]] rfl arr_ ?_; (with_reducible refine (impl_DriftOk.calls a0_0 a0_1 true _ A2.out).mono ?_); rintro e w32 ⟨rfl, hb⟩; refine ⟨_, rfl, ?_⟩; have n0_ := Aside0.mk (bb_ BK794.out hb); have n1_ := Aside0.mk (below_step (hb1_ HB.out GE794.out) hb); clear BK794; clear HB; have BK794 := n0_; have HB := n1_; clear n0_ n1_; (try clear hb); (try clear hb2); (try clear hk); (try clear hi); have hcz33_0 := bc_ BK794.out 0 (.int .i64 a0_0) rfl; have hcz33_1 := bc_ BK794.out 1 (.int .i64 a0_1) rfl; have hcz33_2 := bc_ BK794.out 2 (.int .i64 a0_2) rfl; have hcz33_3 := bc_ BK794.out 3 (.int .i64 a0_3) rfl; have hcz33_4 := bc_ BK794.out 4 (.int .i64 a0_4) rfl; have hcz33_5 := bc_ BK794.out 5 (.int .i64 a0_5) rfl; have hcz33_6 := bc_ BK794.out 6 (.int .i64 a0_6) rfl; have hcz33_7 := bc_ BK794.out 7 (.int .i64 a0_7) rfl; have hcz33_8 := bc_ BK794.out 8 (.int .i64 a0_8) rfl; have hcz33_9 := bc_ BK794.out 9 (.int .i64 a0_9) rfl; have hcz33_10 := bc_ BK794.out 10 (.slice A0_10 l0_10.length c0_10) rfl; have hfz33_0 := blk_frozen BK794.out 0; have hfz33_1 := blk_frozen BK794.out 1; have hfz33_2 := blk_frozen BK794.out 2; have hfz33_3 := blk_frozen BK794.out 3; have hfz33_4 := blk_frozen BK794.out 4; have hfz33_5 := blk_frozen BK794.out 5; have hfz33_6 := blk_frozen BK794.out 6; have hfz33_7 := blk_frozen BK794.out 7; have hfz33_8 := blk_frozen BK794.out 8; have hfz33_9 := blk_frozen BK794.out 9; have hfz33_10 := blk_frozen BK794.out 10) | (go_at_call 72; (with_reducible refine (impl_in.calls a0_2 0 8 true _ A4.out).mono ?_); rintro e w' ⟨rfl, ⟨nd, rfl⟩⟩) | (go_at_call 72; (with_reducible refine (impl_in.calls a0_3 1 8 true _ A6.out).mono ?_); rintro e w' ⟨rfl, ⟨nd, rfl⟩⟩) | (go_at_call 73; (with_reducible refine (impl_isTime.calls a0_4 true _ A8.out).mono ?_); rintro e w' ⟨rfl, ⟨nd, rfl⟩⟩) | (go_at_call 73; (with_reducible refine (impl_isTime.calls a0_5 false _ A10.out).mono ?_); rintro e w' ⟨rfl, ⟨nd, rfl⟩⟩))
            go_ret
            exact ⟨er_, hb1_ HB.out GE794.out⟩
        · replace c9 := Bool.eq_false_iff.mpr c9
          subst c9
          have H1 : (some false) = some r := by rw [if_neg (show ¬ (false = true) by decide)] at H; exact H
          clear H
          have H := H1
          clear H1
          obtain rfl := Option.some.inj H
          go_enter Try.func36, Try.ntmps36
          go_wp2_with (first | ((with_reducible refine gate_dst (N := 1) rfl ?_); refine box_event ?hg (N := 1) ?hd (cs := #[.int .i64 a0_0, .int .i64 a0_1, .int .i64 a0_2, .int .i64 a0_3, .int .i64 a0_4, .int .i64 a0_5, .int .i64 a0_6, .int .i64 a0_7, .int .i64 a0_8, .int .i64 a0_9, .slice A0_10 l0_10.length c0_10]) (t := 72) ?hr ?_; (case hd => rfl); (case hg => rfl); (case hr => first | (go_simp; done) | (go_simp; rfl)); intro gb794 hg w34 hbox hb; have n0_ := Aside0.mk (below_step (hb_ HB.out) hb); have n1_ := Aside0.mk (hbox); have n2_ := Aside0.mk ((by rw [hg]; exact (below_size (hb_ HB.out)) : w.heap.size ≤ gb794)); have n3_ := Aside0.mk ((by rw [hg]; exact (below_size (hb_ HB.out)) : w.heap.size ≤ gb794)); clear HB; have HB := n0_; have BK794 := n1_; have GW794 := n2_; have GE794 := n3_; clear n0_ n1_ n2_ n3_; clear hb hbox hg; have hcz35_0 := bc_ BK794.out 0 (.int .i64 a0_0) rfl; have hcz35_1 := bc_ BK794.out 1 (.int .i64 a0_1) rfl; have hcz35_2 := bc_ BK794.out 2 (.int .i64 a0_2) rfl; have hcz35_3 := bc_ BK794.out 3 (.int .i64 a0_3) rfl; have hcz35_4 := bc_ BK794.out 4 (.int .i64 a0_4) rfl; have hcz35_5 := bc_ BK794.out 5 (.int .i64 a0_5) rfl; have hcz35_6 := bc_ BK794.out 6 (.int .i64 a0_6) rfl; have hcz35_7 := bc_ BK794.out 7 (.int .i64 a0_7) rfl; have hcz35_8 := bc_ BK794.out 8 (.int .i64 a0_8) rfl; have hcz35_9 := bc_ BK794.out 9 (.int .i64 a0_9) rfl; have hcz35_10 := bc_ BK794.out 10 (.slice A0_10 l0_10.length c0_10) rfl; have hfz35_0 := blk_frozen BK794.out 0; have hfz35_1 := blk_frozen BK794.out 1; have hfz35_2 := blk_frozen BK794.out 2; have hfz35_3 := blk_frozen BK794.out 3; have hfz35_4 := blk_frozen BK794.out 4; have hfz35_5 := blk_frozen BK794.out 5; have hfz35_6 := blk_frozen BK794.out 6; have hfz35_7 := blk_frozen BK794.out 7; have hfz35_8 := blk_frozen BK794.out 8; have hfz35_9 := blk_frozen BK794.out 9; have hfz35_10 := blk_frozen BK794.out 10) | ((with_reducible refine gate_callee (f := 71) rfl ?_); refine goesL_ (some 5) rfl rfl Try.func71 (by kernel_rfl) rfl #[.agg #[.int .i64 a0_0, .int .i64 a0_1]] rfl arr_ ?_; (with_reducible refine (impl_DriftOk.calls a0_0 a0_1 true _ A2.out).mono ?_); rintro e w36 ⟨rfl, hb⟩; refine ⟨_, rfl, ?_⟩; have n0_ := Aside0.mk (bb_ BK794.out hb); have n1_ := Aside0.mk (below_step (hb1_ HB.out GE794.out) hb); clear BK794; clear HB; have BK794 := n0_; have HB := n1_; clear n0_ n1_; (try clear hb); (try clear hb2); (try clear hk); (try clear hi); have hcz37_0 := bc_ BK794.out 0 (.int .i64 a0_0) rfl; have hcz37_1 := bc_ BK794.out 1 (.int .i64 a0_1) rfl; have hcz37_2 := bc_ BK794.out 2 (.int .i64 a0_2) rfl; have hcz37_3 := bc_ BK794.out 3 (.int .i64 a0_3) rfl; have hcz37_4 := bc_ BK794.out 4 (.int .i64 a0_4) rfl; have hcz37_5 := bc_ BK794.out 5 (.int .i64 a0_5) rfl; have hcz37_6 := bc_ BK794.out 6 (.int .i64 a0_6) rfl; have hcz37_7 := bc_ BK794.out 7 (.int .i64 a0_7) rfl; have hcz37_8 := bc_ BK794.out 8 (.int .i64 a0_8) rfl; have hcz37_9 := bc_ BK794.out 9 (.int .i64 a0_9) rfl; have hcz37_10 := bc_ BK794.out 10 (.slice A0_10 l0_10.length c0_10) rfl; have hfz37_0 := blk_frozen BK794.out 0; have hfz37_1 := blk_frozen BK794.out 1; have hfz37_2 := blk_frozen BK794.out 2; have hfz37_3 := blk_frozen BK794.out 3; have hfz37_4 := blk_frozen BK794.out 4; have hfz37_5 := blk_frozen BK794.out 5; have hfz37_6 := blk_frozen BK794.out 6; have hfz37_7 := blk_frozen BK794.out 7; have hfz37_8 := blk_frozen BK794.out 8; have hfz37_9 := blk_frozen BK794.out 9; have hfz37_10 := blk_frozen BK794.out 10) | (go_at_call 72; (with_reducible refine (impl_in.calls a0_2 0 8 true _ A4.out).mono ?_); rintro e w' ⟨rfl, ⟨nd, rfl⟩⟩) | (go_at_call 72; (with_reducible refine (impl_in.calls a0_3 1 8 true _ A6.out).mono ?_); rintro e w' ⟨rfl, ⟨nd, rfl⟩⟩) | (go_at_call 73; (with_reducible refine (impl_isTime.calls a0_4 false _ A8.out).mono ?_); rintro e w' ⟨rfl, ⟨nd, rfl⟩⟩))
          go_ret
          exact ⟨er_, hb1_ HB.out GE794.out⟩
      · replace c7 := Bool.eq_false_iff.mpr c7
        subst c7
        have H1 : (some false) = some r := by rw [if_neg (show ¬ (false = true) by decide)] at H; exact H
        clear H
        have H := H1
        clear H1
        obtain rfl := Option.some.inj H
        go_enter Try.func36, Try.ntmps36
        go_wp2_with (first | ((with_reducible refine gate_dst (N := 1) rfl ?_); refine box_event ?hg (N := 1) ?hd (cs := #[.int .i64 a0_0, .int .i64 a0_1, .int .i64 a0_2, .int .i64 a0_3, .int .i64 a0_4, .int .i64 a0_5, .int .i64 a0_6, .int .i64 a0_7, .int .i64 a0_8, .int .i64 a0_9, .slice A0_10 l0_10.length c0_10]) (t := 72) ?hr ?_; (case hd => rfl); (case hg => rfl); (case hr => first | (go_simp; done) | (go_simp; rfl)); intro gb794 hg w38 hbox hb; have n0_ := Aside0.mk (below_step (hb_ HB.out) hb); have n1_ := Aside0.mk (hbox); have n2_ := Aside0.mk ((by rw [hg]; exact (below_size (hb_ HB.out)) : w.heap.size ≤ gb794)); have n3_ := Aside0.mk ((by rw [hg]; exact (below_size (hb_ HB.out)) : w.heap.size ≤ gb794)); clear HB; have HB := n0_; have BK794 := n1_; have GW794 := n2_; have GE794 := n3_; clear n0_ n1_ n2_ n3_; clear hb hbox hg; have hcz39_0 := bc_ BK794.out 0 (.int .i64 a0_0) rfl; have hcz39_1 := bc_ BK794.out 1 (.int .i64 a0_1) rfl; have hcz39_2 := bc_ BK794.out 2 (.int .i64 a0_2) rfl; have hcz39_3 := bc_ BK794.out 3 (.int .i64 a0_3) rfl; have hcz39_4 := bc_ BK794.out 4 (.int .i64 a0_4) rfl; have hcz39_5 := bc_ BK794.out 5 (.int .i64 a0_5) rfl; have hcz39_6 := bc_ BK794.out 6 (.int .i64 a0_6) rfl; have hcz39_7 := bc_ BK794.out 7 (.int .i64 a0_7) rfl; have hcz39_8 := bc_ BK794.out 8 (.int .i64 a0_8) rfl; have hcz39_9 := bc_ BK794.out 9 (.int .i64 a0_9) rfl; have hcz39_10 := bc_ BK794.out 10 (.slice A0_10 l0_10.length c0_10) rfl; have hfz39_0 := blk_frozen BK794.out 0; have hfz39_1 := blk_frozen BK794.out 1; have hfz39_2 := blk_frozen BK794.out 2; have hfz39_3 := blk_frozen BK794.out 3; have hfz39_4 := blk_frozen BK794.out 4; have hfz39_5 := blk_frozen BK794.out 5; have hfz39_6 := blk_frozen BK794.out 6; have hfz39_7 := blk_frozen BK794.out 7; have hfz39_8 := blk_frozen BK794.out 8; have hfz39_9 := blk_frozen BK794.out 9; have hfz39_10 := blk_frozen BK794.out 10) | ((with_reducible refine gate_callee (f := 71) rfl ?_); refine goesL_ (some 5) rfl rfl Try.func71 (by kernel_rfl) rfl #[.agg #[.int .i64 a0_0, .int .i64 a0_1]] rfl arr_ ?_; (with_reducible refine (impl_DriftOk.calls a0_0 a0_1 true _ A2.out).mono ?_); rintro e w40 ⟨rfl, hb⟩; refine ⟨_, rfl, ?_⟩; have n0_ := Aside0.mk (bb_ BK794.out hb); have n1_ := Aside0.mk (below_step (hb1_ HB.out GE794.out) hb); clear BK794; clear HB; have BK794 := n0_; have HB := n1_; clear n0_ n1_; (try clear hb); (try clear hb2); (try clear hk); (try clear hi); have hcz41_0 := bc_ BK794.out 0 (.int .i64 a0_0) rfl; have hcz41_1 := bc_ BK794.out 1 (.int .i64 a0_1) rfl; have hcz41_2 := bc_ BK794.out 2 (.int .i64 a0_2) rfl; have hcz41_3 := bc_ BK794.out 3 (.int .i64 a0_3) rfl; have hcz41_4 := bc_ BK794.out 4 (.int .i64 a0_4) rfl; have hcz41_5 := bc_ BK794.out 5 (.int .i64 a0_5) rfl; have hcz41_6 := bc_ BK794.out 6 (.int .i64 a0_6) rfl; have hcz41_7 := bc_ BK794.out 7 (.int .i64 a0_7) rfl; have hcz41_8 := bc_ BK794.out 8 (.int .i64 a0_8) rfl; have hcz41_9 := bc_ BK794.out 9 (.int .i64 a0_9) rfl; have hcz41_10 := bc_ BK794.out 10 (.slice A0_10 l0_10.length c0_10) rfl; have hfz41_0 := blk_frozen BK794.out 0; have hfz41_1 := blk_frozen BK794.out 1; have hfz41_2 := blk_frozen BK794.out 2; have hfz41_3 := blk_frozen BK794.out 3; have hfz41_4 := blk_frozen BK794.out 4; have hfz41_5 := blk_frozen BK794.out 5; have hfz41_6 := blk_frozen BK794.out 6; have hfz41_7 := blk_frozen BK794.out 7; have hfz41_8 := blk_frozen BK794.out 8; have hfz41_9 := blk_frozen BK794.out 9; have hfz41_10 := blk_frozen BK794.out 10) | (go_at_call 72; (with_reducible refine (impl_in.calls a0_2 0 8 true _ A4.out).mono ?_); rintro e w' ⟨rfl, ⟨nd, rfl⟩⟩) | (go_at_call 72; (with_reducible refine (impl_in.calls a0_3 1 8 false _ A6.out).mono ?_); rintro e w' ⟨rfl, ⟨nd, rfl⟩⟩))
        go_ret
        exact ⟨er_, hb1_ HB.out GE794.out⟩
    · replace c5 := Bool.eq_false_iff.mpr c5
      subst c5
      have H1 : (some false) = some r := by rw [if_neg (show ¬ (false = true) by decide)] at H; exact H
      clear H
      have H := H1
      clear H1
      obtain rfl := Option.some.inj H
      go_enter Try.func36, Try.ntmps36
      go_wp2_with (first | ((with_reducible refine gate_dst (N := 1) rfl ?_); refine box_event ?hg (N := 1) ?hd (cs := #[.int .i64 a0_0, .int .i64 a0_1, .int .i64 a0_2, .int .i64 a0_3, .int .i64 a0_4, .int .i64 a0_5, .int .i64 a0_6, .int .i64 a0_7, .int .i64 a0_8, .int .i64 a0_9, .slice A0_10 l0_10.length c0_10]) (t := 72) ?hr ?_; (case hd => rfl); (case hg => rfl); (case hr => first | (go_simp; done) | (go_simp; rfl)); intro gb794 hg w42 hbox hb; have n0_ := Aside0.mk (below_step (hb_ HB.out) hb); have n1_ := Aside0.mk (hbox); have n2_ := Aside0.mk ((by rw [hg]; exact (below_size (hb_ HB.out)) : w.heap.size ≤ gb794)); have n3_ := Aside0.mk ((by rw [hg]; exact (below_size (hb_ HB.out)) : w.heap.size ≤ gb794)); clear HB; have HB := n0_; have BK794 := n1_; have GW794 := n2_; have GE794 := n3_; clear n0_ n1_ n2_ n3_; clear hb hbox hg; have hcz43_0 := bc_ BK794.out 0 (.int .i64 a0_0) rfl; have hcz43_1 := bc_ BK794.out 1 (.int .i64 a0_1) rfl; have hcz43_2 := bc_ BK794.out 2 (.int .i64 a0_2) rfl; have hcz43_3 := bc_ BK794.out 3 (.int .i64 a0_3) rfl; have hcz43_4 := bc_ BK794.out 4 (.int .i64 a0_4) rfl; have hcz43_5 := bc_ BK794.out 5 (.int .i64 a0_5) rfl; have hcz43_6 := bc_ BK794.out 6 (.int .i64 a0_6) rfl; have hcz43_7 := bc_ BK794.out 7 (.int .i64 a0_7) rfl; have hcz43_8 := bc_ BK794.out 8 (.int .i64 a0_8) rfl; have hcz43_9 := bc_ BK794.out 9 (.int .i64 a0_9) rfl; have hcz43_10 := bc_ BK794.out 10 (.slice A0_10 l0_10.length c0_10) rfl; have hfz43_0 := blk_frozen BK794.out 0; have hfz43_1 := blk_frozen BK794.out 1; have hfz43_2 := blk_frozen BK794.out 2; have hfz43_3 := blk_frozen BK794.out 3; have hfz43_4 := blk_frozen BK794.out 4; have hfz43_5 := blk_frozen BK794.out 5; have hfz43_6 := blk_frozen BK794.out 6; have hfz43_7 := blk_frozen BK794.out 7; have hfz43_8 := blk_frozen BK794.out 8; have hfz43_9 := blk_frozen BK794.out 9; have hfz43_10 := blk_frozen BK794.out 10) | ((with_reducible refine gate_callee (f := 71) rfl ?_); refine goesL_ (some 5) rfl rfl Try.func71 (by kernel_rfl) rfl #[.agg #[.int .i64 a0_0, .int .i64 a0_1]] rfl arr_ ?_; (with_reducible refine (impl_DriftOk.calls a0_0 a0_1 true _ A2.out).mono ?_); rintro e w44 ⟨rfl, hb⟩; refine ⟨_, rfl, ?_⟩; have n0_ := Aside0.mk (bb_ BK794.out hb); have n1_ := Aside0.mk (below_step (hb1_ HB.out GE794.out) hb); clear BK794; clear HB; have BK794 := n0_; have HB := n1_; clear n0_ n1_; (try clear hb); (try clear hb2); (try clear hk); (try clear hi); have hcz45_0 := bc_ BK794.out 0 (.int .i64 a0_0) rfl; have hcz45_1 := bc_ BK794.out 1 (.int .i64 a0_1) rfl; have hcz45_2 := bc_ BK794.out 2 (.int .i64 a0_2) rfl; have hcz45_3 := bc_ BK794.out 3 (.int .i64 a0_3) rfl; have hcz45_4 := bc_ BK794.out 4 (.int .i64 a0_4) rfl; have hcz45_5 := bc_ BK794.out 5 (.int .i64 a0_5) rfl; have hcz45_6 := bc_ BK794.out 6 (.int .i64 a0_6) rfl; have hcz45_7 := bc_ BK794.out 7 (.int .i64 a0_7) rfl; have hcz45_8 := bc_ BK794.out 8 (.int .i64 a0_8) rfl; have hcz45_9 := bc_ BK794.out 9 (.int .i64 a0_9) rfl; have hcz45_10 := bc_ BK794.out 10 (.slice A0_10 l0_10.length c0_10) rfl; have hfz45_0 := blk_frozen BK794.out 0; have hfz45_1 := blk_frozen BK794.out 1; have hfz45_2 := blk_frozen BK794.out 2; have hfz45_3 := blk_frozen BK794.out 3; have hfz45_4 := blk_frozen BK794.out 4; have hfz45_5 := blk_frozen BK794.out 5; have hfz45_6 := blk_frozen BK794.out 6; have hfz45_7 := blk_frozen BK794.out 7; have hfz45_8 := blk_frozen BK794.out 8; have hfz45_9 := blk_frozen BK794.out 9; have hfz45_10 := blk_frozen BK794.out 10) | (go_at_call 72; (with_reducible refine (impl_in.calls a0_2 0 8 false _ A4.out).mono ?_); rintro e w' ⟨rfl, ⟨nd, rfl⟩⟩))
      go_ret
      exact ⟨er_, hb1_ HB.out GE794.out⟩
  · replace c3 := Bool.eq_false_iff.mpr c3
    subst c3
    have H1 : (some false) = some r := by rw [if_neg (show ¬ (false = true) by decide)] at H; exact H
    clear H
    have H := H1
    clear H1
    obtain rfl := Option.some.inj H
    go_enter Try.func36, Try.ntmps36
    go_wp2_with (first | ((with_reducible refine gate_dst (N := 1) rfl ?_); refine box_event ?hg (N := 1) ?hd (cs := #[.int .i64 a0_0, .int .i64 a0_1, .int .i64 a0_2, .int .i64 a0_3, .int .i64 a0_4, .int .i64 a0_5, .int .i64 a0_6, .int .i64 a0_7, .int .i64 a0_8, .int .i64 a0_9, .slice A0_10 l0_10.length c0_10]) (t := 72) ?hr ?_; (case hd => rfl); (case hg => rfl); (case hr => first | (go_simp; done) | (go_simp; rfl)); intro gb794 hg w46 hbox hb; have n0_ := Aside0.mk (below_step (hb_ HB.out) hb); have n1_ := Aside0.mk (hbox); have n2_ := Aside0.mk ((by rw [hg]; exact (below_size (hb_ HB.out)) : w.heap.size ≤ gb794)); have n3_ := Aside0.mk ((by rw [hg]; exact (below_size (hb_ HB.out)) : w.heap.size ≤ gb794)); clear HB; have HB := n0_; have BK794 := n1_; have GW794 := n2_; have GE794 := n3_; clear n0_ n1_ n2_ n3_; clear hb hbox hg; have hcz47_0 := bc_ BK794.out 0 (.int .i64 a0_0) rfl; have hcz47_1 := bc_ BK794.out 1 (.int .i64 a0_1) rfl; have hcz47_2 := bc_ BK794.out 2 (.int .i64 a0_2) rfl; have hcz47_3 := bc_ BK794.out 3 (.int .i64 a0_3) rfl; have hcz47_4 := bc_ BK794.out 4 (.int .i64 a0_4) rfl; have hcz47_5 := bc_ BK794.out 5 (.int .i64 a0_5) rfl; have hcz47_6 := bc_ BK794.out 6 (.int .i64 a0_6) rfl; have hcz47_7 := bc_ BK794.out 7 (.int .i64 a0_7) rfl; have hcz47_8 := bc_ BK794.out 8 (.int .i64 a0_8) rfl; have hcz47_9 := bc_ BK794.out 9 (.int .i64 a0_9) rfl; have hcz47_10 := bc_ BK794.out 10 (.slice A0_10 l0_10.length c0_10) rfl; have hfz47_0 := blk_frozen BK794.out 0; have hfz47_1 := blk_frozen BK794.out 1; have hfz47_2 := blk_frozen BK794.out 2; have hfz47_3 := blk_frozen BK794.out 3; have hfz47_4 := blk_frozen BK794.out 4; have hfz47_5 := blk_frozen BK794.out 5; have hfz47_6 := blk_frozen BK794.out 6; have hfz47_7 := blk_frozen BK794.out 7; have hfz47_8 := blk_frozen BK794.out 8; have hfz47_9 := blk_frozen BK794.out 9; have hfz47_10 := blk_frozen BK794.out 10) | ((with_reducible refine gate_callee (f := 71) rfl ?_); refine goesL_ (some 5) rfl rfl Try.func71 (by kernel_rfl) rfl #[.agg #[.int .i64 a0_0, .int .i64 a0_1]] rfl arr_ ?_; (with_reducible refine (impl_DriftOk.calls a0_0 a0_1 false _ A2.out).mono ?_); rintro e w48 ⟨rfl, hb⟩; refine ⟨_, rfl, ?_⟩; have n0_ := Aside0.mk (bb_ BK794.out hb); have n1_ := Aside0.mk (below_step (hb1_ HB.out GE794.out) hb); clear BK794; clear HB; have BK794 := n0_; have HB := n1_; clear n0_ n1_; (try clear hb); (try clear hb2); (try clear hk); (try clear hi)))
    go_ret
    exact ⟨er_, hb1_ HB.out GE794.out⟩
def laws_eqSlot.f (a0_0 : Int) (a0_1 : Int) (a1_0 : Int) (a1_1 : Int) : Option (Bool) := if a0_0 = a1_0 then (if a0_1 = a1_1 then (some true) else (some false)) else (some false)
set_option maxHeartbeats 8000000 in
set_option maxRecDepth 100000 in
theorem laws_eqSlot.calls (a0_0 : Int) (a0_1 : Int) (a1_0 : Int) (a1_1 : Int) (r : Bool) (w : World) (h : laws_eqSlot.f a0_0 a0_1 a1_0 a1_1 = some r) :
    Calls Try.prog 81 #[.agg #[.int .i64 a0_0, .int .i64 a0_1], .agg #[.int .i64 a1_0, .int .i64 a1_1]] w fun e w' => e = .returned (.bool r) ∧ Below w.heap.size w w' := by
  have hu78 := Try.underlying78
  have HB := Aside0.mk (Below.refl w.heap.size w)
  have H : (if a0_0 = a1_0 then (if a0_1 = a1_1 then (some true) else (some false)) else (some false)) = some r := h
  clear h
  by_cases c3 : a0_0 = a1_0
  · rw [if_pos c3] at H
    have c3b0 : (a0_0 == a1_0) = true := beq_iff_eq.mpr c3
    have c3b1 : (a0_0 != a1_0) = false := bne_eq_false_iff_eq.mpr c3
    clear c3
    by_cases c4 : a0_1 = a1_1
    · rw [if_pos c4] at H
      have c4b0 : (a0_1 == a1_1) = true := beq_iff_eq.mpr c4
      have c4b1 : (a0_1 != a1_1) = false := bne_eq_false_iff_eq.mpr c4
      clear c4
      obtain rfl := Option.some.inj H
      go_enter Try.func81, Try.ntmps81
      go_wp2_with (first | ((with_reducible refine gate_dst (N := 2) rfl ?_); refine box_event ?hg (N := 2) ?hd (cs := #[.int .i64 a0_0, .int .i64 a0_1]) (t := 78) ?hr ?_; (case hd => rfl); (case hg => rfl); (case hr => first | (go_simp; done) | (go_simp; rfl)); intro gb297 hg w5 hbox hb; have n0_ := Aside0.mk (below_step (hb_ HB.out) hb); have n1_ := Aside0.mk (hbox); have n2_ := Aside0.mk ((by rw [hg]; exact (below_size (hb_ HB.out)) : w.heap.size ≤ gb297)); have n3_ := Aside0.mk ((by rw [hg]; exact (below_size (hb_ HB.out)) : w.heap.size ≤ gb297)); clear HB; have HB := n0_; have BK297 := n1_; have GW297 := n2_; have GE297 := n3_; clear n0_ n1_ n2_ n3_; clear hb hbox hg) | ((with_reducible refine gate_dst (N := 3) rfl ?_); refine box_event ?hg (N := 3) ?hd (cs := #[.int .i64 a1_0, .int .i64 a1_1]) (t := 78) ?hr ?_; (case hd => rfl); (case hg => rfl); (case hr => first | (go_simp; done) | (go_simp; rfl)); intro gb298 hg w6 hbox hb; have n0_ := Aside0.mk (bb_ BK297.out hb); have n1_ := Aside0.mk (below_step (hb1_ HB.out GE297.out) hb); have n2_ := Aside0.mk (hbox); have n3_ := Aside0.mk ((by rw [hg]; exact (below_size (hb1_ HB.out GE297.out)) : w.heap.size ≤ gb298)); have n4_ := Aside0.mk ((by rw [hg]; exact (below_size (hb1_ HB.out GE297.out)) : w.heap.size ≤ gb298)); have n5_ := Aside0.mk ((bl_ hg BK297.out : gb297 ≠ gb298)); have n6_ := Aside0.mk ((bg_ hg BK297.out : gb298 ≠ gb297)); clear BK297; clear HB; have BK297 := n0_; have HB := n1_; have BK298 := n2_; have GW298 := n3_; have GE298 := n4_; have NB297_298 := n5_; have NB298_297 := n6_; clear n0_ n1_ n2_ n3_ n4_ n5_ n6_; clear hb hbox hg; have hnb7 := NB297_298.out; have hnc7 := NB298_297.out; have hcz8_0 := bc_ BK297.out 0 (.int .i64 a0_0) rfl; have hcz8_1 := bc_ BK297.out 1 (.int .i64 a0_1) rfl; have hfz8_0 := blk_frozen BK297.out 0; have hfz8_1 := blk_frozen BK297.out 1; have hcz9_0 := bc_ BK298.out 0 (.int .i64 a1_0) rfl; have hcz9_1 := bc_ BK298.out 1 (.int .i64 a1_1) rfl; have hfz9_0 := blk_frozen BK298.out 0; have hfz9_1 := blk_frozen BK298.out 1))
      go_ret
      exact ⟨er_, hb2_ HB.out GE297.out GE298.out⟩
    · rw [if_neg c4] at H
      have c4b0 : (a0_1 == a1_1) = false := beq_eq_false_iff_ne.mpr c4
      have c4b1 : (a0_1 != a1_1) = true := bne_iff_ne.mpr c4
      obtain rfl := Option.some.inj H
      go_enter Try.func81, Try.ntmps81
      go_wp2_with (first | ((with_reducible refine gate_dst (N := 2) rfl ?_); refine box_event ?hg (N := 2) ?hd (cs := #[.int .i64 a0_0, .int .i64 a0_1]) (t := 78) ?hr ?_; (case hd => rfl); (case hg => rfl); (case hr => first | (go_simp; done) | (go_simp; rfl)); intro gb297 hg w10 hbox hb; have n0_ := Aside0.mk (below_step (hb_ HB.out) hb); have n1_ := Aside0.mk (hbox); have n2_ := Aside0.mk ((by rw [hg]; exact (below_size (hb_ HB.out)) : w.heap.size ≤ gb297)); have n3_ := Aside0.mk ((by rw [hg]; exact (below_size (hb_ HB.out)) : w.heap.size ≤ gb297)); clear HB; have HB := n0_; have BK297 := n1_; have GW297 := n2_; have GE297 := n3_; clear n0_ n1_ n2_ n3_; clear hb hbox hg) | ((with_reducible refine gate_dst (N := 3) rfl ?_); refine box_event ?hg (N := 3) ?hd (cs := #[.int .i64 a1_0, .int .i64 a1_1]) (t := 78) ?hr ?_; (case hd => rfl); (case hg => rfl); (case hr => first | (go_simp; done) | (go_simp; rfl)); intro gb298 hg w11 hbox hb; have n0_ := Aside0.mk (bb_ BK297.out hb); have n1_ := Aside0.mk (below_step (hb1_ HB.out GE297.out) hb); have n2_ := Aside0.mk (hbox); have n3_ := Aside0.mk ((by rw [hg]; exact (below_size (hb1_ HB.out GE297.out)) : w.heap.size ≤ gb298)); have n4_ := Aside0.mk ((by rw [hg]; exact (below_size (hb1_ HB.out GE297.out)) : w.heap.size ≤ gb298)); have n5_ := Aside0.mk ((bl_ hg BK297.out : gb297 ≠ gb298)); have n6_ := Aside0.mk ((bg_ hg BK297.out : gb298 ≠ gb297)); clear BK297; clear HB; have BK297 := n0_; have HB := n1_; have BK298 := n2_; have GW298 := n3_; have GE298 := n4_; have NB297_298 := n5_; have NB298_297 := n6_; clear n0_ n1_ n2_ n3_ n4_ n5_ n6_; clear hb hbox hg; have hnb12 := NB297_298.out; have hnc12 := NB298_297.out; have hcz13_0 := bc_ BK297.out 0 (.int .i64 a0_0) rfl; have hcz13_1 := bc_ BK297.out 1 (.int .i64 a0_1) rfl; have hfz13_0 := blk_frozen BK297.out 0; have hfz13_1 := blk_frozen BK297.out 1; have hcz14_0 := bc_ BK298.out 0 (.int .i64 a1_0) rfl; have hcz14_1 := bc_ BK298.out 1 (.int .i64 a1_1) rfl; have hfz14_0 := blk_frozen BK298.out 0; have hfz14_1 := blk_frozen BK298.out 1))
      go_ret
      exact ⟨er_, hb2_ HB.out GE297.out GE298.out⟩
  · rw [if_neg c3] at H
    have c3b0 : (a0_0 == a1_0) = false := beq_eq_false_iff_ne.mpr c3
    have c3b1 : (a0_0 != a1_0) = true := bne_iff_ne.mpr c3
    obtain rfl := Option.some.inj H
    go_enter Try.func81, Try.ntmps81
    go_wp2_with (first | ((with_reducible refine gate_dst (N := 2) rfl ?_); refine box_event ?hg (N := 2) ?hd (cs := #[.int .i64 a0_0, .int .i64 a0_1]) (t := 78) ?hr ?_; (case hd => rfl); (case hg => rfl); (case hr => first | (go_simp; done) | (go_simp; rfl)); intro gb297 hg w15 hbox hb; have n0_ := Aside0.mk (below_step (hb_ HB.out) hb); have n1_ := Aside0.mk (hbox); have n2_ := Aside0.mk ((by rw [hg]; exact (below_size (hb_ HB.out)) : w.heap.size ≤ gb297)); have n3_ := Aside0.mk ((by rw [hg]; exact (below_size (hb_ HB.out)) : w.heap.size ≤ gb297)); clear HB; have HB := n0_; have BK297 := n1_; have GW297 := n2_; have GE297 := n3_; clear n0_ n1_ n2_ n3_; clear hb hbox hg) | ((with_reducible refine gate_dst (N := 3) rfl ?_); refine box_event ?hg (N := 3) ?hd (cs := #[.int .i64 a1_0, .int .i64 a1_1]) (t := 78) ?hr ?_; (case hd => rfl); (case hg => rfl); (case hr => first | (go_simp; done) | (go_simp; rfl)); intro gb298 hg w16 hbox hb; have n0_ := Aside0.mk (bb_ BK297.out hb); have n1_ := Aside0.mk (below_step (hb1_ HB.out GE297.out) hb); have n2_ := Aside0.mk (hbox); have n3_ := Aside0.mk ((by rw [hg]; exact (below_size (hb1_ HB.out GE297.out)) : w.heap.size ≤ gb298)); have n4_ := Aside0.mk ((by rw [hg]; exact (below_size (hb1_ HB.out GE297.out)) : w.heap.size ≤ gb298)); have n5_ := Aside0.mk ((bl_ hg BK297.out : gb297 ≠ gb298)); have n6_ := Aside0.mk ((bg_ hg BK297.out : gb298 ≠ gb297)); clear BK297; clear HB; have BK297 := n0_; have HB := n1_; have BK298 := n2_; have GW298 := n3_; have GE298 := n4_; have NB297_298 := n5_; have NB298_297 := n6_; clear n0_ n1_ n2_ n3_ n4_ n5_ n6_; clear hb hbox hg; have hnb17 := NB297_298.out; have hnc17 := NB298_297.out; have hcz18_0 := bc_ BK297.out 0 (.int .i64 a0_0) rfl; have hcz18_1 := bc_ BK297.out 1 (.int .i64 a0_1) rfl; have hfz18_0 := blk_frozen BK297.out 0; have hfz18_1 := blk_frozen BK297.out 1; have hcz19_0 := bc_ BK298.out 0 (.int .i64 a1_0) rfl; have hcz19_1 := bc_ BK298.out 1 (.int .i64 a1_1) rfl; have hfz19_0 := blk_frozen BK298.out 0; have hfz19_1 := blk_frozen BK298.out 1))
    go_ret
    exact ⟨er_, hb2_ HB.out GE297.out GE298.out⟩
end Go.Proofs.Ytcbglmoeogbakaa.P
