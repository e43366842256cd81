/- Texts of the seat's proofs, part 4: functions of the program told as plain functions, with their contracts, and what is shown of them. No condition. -/
import Derived.Test.YtcbglmoeogbakaaU
import Derived.Test.YtcbglmoeogbakaaM1
import Derived.Test.YtcbglmoeogbakaaM2
import Derived.Test.YtcbglmoeogbakaaM3
import Derived.Deep.Slices
import Derived.ProofKit
import Derived.OpenShut
set_option linter.unusedVariables false
set_option linter.unusedSimpArgs false
namespace Go.Proofs.Ytcbglmoeogbakaa.P
open Go.RowKit Go.Proofs.YtcbglmoeogbakaaW.PrintWords Go.Proofs.YtcbglmoeogbakaaW.PrintLast Go.Proofs.YtcbglmoeogbakaaW.PrintMore
attribute [local go_sem] max2_int min2_int max_two min_two max_three min_three max_four min_four
set_option linter.unusedVariables false
set_option linter.unusedSimpArgs false
def laws_FnExactCfgOk.f (k : Nat) (a0_0 : Int) (a0_1 : Int) (a0_2 : Int) (a0_3 : Int) (a0_4 : Int) (a0_5 : Int) (a0_6 : Int) (a0_7 : Int) (a0_8 : Int) (a0_9 : Int) (l0_10 : List (S109)) : Option (Bool) := (laws_szCfg.f a0_0 a0_1 a0_2 a0_3 a0_4 a0_5 a0_6 a0_7 a0_8 a0_9 l0_10 1048576).bind fun t810 => (if t810 < 0 then (some true) else ((laws_toCfg.f k a0_0 a0_1 a0_2 a0_3 a0_4 a0_5 a0_6 a0_7 a0_8 a0_9 l0_10).bind fun bt811 => ((spec_CfgOk.f k bt811.1 bt811.2.1 bt811.2.2.1 bt811.2.2.2.1 bt811.2.2.2.2.1 bt811.2.2.2.2.2.1 bt811.2.2.2.2.2.2.1 bt811.2.2.2.2.2.2.2.1 bt811.2.2.2.2.2.2.2.2.1 bt811.2.2.2.2.2.2.2.2.2.1 bt811.2.2.2.2.2.2.2.2.2.2).bind fun t824 => ((laws_toCfg.f k a0_0 a0_1 a0_2 a0_3 a0_4 a0_5 a0_6 a0_7 a0_8 a0_9 l0_10).bind fun bt825 => ((impl_CfgOk.f k bt825.1 bt825.2.1 bt825.2.2.1 bt825.2.2.2.1 bt825.2.2.2.2.1 bt825.2.2.2.2.2.1 bt825.2.2.2.2.2.2.1 bt825.2.2.2.2.2.2.2.1 bt825.2.2.2.2.2.2.2.2.1 bt825.2.2.2.2.2.2.2.2.2.1 bt825.2.2.2.2.2.2.2.2.2.2).bind fun t839 => (if (t839 != t824) = true then (some false) else ((laws_toCfg.f k a0_0 a0_1 a0_2 a0_3 a0_4 a0_5 a0_6 a0_7 a0_8 a0_9 l0_10).bind fun bt840 => ((laws_eqCfg.f k bt825.1 bt825.2.1 bt825.2.2.1 bt825.2.2.2.1 bt825.2.2.2.2.1 bt825.2.2.2.2.2.1 bt825.2.2.2.2.2.2.1 bt825.2.2.2.2.2.2.2.1 bt825.2.2.2.2.2.2.2.2.1 bt825.2.2.2.2.2.2.2.2.2.1 bt825.2.2.2.2.2.2.2.2.2.2 bt840.1 bt840.2.1 bt840.2.2.1 bt840.2.2.2.1 bt840.2.2.2.2.1 bt840.2.2.2.2.2.1 bt840.2.2.2.2.2.2.1 bt840.2.2.2.2.2.2.2.1 bt840.2.2.2.2.2.2.2.2.1 bt840.2.2.2.2.2.2.2.2.2.1 bt840.2.2.2.2.2.2.2.2.2.2).bind fun t853 => (if t853 = true then (some true) else (some false))))))))))
theorem laws_FnExactCfgOk.mono : ∀ a0 a1 a2 a3 a4 a5 a6 a7 a8 a9 a10 k, LeO (laws_FnExactCfgOk.f k a0 a1 a2 a3 a4 a5 a6 a7 a8 a9 a10) (laws_FnExactCfgOk.f (k + 1) a0 a1 a2 a3 a4 a5 a6 a7 a8 a9 a10) := by
  intro a0 a1 a2 a3 a4 a5 a6 a7 a8 a9 a10 k
  unfold laws_FnExactCfgOk.f
  repeat' first
      | (with_reducible exact impl_CfgOk.mono _ _ _ _ _ _ _ _ _ _ _ _)
      | (with_reducible exact laws_eqCfg.mono _ _ _ _ _ _ _ _ _ _ _ _ _ _ _ _ _ _ _ _ _ _ _)
      | (with_reducible exact laws_toCfg.mono _ _ _ _ _ _ _ _ _ _ _ _)
      | (with_reducible exact spec_CfgOk.mono _ _ _ _ _ _ _ _ _ _ _ _)
      | (with_reducible exact LeO.refl _)
      | (with_reducible exact LeO.none _)
      | (with_reducible refine LeO.ite ?_ ?_)
      | (with_reducible refine LeO.bind ?_ (fun _ => ?_))
      | exact impl_CfgOk.mono _ _ _ _ _ _ _ _ _ _ _ _
      | exact laws_eqCfg.mono _ _ _ _ _ _ _ _ _ _ _ _ _ _ _ _ _ _ _ _ _ _ _
      | exact laws_toCfg.mono _ _ _ _ _ _ _ _ _ _ _ _
      | exact spec_CfgOk.mono _ _ _ _ _ _ _ _ _ _ _ _
      | exact LeO.none _
      | refine LeO.ite ?_ ?_
      | refine LeO.bind ?_ (fun _ => ?_)
set_option maxHeartbeats 8000000 in
set_option maxRecDepth 100000 in
theorem laws_FnExactCfgOk.calls (k : Nat) (a0_0 : Int) (a0_1 : Int) (a0_2 : Int) (a0_3 : Int) (a0_4 : Int) (a0_5 : Int) (a0_6 : Int) (a0_7 : Int) (a0_8 : Int) (a0_9 : Int) (A0_10 : Option Addr) (c0_10 : Nat) (l0_10 : List (S109)) (r : Bool) (w : World) (hr0_10 : Kd.C k109 w A0_10 l0_10.length l0_10) (hc0_10 : l0_10.length ≤ c0_10) (hr_ : r = true) (h : laws_FnExactCfgOk.f k a0_0 a0_1 a0_2 a0_3 a0_4 a0_5 a0_6 a0_7 a0_8 a0_9 l0_10 = some r) :
    Calls Try.prog 7 #[.agg #[.int .i64 a0_0, .int .i64 a0_1, .int .i64 a0_2, .int .i64 a0_3, .int .i64 a0_4, .int .i64 a0_5, .int .i64 a0_6, .int .i64 a0_7, .int .i64 a0_8, .int .i64 a0_9, .slice A0_10 l0_10.length c0_10]] w fun e w' => e = .returned (.bool r) ∧ Below w.heap.size w w' := by
  have hu67 := Try.underlying67
  have hu72 := Try.underlying72
  have HR0_10 := Aside0.mk hr0_10
  have HC0_10 := Aside0.mk hc0_10
  clear hr0_10 hc0_10
  have HB := Aside0.mk (Below.refl w.heap.size w)
  have H : ((laws_szCfg.f a0_0 a0_1 a0_2 a0_3 a0_4 a0_5 a0_6 a0_7 a0_8 a0_9 l0_10 1048576).bind fun t810 => (if t810 < 0 then (some true) else ((laws_toCfg.f k a0_0 a0_1 a0_2 a0_3 a0_4 a0_5 a0_6 a0_7 a0_8 a0_9 l0_10).bind fun bt811 => ((spec_CfgOk.f k bt811.1 bt811.2.1 bt811.2.2.1 bt811.2.2.2.1 bt811.2.2.2.2.1 bt811.2.2.2.2.2.1 bt811.2.2.2.2.2.2.1 bt811.2.2.2.2.2.2.2.1 bt811.2.2.2.2.2.2.2.2.1 bt811.2.2.2.2.2.2.2.2.2.1 bt811.2.2.2.2.2.2.2.2.2.2).bind fun t824 => ((laws_toCfg.f k a0_0 a0_1 a0_2 a0_3 a0_4 a0_5 a0_6 a0_7 a0_8 a0_9 l0_10).bind fun bt825 => ((impl_CfgOk.f k bt825.1 bt825.2.1 bt825.2.2.1 bt825.2.2.2.1 bt825.2.2.2.2.1 bt825.2.2.2.2.2.1 bt825.2.2.2.2.2.2.1 bt825.2.2.2.2.2.2.2.1 bt825.2.2.2.2.2.2.2.2.1 bt825.2.2.2.2.2.2.2.2.2.1 bt825.2.2.2.2.2.2.2.2.2.2).bind fun t839 => (if (t839 != t824) = true then (some false) else ((laws_toCfg.f k a0_0 a0_1 a0_2 a0_3 a0_4 a0_5 a0_6 a0_7 a0_8 a0_9 l0_10).bind fun bt840 => ((laws_eqCfg.f k bt825.1 bt825.2.1 bt825.2.2.1 bt825.2.2.2.1 bt825.2.2.2.2.1 bt825.2.2.2.2.2.1 bt825.2.2.2.2.2.2.1 bt825.2.2.2.2.2.2.2.1 bt825.2.2.2.2.2.2.2.2.1 bt825.2.2.2.2.2.2.2.2.2.1 bt825.2.2.2.2.2.2.2.2.2.2 bt840.1 bt840.2.1 bt840.2.2.1 bt840.2.2.2.1 bt840.2.2.2.2.1 bt840.2.2.2.2.2.1 bt840.2.2.2.2.2.2.1 bt840.2.2.2.2.2.2.2.1 bt840.2.2.2.2.2.2.2.2.1 bt840.2.2.2.2.2.2.2.2.2.1 bt840.2.2.2.2.2.2.2.2.2.2).bind fun t853 => (if t853 = true then (some true) else (some false))))))))))) = some r := h
  clear h
  replace H := Option.bind_eq_some_iff.mp H
  obtain ⟨t810, A20, H⟩ := H
  replace H : (if t810 < 0 then (some true) else ((laws_toCfg.f k a0_0 a0_1 a0_2 a0_3 a0_4 a0_5 a0_6 a0_7 a0_8 a0_9 l0_10).bind fun bt811 => ((spec_CfgOk.f k bt811.1 bt811.2.1 bt811.2.2.1 bt811.2.2.2.1 bt811.2.2.2.2.1 bt811.2.2.2.2.2.1 bt811.2.2.2.2.2.2.1 bt811.2.2.2.2.2.2.2.1 bt811.2.2.2.2.2.2.2.2.1 bt811.2.2.2.2.2.2.2.2.2.1 bt811.2.2.2.2.2.2.2.2.2.2).bind fun t824 => ((laws_toCfg.f k a0_0 a0_1 a0_2 a0_3 a0_4 a0_5 a0_6 a0_7 a0_8 a0_9 l0_10).bind fun bt825 => ((impl_CfgOk.f k bt825.1 bt825.2.1 bt825.2.2.1 bt825.2.2.2.1 bt825.2.2.2.2.1 bt825.2.2.2.2.2.1 bt825.2.2.2.2.2.2.1 bt825.2.2.2.2.2.2.2.1 bt825.2.2.2.2.2.2.2.2.1 bt825.2.2.2.2.2.2.2.2.2.1 bt825.2.2.2.2.2.2.2.2.2.2).bind fun t839 => (if (t839 != t824) = true then (some false) else ((laws_toCfg.f k a0_0 a0_1 a0_2 a0_3 a0_4 a0_5 a0_6 a0_7 a0_8 a0_9 l0_10).bind fun bt840 => ((laws_eqCfg.f k bt825.1 bt825.2.1 bt825.2.2.1 bt825.2.2.2.1 bt825.2.2.2.2.1 bt825.2.2.2.2.2.1 bt825.2.2.2.2.2.2.1 bt825.2.2.2.2.2.2.2.1 bt825.2.2.2.2.2.2.2.2.1 bt825.2.2.2.2.2.2.2.2.2.1 bt825.2.2.2.2.2.2.2.2.2.2 bt840.1 bt840.2.1 bt840.2.2.1 bt840.2.2.2.1 bt840.2.2.2.2.1 bt840.2.2.2.2.2.1 bt840.2.2.2.2.2.2.1 bt840.2.2.2.2.2.2.2.1 bt840.2.2.2.2.2.2.2.2.1 bt840.2.2.2.2.2.2.2.2.2.1 bt840.2.2.2.2.2.2.2.2.2.2).bind fun t853 => (if t853 = true then (some true) else (some false)))))))))) = some r := H
  have A2 := Aside0.mk A20
  clear A20
  by_cases c3 : t810 < 0
  · rw [if_pos c3] at H
    have c3b0 : decide (t810 < 0) = true := decide_eq_true c3
    clear c3
    obtain rfl := Option.some.inj H
    go_enter Try.func7, Try.ntmps7
    go_wp2_with (first | ((with_reducible refine gate_dst (N := 1) rfl ?_); refine box_event ?hg (N := 1) ?hd (cs := #[.int .i64 a0_0, .int .i64 a0_1, .int .i64 a0_2, .int .i64 a0_3, .int .i64 a0_4, .int .i64 a0_5, .int .i64 a0_6, .int .i64 a0_7, .int .i64 a0_8, .int .i64 a0_9, .slice A0_10 l0_10.length c0_10]) (t := 67) ?hr ?_; (case hd => rfl); (case hg => rfl); (case hr => first | (go_simp; done) | (go_simp; rfl)); intro gb809 hg w4 hbox hb; have n0_ := Aside0.mk (below_step (hb_ HB.out) hb); have n1_ := Aside0.mk (hbox); have n2_ := Aside0.mk ((by rw [hg]; exact (below_size (hb_ HB.out)) : w.heap.size ≤ gb809)); have n3_ := Aside0.mk ((by rw [hg]; exact (below_size (hb_ HB.out)) : w.heap.size ≤ gb809)); clear HB; have HB := n0_; have BK809 := n1_; have GW809 := n2_; have GE809 := n3_; clear n0_ n1_ n2_ n3_; clear hb hbox hg; have hcz5_0 := bc_ BK809.out 0 (.int .i64 a0_0) rfl; have hcz5_1 := bc_ BK809.out 1 (.int .i64 a0_1) rfl; have hcz5_2 := bc_ BK809.out 2 (.int .i64 a0_2) rfl; have hcz5_3 := bc_ BK809.out 3 (.int .i64 a0_3) rfl; have hcz5_4 := bc_ BK809.out 4 (.int .i64 a0_4) rfl; have hcz5_5 := bc_ BK809.out 5 (.int .i64 a0_5) rfl; have hcz5_6 := bc_ BK809.out 6 (.int .i64 a0_6) rfl; have hcz5_7 := bc_ BK809.out 7 (.int .i64 a0_7) rfl; have hcz5_8 := bc_ BK809.out 8 (.int .i64 a0_8) rfl; have hcz5_9 := bc_ BK809.out 9 (.int .i64 a0_9) rfl; have hcz5_10 := bc_ BK809.out 10 (.slice A0_10 l0_10.length c0_10) rfl; have hfz5_0 := blk_frozen BK809.out 0; have hfz5_1 := blk_frozen BK809.out 1; have hfz5_2 := blk_frozen BK809.out 2; have hfz5_3 := blk_frozen BK809.out 3; have hfz5_4 := blk_frozen BK809.out 4; have hfz5_5 := blk_frozen BK809.out 5; have hfz5_6 := blk_frozen BK809.out 6; have hfz5_7 := blk_frozen BK809.out 7; have hfz5_8 := blk_frozen BK809.out 8; have hfz5_9 := blk_frozen BK809.out 9; have hfz5_10 := blk_frozen BK809.out 10) | ((with_reducible refine gate_callee (f := 33) rfl ?_); refine goesL_ (some 9) rfl rfl Try.func33 (by kernel_rfl) rfl #[.agg #[.int .i64 a0_0, .int .i64 a0_1, .int .i64 a0_2, .int .i64 a0_3, .int .i64 a0_4, .int .i64 a0_5, .int .i64 a0_6, .int .i64 a0_7, .int .i64 a0_8, .int .i64 a0_9, .slice A0_10 l0_10.length c0_10], .int .i64 1048576] rfl arr_ ?_; (with_reducible refine (laws_szCfg.calls a0_0 a0_1 a0_2 a0_3 a0_4 a0_5 a0_6 a0_7 a0_8 a0_9 _ _ l0_10 1048576 t810 _ ?side1 ?side2 A2.out).mono ?_); (case side1 => exact kc_ (Kd.C_below HR0_10.out HB.out)); (case side2 => exact HC0_10.out); rintro e w6 ⟨rfl, hb⟩; refine ⟨_, rfl, ?_⟩; have n0_ := Aside0.mk (bb_ BK809.out hb); have n1_ := Aside0.mk (below_step (hb1_ HB.out GE809.out) hb); clear BK809; clear HB; have BK809 := n0_; have HB := n1_; clear n0_ n1_; (try clear hb); (try clear hb2); (try clear hk); (try clear hi)))
    go_ret
    exact ⟨er_, hb1_ HB.out GE809.out⟩
  · rw [if_neg c3] at H
    have c3b0 : decide (t810 < 0) = false := decide_eq_false c3
    clear c3
    replace H := Option.bind_eq_some_iff.mp H
    obtain ⟨⟨t811, t812, t813, t814, t815, t816, t817, t818, t819, t820, t821⟩, A70, H⟩ := H
    replace H : ((spec_CfgOk.f k t811 t812 t813 t814 t815 t816 t817 t818 t819 t820 t821).bind fun t824 => ((laws_toCfg.f k a0_0 a0_1 a0_2 a0_3 a0_4 a0_5 a0_6 a0_7 a0_8 a0_9 l0_10).bind fun bt825 => ((impl_CfgOk.f k bt825.1 bt825.2.1 bt825.2.2.1 bt825.2.2.2.1 bt825.2.2.2.2.1 bt825.2.2.2.2.2.1 bt825.2.2.2.2.2.2.1 bt825.2.2.2.2.2.2.2.1 bt825.2.2.2.2.2.2.2.2.1 bt825.2.2.2.2.2.2.2.2.2.1 bt825.2.2.2.2.2.2.2.2.2.2).bind fun t839 => (if (t839 != t824) = true then (some false) else ((laws_toCfg.f k a0_0 a0_1 a0_2 a0_3 a0_4 a0_5 a0_6 a0_7 a0_8 a0_9 l0_10).bind fun bt840 => ((laws_eqCfg.f k bt825.1 bt825.2.1 bt825.2.2.1 bt825.2.2.2.1 bt825.2.2.2.2.1 bt825.2.2.2.2.2.1 bt825.2.2.2.2.2.2.1 bt825.2.2.2.2.2.2.2.1 bt825.2.2.2.2.2.2.2.2.1 bt825.2.2.2.2.2.2.2.2.2.1 bt825.2.2.2.2.2.2.2.2.2.2 bt840.1 bt840.2.1 bt840.2.2.1 bt840.2.2.2.1 bt840.2.2.2.2.1 bt840.2.2.2.2.2.1 bt840.2.2.2.2.2.2.1 bt840.2.2.2.2.2.2.2.1 bt840.2.2.2.2.2.2.2.2.1 bt840.2.2.2.2.2.2.2.2.2.1 bt840.2.2.2.2.2.2.2.2.2.2).bind fun t853 => (if t853 = true then (some true) else (some false)))))))) = some r := H
    have A7 := Aside0.mk A70
    clear A70
    replace H := Option.bind_eq_some_iff.mp H
    obtain ⟨t824, A80, H⟩ := H
    replace H : ((laws_toCfg.f k a0_0 a0_1 a0_2 a0_3 a0_4 a0_5 a0_6 a0_7 a0_8 a0_9 l0_10).bind fun bt825 => ((impl_CfgOk.f k bt825.1 bt825.2.1 bt825.2.2.1 bt825.2.2.2.1 bt825.2.2.2.2.1 bt825.2.2.2.2.2.1 bt825.2.2.2.2.2.2.1 bt825.2.2.2.2.2.2.2.1 bt825.2.2.2.2.2.2.2.2.1 bt825.2.2.2.2.2.2.2.2.2.1 bt825.2.2.2.2.2.2.2.2.2.2).bind fun t839 => (if (t839 != t824) = true then (some false) else ((laws_toCfg.f k a0_0 a0_1 a0_2 a0_3 a0_4 a0_5 a0_6 a0_7 a0_8 a0_9 l0_10).bind fun bt840 => ((laws_eqCfg.f k bt825.1 bt825.2.1 bt825.2.2.1 bt825.2.2.2.1 bt825.2.2.2.2.1 bt825.2.2.2.2.2.1 bt825.2.2.2.2.2.2.1 bt825.2.2.2.2.2.2.2.1 bt825.2.2.2.2.2.2.2.2.1 bt825.2.2.2.2.2.2.2.2.2.1 bt825.2.2.2.2.2.2.2.2.2.2 bt840.1 bt840.2.1 bt840.2.2.1 bt840.2.2.2.1 bt840.2.2.2.2.1 bt840.2.2.2.2.2.1 bt840.2.2.2.2.2.2.1 bt840.2.2.2.2.2.2.2.1 bt840.2.2.2.2.2.2.2.2.1 bt840.2.2.2.2.2.2.2.2.2.1 bt840.2.2.2.2.2.2.2.2.2.2).bind fun t853 => (if t853 = true then (some true) else (some false))))))) = some r := H
    have A8 := Aside0.mk A80
    clear A80
    replace H := Option.bind_eq_some_iff.mp H
    obtain ⟨⟨t825, t826, t827, t828, t829, t830, t831, t832, t833, t834, t835⟩, A90, H⟩ := H
    replace H : ((impl_CfgOk.f k t825 t826 t827 t828 t829 t830 t831 t832 t833 t834 t835).bind fun t839 => (if (t839 != t824) = true then (some false) else ((laws_toCfg.f k a0_0 a0_1 a0_2 a0_3 a0_4 a0_5 a0_6 a0_7 a0_8 a0_9 l0_10).bind fun bt840 => ((laws_eqCfg.f k t825 t826 t827 t828 t829 t830 t831 t832 t833 t834 t835 bt840.1 bt840.2.1 bt840.2.2.1 bt840.2.2.2.1 bt840.2.2.2.2.1 bt840.2.2.2.2.2.1 bt840.2.2.2.2.2.2.1 bt840.2.2.2.2.2.2.2.1 bt840.2.2.2.2.2.2.2.2.1 bt840.2.2.2.2.2.2.2.2.2.1 bt840.2.2.2.2.2.2.2.2.2.2).bind fun t853 => (if t853 = true then (some true) else (some false)))))) = some r := H
    have A9 := Aside0.mk A90
    clear A90
    replace H := Option.bind_eq_some_iff.mp H
    obtain ⟨t839, A100, H⟩ := H
    replace H : (if (t839 != t824) = true then (some false) else ((laws_toCfg.f k a0_0 a0_1 a0_2 a0_3 a0_4 a0_5 a0_6 a0_7 a0_8 a0_9 l0_10).bind fun bt840 => ((laws_eqCfg.f k t825 t826 t827 t828 t829 t830 t831 t832 t833 t834 t835 bt840.1 bt840.2.1 bt840.2.2.1 bt840.2.2.2.1 bt840.2.2.2.2.1 bt840.2.2.2.2.2.1 bt840.2.2.2.2.2.2.1 bt840.2.2.2.2.2.2.2.1 bt840.2.2.2.2.2.2.2.2.1 bt840.2.2.2.2.2.2.2.2.2.1 bt840.2.2.2.2.2.2.2.2.2.2).bind fun t853 => (if t853 = true then (some true) else (some false))))) = some r := H
    have A10 := Aside0.mk A100
    clear A100
    by_cases c11 : (t839 != t824) = true
    · rw [if_pos c11] at H
      have c11b0 : (t839 != t824) = true := c11
      (try (have c11b1 : decide (t839 = t824) = false := by simpa using c11))
      (try (have c11b2 : (t839 == t824) = false := by simpa using c11))
      (try (have c11b3 : ¬ (t839 = t824) := by simpa using c11))
      clear c11
      obtain rfl := Option.some.inj H
      exact absurd hr_ (by decide)
    · rw [if_neg c11] at H
      have c11b0 : (t839 != t824) = false := by simpa using c11
      (try (have c11b1 : decide (t839 = t824) = true := by simpa using c11))
      (try (have c11b2 : (t839 == t824) = true := by simpa using c11))
      clear c11
      replace H := Option.bind_eq_some_iff.mp H
      obtain ⟨⟨t840, t841, t842, t843, t844, t845, t846, t847, t848, t849, t850⟩, A120, H⟩ := H
      replace H : ((laws_eqCfg.f k t825 t826 t827 t828 t829 t830 t831 t832 t833 t834 t835 t840 t841 t842 t843 t844 t845 t846 t847 t848 t849 t850).bind fun t853 => (if t853 = true then (some true) else (some false))) = some r := H
      have A12 := Aside0.mk A120
      clear A120
      replace H := Option.bind_eq_some_iff.mp H
      obtain ⟨t853, A130, H⟩ := H
      replace H : (if t853 = true then (some true) else (some false)) = some r := H
      have A13 := Aside0.mk A130
      clear A130
      by_cases c14 : t853 = true
      · subst c14
        have H1 : (some true) = some r := by rw [if_pos rfl] at H; exact H
        clear H
        have H := H1
        clear H1
        obtain rfl := Option.some.inj H
        go_enter Try.func7, Try.ntmps7
        try go_wp2_with (first | ((with_reducible refine gate_dst (N := 1) rfl ?_); refine box_event ?hg (N := 1) ?hd (cs := #[.int .i64 a0_0, .int .i64 a0_1, .int .i64 a0_2, .int .i64 a0_3, .int .i64 a0_4, .int .i64 a0_5, .int .i64 a0_6, .int .i64 a0_7, .int .i64 a0_8, .int .i64 a0_9, .slice A0_10 l0_10.length c0_10]) (t := 67) ?hr ?_; (case hd => rfl); (case hg => rfl); (case hr => first | (go_simp; done) | (go_simp; rfl)); intro gb809 hg w15 hbox hb; have n0_ := Aside0.mk (below_step (hb_ HB.out) hb); have n1_ := Aside0.mk (hbox); have n2_ := Aside0.mk ((by rw [hg]; exact (below_size (hb_ HB.out)) : w.heap.size ≤ gb809)); have n3_ := Aside0.mk ((by rw [hg]; exact (below_size (hb_ HB.out)) : w.heap.size ≤ gb809)); clear HB; have HB := n0_; have BK809 := n1_; have GW809 := n2_; have GE809 := n3_; clear n0_ n1_ n2_ n3_; clear hb hbox hg; have hcz16_0 := bc_ BK809.out 0 (.int .i64 a0_0) rfl; have hcz16_1 := bc_ BK809.out 1 (.int .i64 a0_1) rfl; have hcz16_2 := bc_ BK809.out 2 (.int .i64 a0_2) rfl; have hcz16_3 := bc_ BK809.out 3 (.int .i64 a0_3) rfl; have hcz16_4 := bc_ BK809.out 4 (.int .i64 a0_4) rfl; have hcz16_5 := bc_ BK809.out 5 (.int .i64 a0_5) rfl; have hcz16_6 := bc_ BK809.out 6 (.int .i64 a0_6) rfl; have hcz16_7 := bc_ BK809.out 7 (.int .i64 a0_7) rfl; have hcz16_8 := bc_ BK809.out 8 (.int .i64 a0_8) rfl; have hcz16_9 := bc_ BK809.out 9 (.int .i64 a0_9) rfl; have hcz16_10 := bc_ BK809.out 10 (.slice A0_10 l0_10.length c0_10) rfl; have hfz16_0 := blk_frozen BK809.out 0; have hfz16_1 := blk_frozen BK809.out 1; have hfz16_2 := blk_frozen BK809.out 2; have hfz16_3 := blk_frozen BK809.out 3; have hfz16_4 := blk_frozen BK809.out 4; have hfz16_5 := blk_frozen BK809.out 5; have hfz16_6 := blk_frozen BK809.out 6; have hfz16_7 := blk_frozen BK809.out 7; have hfz16_8 := blk_frozen BK809.out 8; have hfz16_9 := blk_frozen BK809.out 9; have hfz16_10 := blk_frozen BK809.out 10) | ((with_reducible refine gate_callee (f := 33) rfl ?_); refine goesL_ (some 9) rfl rfl Try.func33 (by kernel_rfl) rfl #[.agg #[.int .i64 a0_0, .int .i64 a0_1, .int .i64 a0_2, .int .i64 a0_3, .int .i64 a0_4, .int .i64 a0_5, .int .i64 a0_6, .int .i64 a0_7, .int .i64 a0_8, .int .i64 a0_9, .slice A0_10 l0_10.length c0_10], .int .i64 1048576] rfl arr_ ?_; (with_reducible refine (laws_szCfg.calls a0_0 a0_1 a0_2 a0_3 a0_4 a0_5 a0_6 a0_7 a0_8 a0_9 _ _ l0_10 1048576 t810 _ ?side1 ?side2 A2.out).mono ?_); (case side1 => exact kc_ (Kd.C_below HR0_10.out HB.out)); (case side2 => exact HC0_10.out); rintro e w17 ⟨rfl, hb⟩; refine ⟨_, rfl, ?_⟩; have n0_ := Aside0.mk (bb_ BK809.out hb); have n1_ := Aside0.mk (below_step (hb1_ HB.out GE809.out) hb); clear BK809; clear HB; have BK809 := n0_; have HB := n1_; clear n0_ n1_; (try clear hb); (try clear hb2); (try clear hk); (try clear hi); have hcz18_0 := bc_ BK809.out 0 (.int .i64 a0_0) rfl; have hcz18_1 := bc_ BK809.out 1 (.int .i64 a0_1) rfl; have hcz18_2 := bc_ BK809.out 2 (.int .i64 a0_2) rfl; have hcz18_3 := bc_ BK809.out 3 (.int .i64 a0_3) rfl; have hcz18_4 := bc_ BK809.out 4 (.int .i64 a0_4) rfl; have hcz18_5 := bc_ BK809.out 5 (.int .i64 a0_5) rfl; have hcz18_6 := bc_ BK809.out 6 (.int .i64 a0_6) rfl; have hcz18_7 := bc_ BK809.out 7 (.int .i64 a0_7) rfl; have hcz18_8 := bc_ BK809.out 8 (.int .i64 a0_8) rfl; have hcz18_9 := bc_ BK809.out 9 (.int .i64 a0_9) rfl; have hcz18_10 := bc_ BK809.out 10 (.slice A0_10 l0_10.length c0_10) rfl; have hfz18_0 := blk_frozen BK809.out 0; have hfz18_1 := blk_frozen BK809.out 1; have hfz18_2 := blk_frozen BK809.out 2; have hfz18_3 := blk_frozen BK809.out 3; have hfz18_4 := blk_frozen BK809.out 4; have hfz18_5 := blk_frozen BK809.out 5; have hfz18_6 := blk_frozen BK809.out 6; have hfz18_7 := blk_frozen BK809.out 7; have hfz18_8 := blk_frozen BK809.out 8; have hfz18_9 := blk_frozen BK809.out 9; have hfz18_10 := blk_frozen BK809.out 10) | ((with_reducible refine gate_callee (f := 35) rfl ?_); refine goesL_ (some 13) rfl rfl Try.func35 (by kernel_rfl) rfl #[.agg #[.int .i64 a0_0, .int .i64 a0_1, .int .i64 a0_2, .int .i64 a0_3, .int .i64 a0_4, .int .i64 a0_5, .int .i64 a0_6, .int .i64 a0_7, .int .i64 a0_8, .int .i64 a0_9, .slice A0_10 l0_10.length c0_10]] rfl arr_ ?_; (with_reducible refine (laws_toCfg.calls k a0_0 a0_1 a0_2 a0_3 a0_4 a0_5 a0_6 a0_7 a0_8 a0_9 _ _ l0_10 t811 t812 t813 t814 t815 t816 t817 t818 t819 t820 t821 _ ?side1 ?side2 A7.out).mono ?_); (case side1 => exact kc_ (Kd.C_below HR0_10.out HB.out)); (case side2 => exact HC0_10.out); rintro e w19 ⟨v822, rfl, ho0, hb⟩; refine ⟨_, rfl, ?_⟩; have n0_ := Aside0.mk (Kd.R_lower ho0 (below_size (hb1_ HB.out GE809.out))); have n1_ := Aside0.mk (bb_ BK809.out hb); have n2_ := Aside0.mk (below_step (hb1_ HB.out GE809.out) hb); clear BK809; clear HB; have HO823 := n0_; have BK809 := n1_; have HB := n2_; clear n0_ n1_ n2_; (try clear hb); (try clear hb2); (try clear hk); (try clear hi); (try clear ho0); obtain ⟨Ao20, co20, eo20⟩ := Kd.R_slice HO823.out; subst eo20) | ((with_reducible refine gate_callee (f := 34) rfl ?_); refine goesL_ (some 14) rfl rfl Try.func34 (by kernel_rfl) rfl #[.agg #[.int .i64 t811, .int .i64 t812, .int .i64 t813, .int .i64 t814, .int .i64 t815, .int .i64 t816, .int .i64 t817, .int .i64 t818, .int .i64 t819, .int .i64 t820, .slice Ao20 t821.length co20]] rfl arr_ ?_; (with_reducible refine (spec_CfgOk.calls k t811 t812 t813 t814 t815 t816 t817 t818 t819 t820 _ _ t821 t824 _ ?side1 ?side2 A8.out).mono ?_); (case side1 => repeat (first | exact (Kd.R_reads' HO823.out).2.2 | (with_reducible refine Kd.C_alloc ?_ _) | (with_reducible refine Kd.C_drewN ?_ _) | (with_reducible refine Kd.C_drew ?_))); (case side2 => exact (Kd.R_reads' HO823.out).2.1); rintro e w21 ⟨rfl, hb⟩; refine ⟨_, rfl, ?_⟩; have n0_ := Aside0.mk (Kd.R_below (by (with_reducible repeat (first | apply Kd.R_alloc | apply Kd.R_drewN | apply Kd.R_drew)); exact HO823.out) hb); have n1_ := Aside0.mk (bb_ BK809.out hb); have n2_ := Aside0.mk (below_step (hb1_ HB.out GE809.out) hb); clear HO823; clear BK809; clear HB; have HO823 := n0_; have BK809 := n1_; have HB := n2_; clear n0_ n1_ n2_; (try clear hb); (try clear hb2); (try clear hk); (try clear hi); have hcz22_0 := bc_ BK809.out 0 (.int .i64 a0_0) rfl; have hcz22_1 := bc_ BK809.out 1 (.int .i64 a0_1) rfl; have hcz22_2 := bc_ BK809.out 2 (.int .i64 a0_2) rfl; have hcz22_3 := bc_ BK809.out 3 (.int .i64 a0_3) rfl; have hcz22_4 := bc_ BK809.out 4 (.int .i64 a0_4) rfl; have hcz22_5 := bc_ BK809.out 5 (.int .i64 a0_5) rfl; have hcz22_6 := bc_ BK809.out 6 (.int .i64 a0_6) rfl; have hcz22_7 := bc_ BK809.out 7 (.int .i64 a0_7) rfl; have hcz22_8 := bc_ BK809.out 8 (.int .i64 a0_8) rfl; have hcz22_9 := bc_ BK809.out 9 (.int .i64 a0_9) rfl; have hcz22_10 := bc_ BK809.out 10 (.slice A0_10 l0_10.length c0_10) rfl; have hfz22_0 := blk_frozen BK809.out 0; have hfz22_1 := blk_frozen BK809.out 1; have hfz22_2 := blk_frozen BK809.out 2; have hfz22_3 := blk_frozen BK809.out 3; have hfz22_4 := blk_frozen BK809.out 4; have hfz22_5 := blk_frozen BK809.out 5; have hfz22_6 := blk_frozen BK809.out 6; have hfz22_7 := blk_frozen BK809.out 7; have hfz22_8 := blk_frozen BK809.out 8; have hfz22_9 := blk_frozen BK809.out 9; have hfz22_10 := blk_frozen BK809.out 10) | ((with_reducible refine gate_callee (f := 35) rfl ?_); refine goesL_ (some 16) rfl rfl Try.func35 (by kernel_rfl) rfl #[.agg #[.int .i64 a0_0, .int .i64 a0_1, .int .i64 a0_2, .int .i64 a0_3, .int .i64 a0_4, .int .i64 a0_5, .int .i64 a0_6, .int .i64 a0_7, .int .i64 a0_8, .int .i64 a0_9, .slice A0_10 l0_10.length c0_10]] rfl arr_ ?_; (with_reducible refine (laws_toCfg.calls k a0_0 a0_1 a0_2 a0_3 a0_4 a0_5 a0_6 a0_7 a0_8 a0_9 _ _ l0_10 t825 t826 t827 t828 t829 t830 t831 t832 t833 t834 t835 _ ?side1 ?side2 A9.out).mono ?_); (case side1 => exact kc_ (Kd.C_below HR0_10.out HB.out)); (case side2 => exact HC0_10.out); rintro e w23 ⟨v836, rfl, ho0, hb⟩; refine ⟨_, rfl, ?_⟩; have n0_ := Aside0.mk (Kd.R_elder' (by (with_reducible repeat (first | apply Kd.R_alloc | apply Kd.R_drewN | apply Kd.R_drew)); exact HO823.out) (Kd.R_base ho0) hb); have n1_ := Aside0.mk (Kd.R_lower (Kd.R_new' ho0 (Kd.R_lt (by (with_reducible repeat (first | apply Kd.R_alloc | apply Kd.R_drewN | apply Kd.R_drew)); exact HO823.out))) (below_size (hb1_ HB.out GE809.out))); have n2_ := Aside0.mk (bb_ BK809.out hb); have n3_ := Aside0.mk (below_step (hb1_ HB.out GE809.out) hb); clear HO823; clear BK809; clear HB; have HO823 := n0_; have HO837 := n1_; have BK809 := n2_; have HB := n3_; clear n0_ n1_ n2_ n3_; (try clear hb); (try clear hb2); (try clear hk); (try clear hi); (try clear ho0)) | ((with_reducible refine gate_dst (N := 5) rfl ?_); refine box_event ?hg (N := 5) ?hd (cs := #[.int .i64 0, .int .i64 0, .int .i64 0, .int .i64 0, .int .i64 0, .int .i64 0, .int .i64 0, .int .i64 0, .int .i64 0, .int .i64 0, .slice none 0 0]) (t := 72) ?hr ?_; (case hd => rfl); (case hg => rfl); (case hr => first | (go_simp; done) | (go_simp; rfl)); intro gb838 hg w24 hbox hb; have n0_ := Aside0.mk (Kd.R_below (by (with_reducible repeat (first | apply Kd.R_alloc | apply Kd.R_drewN | apply Kd.R_drew)); exact HO823.out) hb); have n1_ := Aside0.mk (Kd.R_below (by (with_reducible repeat (first | apply Kd.R_alloc | apply Kd.R_drewN | apply Kd.R_drew)); exact HO837.out) hb); have n2_ := Aside0.mk (bb_ BK809.out hb); have n3_ := Aside0.mk (below_step (hb1_ HB.out GE809.out) hb); have n4_ := Aside0.mk (hbox); have n5_ := Aside0.mk ((by rw [hg]; exact (below_size (hb1_ HB.out GE809.out)) : w.heap.size ≤ gb838)); have n6_ := Aside0.mk ((by rw [hg]; exact (below_size (hb1_ HB.out GE809.out)) : w.heap.size ≤ gb838)); have n7_ := Aside0.mk ((bl_ hg BK809.out : gb809 ≠ gb838)); have n8_ := Aside0.mk ((bg_ hg BK809.out : gb838 ≠ gb809)); clear HO823; clear HO837; clear BK809; clear HB; have HO823 := n0_; have HO837 := n1_; have BK809 := n2_; have HB := n3_; have BK838 := n4_; have GW838 := n5_; have GE838 := n6_; have NB809_838 := n7_; have NB838_809 := n8_; clear n0_ n1_ n2_ n3_ n4_ n5_ n6_ n7_ n8_; clear hb hbox hg; have hnb25 := NB838_809.out; have hnc25 := NB809_838.out; have hcz26_0 := bc_ BK838.out 0 (.int .i64 0) rfl; have hcz26_1 := bc_ BK838.out 1 (.int .i64 0) rfl; have hcz26_2 := bc_ BK838.out 2 (.int .i64 0) rfl; have hcz26_3 := bc_ BK838.out 3 (.int .i64 0) rfl; have hcz26_4 := bc_ BK838.out 4 (.int .i64 0) rfl; have hcz26_5 := bc_ BK838.out 5 (.int .i64 0) rfl; have hcz26_6 := bc_ BK838.out 6 (.int .i64 0) rfl; have hcz26_7 := bc_ BK838.out 7 (.int .i64 0) rfl; have hcz26_8 := bc_ BK838.out 8 (.int .i64 0) rfl; have hcz26_9 := bc_ BK838.out 9 (.int .i64 0) rfl; have hcz26_10 := bc_ BK838.out 10 (.slice none 0 0) rfl; have hfz26_0 := blk_frozen BK838.out 0; have hfz26_1 := blk_frozen BK838.out 1; have hfz26_2 := blk_frozen BK838.out 2; have hfz26_3 := blk_frozen BK838.out 3; have hfz26_4 := blk_frozen BK838.out 4; have hfz26_5 := blk_frozen BK838.out 5; have hfz26_6 := blk_frozen BK838.out 6; have hfz26_7 := blk_frozen BK838.out 7; have hfz26_8 := blk_frozen BK838.out 8; have hfz26_9 := blk_frozen BK838.out 9; have hfz26_10 := blk_frozen BK838.out 10; obtain ⟨Ao27, co27, eo27⟩ := Kd.R_slice HO837.out; subst eo27) | ((with_reducible refine gate_callee (f := 36) rfl ?_); refine goesL_ (some 18) rfl rfl Try.func36 (by kernel_rfl) rfl #[.agg #[.int .i64 t825, .int .i64 t826, .int .i64 t827, .int .i64 t828, .int .i64 t829, .int .i64 t830, .int .i64 t831, .int .i64 t832, .int .i64 t833, .int .i64 t834, .slice Ao27 t835.length co27]] rfl arr_ ?_; (with_reducible refine (impl_CfgOk.calls k t825 t826 t827 t828 t829 t830 t831 t832 t833 t834 _ _ t835 t839 _ ?side1 ?side2 A10.out).mono ?_); (case side1 => refine (Kd.R_reads' (e := 78) (base := w.heap.size) (ok := fun k_ => (True ∧ some k_ ≠ (.slice Ao20 t821.length co20 : Value).ownBlock)) (n := t835.length) (c := co27) ?_).2.2; exact (by (with_reducible repeat (first | apply Kd.R_alloc | apply Kd.R_drewN | apply Kd.R_drew)); exact (Kd.R_mono (Kd.R_far (p := ⟨gb838, 10, none⟩) (Kd.R_far (p := ⟨gb838, 9, none⟩) (Kd.R_far (p := ⟨gb838, 8, none⟩) (Kd.R_far (p := ⟨gb838, 7, none⟩) (Kd.R_far (p := ⟨gb838, 6, none⟩) (Kd.R_far (p := ⟨gb838, 5, none⟩) (Kd.R_far (p := ⟨gb838, 4, none⟩) (Kd.R_far (p := ⟨gb838, 3, none⟩) (Kd.R_far (p := ⟨gb838, 2, none⟩) (Kd.R_far (p := ⟨gb838, 1, none⟩) (Kd.R_far (p := ⟨gb838, 0, none⟩) (Kd.R_types HO837.out BK838.out (by decide)) (fun _ hk => hk.2) (.int .i64 t825)) (fun _ hk => hk.2) (.int .i64 t826)) (fun _ hk => hk.2) (.int .i64 t827)) (fun _ hk => hk.2) (.int .i64 t828)) (fun _ hk => hk.2) (.int .i64 t829)) (fun _ hk => hk.2) (.int .i64 t830)) (fun _ hk => hk.2) (.int .i64 t831)) (fun _ hk => hk.2) (.int .i64 t832)) (fun _ hk => hk.2) (.int .i64 t833)) (fun _ hk => hk.2) (.int .i64 t834)) (fun _ hk => hk.2) (.slice Ao27 t835.length co27)) (fun _ h_ => h_.1)))); (case side2 => exact (Kd.R_reads' HO837.out).2.1); rintro e w28 ⟨rfl, hb⟩; refine ⟨_, rfl, ?_⟩; have n0_ := Aside0.mk (Kd.R_below (by (with_reducible repeat (first | apply Kd.R_alloc | apply Kd.R_drewN | apply Kd.R_drew)); exact (Kd.R_mono (Kd.R_far (p := ⟨gb838, 10, none⟩) (Kd.R_far (p := ⟨gb838, 9, none⟩) (Kd.R_far (p := ⟨gb838, 8, none⟩) (Kd.R_far (p := ⟨gb838, 7, none⟩) (Kd.R_far (p := ⟨gb838, 6, none⟩) (Kd.R_far (p := ⟨gb838, 5, none⟩) (Kd.R_far (p := ⟨gb838, 4, none⟩) (Kd.R_far (p := ⟨gb838, 3, none⟩) (Kd.R_far (p := ⟨gb838, 2, none⟩) (Kd.R_far (p := ⟨gb838, 1, none⟩) (Kd.R_far (p := ⟨gb838, 0, none⟩) (Kd.R_types HO823.out BK838.out (by decide)) (fun _ hk => hk.2) (.int .i64 t825)) (fun _ hk => hk.2) (.int .i64 t826)) (fun _ hk => hk.2) (.int .i64 t827)) (fun _ hk => hk.2) (.int .i64 t828)) (fun _ hk => hk.2) (.int .i64 t829)) (fun _ hk => hk.2) (.int .i64 t830)) (fun _ hk => hk.2) (.int .i64 t831)) (fun _ hk => hk.2) (.int .i64 t832)) (fun _ hk => hk.2) (.int .i64 t833)) (fun _ hk => hk.2) (.int .i64 t834)) (fun _ hk => hk.2) (.slice Ao27 t835.length co27)) (fun _ h_ => h_.1))) hb); have n1_ := Aside0.mk (Kd.R_below (by (with_reducible repeat (first | apply Kd.R_alloc | apply Kd.R_drewN | apply Kd.R_drew)); exact (Kd.R_mono (Kd.R_far (p := ⟨gb838, 10, none⟩) (Kd.R_far (p := ⟨gb838, 9, none⟩) (Kd.R_far (p := ⟨gb838, 8, none⟩) (Kd.R_far (p := ⟨gb838, 7, none⟩) (Kd.R_far (p := ⟨gb838, 6, none⟩) (Kd.R_far (p := ⟨gb838, 5, none⟩) (Kd.R_far (p := ⟨gb838, 4, none⟩) (Kd.R_far (p := ⟨gb838, 3, none⟩) (Kd.R_far (p := ⟨gb838, 2, none⟩) (Kd.R_far (p := ⟨gb838, 1, none⟩) (Kd.R_far (p := ⟨gb838, 0, none⟩) (Kd.R_types HO837.out BK838.out (by decide)) (fun _ hk => hk.2) (.int .i64 t825)) (fun _ hk => hk.2) (.int .i64 t826)) (fun _ hk => hk.2) (.int .i64 t827)) (fun _ hk => hk.2) (.int .i64 t828)) (fun _ hk => hk.2) (.int .i64 t829)) (fun _ hk => hk.2) (.int .i64 t830)) (fun _ hk => hk.2) (.int .i64 t831)) (fun _ hk => hk.2) (.int .i64 t832)) (fun _ hk => hk.2) (.int .i64 t833)) (fun _ hk => hk.2) (.int .i64 t834)) (fun _ hk => hk.2) (.slice Ao27 t835.length co27)) (fun _ h_ => h_.1))) hb); have n2_ := Aside0.mk (blk_below (g := gb809) (o := .cells #[.int .i64 a0_0, .int .i64 a0_1, .int .i64 a0_2, .int .i64 a0_3, .int .i64 a0_4, .int .i64 a0_5, .int .i64 a0_6, .int .i64 a0_7, .int .i64 a0_8, .int .i64 a0_9, .slice A0_10 l0_10.length c0_10] 67 (0, 0)) (by (with_reducible repeat (first | refine blk_drewN ?_ _ | refine blk_drew ?_ | refine blk_alloc ?_ _)); refine blk_far ?_ NB809_838.out _; (with_reducible repeat (first | refine blk_drewN ?_ _ | refine blk_drew ?_ | refine blk_alloc ?_ _)); refine blk_far ?_ NB809_838.out _; (with_reducible repeat (first | refine blk_drewN ?_ _ | refine blk_drew ?_ | refine blk_alloc ?_ _)); refine blk_far ?_ NB809_838.out _; (with_reducible repeat (first | refine blk_drewN ?_ _ | refine blk_drew ?_ | refine blk_alloc ?_ _)); refine blk_far ?_ NB809_838.out _; (with_reducible repeat (first | refine blk_drewN ?_ _ | refine blk_drew ?_ | refine blk_alloc ?_ _)); refine blk_far ?_ NB809_838.out _; (with_reducible repeat (first | refine blk_drewN ?_ _ | refine blk_drew ?_ | refine blk_alloc ?_ _)); refine blk_far ?_ NB809_838.out _; (with_reducible repeat (first | refine blk_drewN ?_ _ | refine blk_drew ?_ | refine blk_alloc ?_ _)); refine blk_far ?_ NB809_838.out _; (with_reducible repeat (first | refine blk_drewN ?_ _ | refine blk_drew ?_ | refine blk_alloc ?_ _)); refine blk_far ?_ NB809_838.out _; (with_reducible repeat (first | refine blk_drewN ?_ _ | refine blk_drew ?_ | refine blk_alloc ?_ _)); refine blk_far ?_ NB809_838.out _; (with_reducible repeat (first | refine blk_drewN ?_ _ | refine blk_drew ?_ | refine blk_alloc ?_ _)); refine blk_far ?_ NB809_838.out _; (with_reducible repeat (first | refine blk_drewN ?_ _ | refine blk_drew ?_ | refine blk_alloc ?_ _)); refine blk_far ?_ NB809_838.out _; (with_reducible repeat (first | refine blk_drewN ?_ _ | refine blk_drew ?_ | refine blk_alloc ?_ _)); exact BK809.out) hb); have n3_ := Aside0.mk (blk_below (g := gb838) (o := .cells #[.int .i64 t825, .int .i64 t826, .int .i64 t827, .int .i64 t828, .int .i64 t829, .int .i64 t830, .int .i64 t831, .int .i64 t832, .int .i64 t833, .int .i64 t834, .slice Ao27 t835.length co27] 72 (0, 0)) (by (with_reducible repeat (first | refine blk_drewN ?_ _ | refine blk_drew ?_ | refine blk_alloc ?_ _)); refine blk_put (cs := #[.int .i64 t825, .int .i64 t826, .int .i64 t827, .int .i64 t828, .int .i64 t829, .int .i64 t830, .int .i64 t831, .int .i64 t832, .int .i64 t833, .int .i64 t834, .slice none 0 0]) ?_ 10 _ rfl; (with_reducible repeat (first | refine blk_drewN ?_ _ | refine blk_drew ?_ | refine blk_alloc ?_ _)); refine blk_put (cs := #[.int .i64 t825, .int .i64 t826, .int .i64 t827, .int .i64 t828, .int .i64 t829, .int .i64 t830, .int .i64 t831, .int .i64 t832, .int .i64 t833, .int .i64 0, .slice none 0 0]) ?_ 9 _ rfl; (with_reducible repeat (first | refine blk_drewN ?_ _ | refine blk_drew ?_ | refine blk_alloc ?_ _)); refine blk_put (cs := #[.int .i64 t825, .int .i64 t826, .int .i64 t827, .int .i64 t828, .int .i64 t829, .int .i64 t830, .int .i64 t831, .int .i64 t832, .int .i64 0, .int .i64 0, .slice none 0 0]) ?_ 8 _ rfl; (with_reducible repeat (first | refine blk_drewN ?_ _ | refine blk_drew ?_ | refine blk_alloc ?_ _)); refine blk_put (cs := #[.int .i64 t825, .int .i64 t826, .int .i64 t827, .int .i64 t828, .int .i64 t829, .int .i64 t830, .int .i64 t831, .int .i64 0, .int .i64 0, .int .i64 0, .slice none 0 0]) ?_ 7 _ rfl; (with_reducible repeat (first | refine blk_drewN ?_ _ | refine blk_drew ?_ | refine blk_alloc ?_ _)); refine blk_put (cs := #[.int .i64 t825, .int .i64 t826, .int .i64 t827, .int .i64 t828, .int .i64 t829, .int .i64 t830, .int .i64 0, .int .i64 0, .int .i64 0, .int .i64 0, .slice none 0 0]) ?_ 6 _ rfl; (with_reducible repeat (first | refine blk_drewN ?_ _ | refine blk_drew ?_ | refine blk_alloc ?_ _)); refine blk_put (cs := #[.int .i64 t825, .int .i64 t826, .int .i64 t827, .int .i64 t828, .int .i64 t829, .int .i64 0, .int .i64 0, .int .i64 0, .int .i64 0, .int .i64 0, .slice none 0 0]) ?_ 5 _ rfl; (with_reducible repeat (first | refine blk_drewN ?_ _ | refine blk_drew ?_ | refine blk_alloc ?_ _)); refine blk_put (cs := #[.int .i64 t825, .int .i64 t826, .int .i64 t827, .int .i64 t828, .int .i64 0, .int .i64 0, .int .i64 0, .int .i64 0, .int .i64 0, .int .i64 0, .slice none 0 0]) ?_ 4 _ rfl; (with_reducible repeat (first | refine blk_drewN ?_ _ | refine blk_drew ?_ | refine blk_alloc ?_ _)); refine blk_put (cs := #[.int .i64 t825, .int .i64 t826, .int .i64 t827, .int .i64 0, .int .i64 0, .int .i64 0, .int .i64 0, .int .i64 0, .int .i64 0, .int .i64 0, .slice none 0 0]) ?_ 3 _ rfl; (with_reducible repeat (first | refine blk_drewN ?_ _ | refine blk_drew ?_ | refine blk_alloc ?_ _)); refine blk_put (cs := #[.int .i64 t825, .int .i64 t826, .int .i64 0, .int .i64 0, .int .i64 0, .int .i64 0, .int .i64 0, .int .i64 0, .int .i64 0, .int .i64 0, .slice none 0 0]) ?_ 2 _ rfl; (with_reducible repeat (first | refine blk_drewN ?_ _ | refine blk_drew ?_ | refine blk_alloc ?_ _)); refine blk_put (cs := #[.int .i64 t825, .int .i64 0, .int .i64 0, .int .i64 0, .int .i64 0, .int .i64 0, .int .i64 0, .int .i64 0, .int .i64 0, .int .i64 0, .slice none 0 0]) ?_ 1 _ rfl; (with_reducible repeat (first | refine blk_drewN ?_ _ | refine blk_drew ?_ | refine blk_alloc ?_ _)); refine blk_put (cs := #[.int .i64 0, .int .i64 0, .int .i64 0, .int .i64 0, .int .i64 0, .int .i64 0, .int .i64 0, .int .i64 0, .int .i64 0, .int .i64 0, .slice none 0 0]) ?_ 0 _ rfl; (with_reducible repeat (first | refine blk_drewN ?_ _ | refine blk_drew ?_ | refine blk_alloc ?_ _)); exact BK838.out) hb); have n4_ := Aside0.mk (below_step (hb2_ HB.out GE809.out GE838.out) hb); clear HO823; clear HO837; clear BK809; clear BK838; clear HB; have HO823 := n0_; have HO837 := n1_; have BK809 := n2_; have BK838 := n3_; have HB := n4_; clear n0_ n1_ n2_ n3_ n4_; (try clear hb); (try clear hb2); (try clear hk); (try clear hi)))
        have n0_ := Aside0.mk (Kd.R_drew HO823.out)
        have n1_ := Aside0.mk (Kd.R_drew HO837.out)
        have n2_ := Aside0.mk (blk_drew BK809.out)
        have n3_ := Aside0.mk (blk_drew BK838.out)
        have n4_ := Aside0.mk (below_drew1 HB.out)
        clear HO823
        clear HO837
        clear BK809
        clear BK838
        clear HB
        have HO823 := n0_
        have HO837 := n1_
        have BK809 := n2_
        have BK838 := n3_
        have HB := n4_
        clear n0_ n1_ n2_ n3_ n4_
        refine start_ (n := 5) (S := fun w' => w'.cell? ⟨gb838, 0, none⟩ = some (.int .i64 t825) ∧ w'.cell? ⟨gb838, 1, none⟩ = some (.int .i64 t826) ∧ w'.cell? ⟨gb838, 2, none⟩ = some (.int .i64 t827) ∧ w'.cell? ⟨gb838, 3, none⟩ = some (.int .i64 t828) ∧ w'.cell? ⟨gb838, 4, none⟩ = some (.int .i64 t829) ∧ w'.cell? ⟨gb838, 5, none⟩ = some (.int .i64 t830) ∧ w'.cell? ⟨gb838, 6, none⟩ = some (.int .i64 t831) ∧ w'.cell? ⟨gb838, 7, none⟩ = some (.int .i64 t832) ∧ w'.cell? ⟨gb838, 8, none⟩ = some (.int .i64 t833) ∧ w'.cell? ⟨gb838, 9, none⟩ = some (.int .i64 t834) ∧ w'.cell? ⟨gb838, 10, none⟩ = some (.slice Ao27 t835.length co27) ∧ w'.cell? ⟨gb809, 0, none⟩ = some (.int .i64 a0_0) ∧ w'.cell? ⟨gb809, 1, none⟩ = some (.int .i64 a0_1) ∧ w'.cell? ⟨gb809, 2, none⟩ = some (.int .i64 a0_2) ∧ w'.cell? ⟨gb809, 3, none⟩ = some (.int .i64 a0_3) ∧ w'.cell? ⟨gb809, 4, none⟩ = some (.int .i64 a0_4) ∧ w'.cell? ⟨gb809, 5, none⟩ = some (.int .i64 a0_5) ∧ w'.cell? ⟨gb809, 6, none⟩ = some (.int .i64 a0_6) ∧ w'.cell? ⟨gb809, 7, none⟩ = some (.int .i64 a0_7) ∧ w'.cell? ⟨gb809, 8, none⟩ = some (.int .i64 a0_8) ∧ w'.cell? ⟨gb809, 9, none⟩ = some (.int .i64 a0_9) ∧ w'.cell? ⟨gb809, 10, none⟩ = some (.slice A0_10 l0_10.length c0_10)) (ds := []) #[false, false, false, false, false] (by kernel_rfl) rfl rfl ⟨(blk_cell BK838.out 0).trans rfl, (blk_cell BK838.out 1).trans rfl, (blk_cell BK838.out 2).trans rfl, (blk_cell BK838.out 3).trans rfl, (blk_cell BK838.out 4).trans rfl, (blk_cell BK838.out 5).trans rfl, (blk_cell BK838.out 6).trans rfl, (blk_cell BK838.out 7).trans rfl, (blk_cell BK838.out 8).trans rfl, (blk_cell BK838.out 9).trans rfl, (blk_cell BK838.out 10).trans rfl, (blk_cell BK809.out 0).trans rfl, (blk_cell BK809.out 1).trans rfl, (blk_cell BK809.out 2).trans rfl, (blk_cell BK809.out 3).trans rfl, (blk_cell BK809.out 4).trans rfl, (blk_cell BK809.out 5).trans rfl, (blk_cell BK809.out 6).trans rfl, (blk_cell BK809.out 7).trans rfl, (blk_cell BK809.out 8).trans rfl, (blk_cell BK809.out 9).trans rfl, (blk_cell BK809.out 10).trans rfl⟩ (fun hHeld => ?_)
        generalize w28.drew = w29 at HO823 HO837 BK809 BK838 HB hHeld ⊢
        refine take_ (i := 0) (N := some 22) (v := ?_) (a' := ?_) #[true, false, false, false, false] rfl rfl (by kernel_rfl) (fun _ _ _ h => h) (Or.inl ⟨by rfl, ?_⟩) hHeld ?_ ?_
        rotate_left
        · rintro w' ⟨s0, s1, s2, s3, s4, s5, s6, s7, s8, s9, s10, s11, s12, s13, s14, s15, s16, s17, s18, s19, s20, s21⟩
          go_simp
          with_reducible rfl
        rotate_left
        · simp only [Act.put, List.setIfInBounds_toArray, List.set_cons_zero, List.set_cons_succ, i64_w, i32_w]
          rfl
        refine take_ (i := 1) (N := some 23) (v := ?_) (a' := ?_) #[true, true, false, false, false] rfl rfl (by kernel_rfl) (fun _ _ _ h => h) (Or.inl ⟨by rfl, ?_⟩) hHeld ?_ ?_
        rotate_left
        · rintro w' ⟨s0, s1, s2, s3, s4, s5, s6, s7, s8, s9, s10, s11, s12, s13, s14, s15, s16, s17, s18, s19, s20, s21⟩
          go_simp
          with_reducible rfl
        rotate_left
        · simp only [Act.put, List.setIfInBounds_toArray, List.set_cons_zero, List.set_cons_succ, i64_w, i32_w]
          rfl
        refine one_ (i := 2) (N := some 24) #[true, true, true, false, false] rfl rfl (by kernel_rfl) (by decide) (fun K hK => ?_)
        refine goes_ Try.func35 (by kernel_rfl) rfl #[.agg #[.int .i64 a0_0, .int .i64 a0_1, .int .i64 a0_2, .int .i64 a0_3, .int .i64 a0_4, .int .i64 a0_5, .int .i64 a0_6, .int .i64 a0_7, .int .i64 a0_8, .int .i64 a0_9, .slice A0_10 l0_10.length c0_10]] (by rfl) rfl rfl arr_ ?_
        with_reducible refine (laws_toCfg.calls k a0_0 a0_1 a0_2 a0_3 a0_4 a0_5 a0_6 a0_7 a0_8 a0_9 _ _ l0_10 t840 t841 t842 t843 t844 t845 t846 t847 t848 t849 t850 _ ?side1 ?side2 A12.out).mono ?_
        (case side1 => exact kc_ (Kd.C_below HR0_10.out HB.out))
        (case side2 => exact HC0_10.out)
        rintro e w30 ⟨v851, rfl, ho0, hb⟩
        refine ⟨_, rfl, ?_⟩
        have n0_ := Aside0.mk (Kd.R_elder' (by (with_reducible repeat (first | apply Kd.R_alloc | apply Kd.R_drewN | apply Kd.R_drew)); exact HO823.out) (Kd.R_base ho0) hb)
        have n1_ := Aside0.mk (Kd.R_elder' (by (with_reducible repeat (first | apply Kd.R_alloc | apply Kd.R_drewN | apply Kd.R_drew)); exact HO837.out) (Kd.R_base ho0) hb)
        have n2_ := Aside0.mk (Kd.R_lower (Kd.R_new' (Kd.R_new' ho0 (Kd.R_lt (by (with_reducible repeat (first | apply Kd.R_alloc | apply Kd.R_drewN | apply Kd.R_drew)); exact HO823.out))) (Kd.R_lt (by (with_reducible repeat (first | apply Kd.R_alloc | apply Kd.R_drewN | apply Kd.R_drew)); exact HO837.out))) (below_size (hb2_ HB.out GE809.out GE838.out)))
        have n3_ := Aside0.mk (bb_ BK809.out hb)
        have n4_ := Aside0.mk (bb_ BK838.out hb)
        have n5_ := Aside0.mk (below_step (hb2_ HB.out GE809.out GE838.out) hb)
        clear HO823
        clear HO837
        clear BK809
        clear BK838
        clear HB
        have HO823 := n0_
        have HO837 := n1_
        have HO852 := n2_
        have BK809 := n3_
        have BK838 := n4_
        have HB := n5_
        clear n0_ n1_ n2_ n3_ n4_ n5_
        (try clear hb)
        (try clear hb2)
        (try clear hk)
        (try clear hi)
        (try clear ho0)
        obtain ⟨Ao31, co31, eo31⟩ := Kd.R_slice HO852.out
        (first | subst eo31 | (injection eo31 with f1_ f2_ f3_; have f4_ := f1_.symm; have f5_ := f3_.symm; clear f1_ f2_ f3_; subst f4_; subst f5_))
        refine hK.out _ _ ⟨(blk_cell BK838.out 0).trans rfl, (blk_cell BK838.out 1).trans rfl, (blk_cell BK838.out 2).trans rfl, (blk_cell BK838.out 3).trans rfl, (blk_cell BK838.out 4).trans rfl, (blk_cell BK838.out 5).trans rfl, (blk_cell BK838.out 6).trans rfl, (blk_cell BK838.out 7).trans rfl, (blk_cell BK838.out 8).trans rfl, (blk_cell BK838.out 9).trans rfl, (blk_cell BK838.out 10).trans rfl, (blk_cell BK809.out 0).trans rfl, (blk_cell BK809.out 1).trans rfl, (blk_cell BK809.out 2).trans rfl, (blk_cell BK809.out 3).trans rfl, (blk_cell BK809.out 4).trans rfl, (blk_cell BK809.out 5).trans rfl, (blk_cell BK809.out 6).trans rfl, (blk_cell BK809.out 7).trans rfl, (blk_cell BK809.out 8).trans rfl, (blk_cell BK809.out 9).trans rfl, (blk_cell BK809.out 10).trans rfl⟩ (fun hHeld => ?_)
        clear hK K
        refine norm_ (a' := ?_) ?_ ?_
        rotate_left
        · show Act.put _ (some 24) _ = _
          simp only [Act.put, List.setIfInBounds_toArray, List.set_cons_zero, List.set_cons_succ, i64_w, i32_w]
          rfl
        refine one_ (i := 3) (N := some 25) #[true, true, true, true, false] rfl rfl (by kernel_rfl) (by decide) (fun K hK => ?_)
        refine goes_ Try.func37 (by kernel_rfl) rfl #[.agg #[.int .i64 t825, .int .i64 t826, .int .i64 t827, .int .i64 t828, .int .i64 t829, .int .i64 t830, .int .i64 t831, .int .i64 t832, .int .i64 t833, .int .i64 t834, .slice Ao27 t835.length co27], .agg #[.int .i64 t840, .int .i64 t841, .int .i64 t842, .int .i64 t843, .int .i64 t844, .int .i64 t845, .int .i64 t846, .int .i64 t847, .int .i64 t848, .int .i64 t849, .slice Ao31 t850.length co31]] (by rfl) rfl rfl arr_ ?_
        with_reducible refine (laws_eqCfg.calls k t825 t826 t827 t828 t829 t830 t831 t832 t833 t834 _ _ t835 t840 t841 t842 t843 t844 t845 t846 t847 t848 t849 _ _ t850 true _ ?side1 ?side2 ?side3 ?side4 A13.out).mono ?_
        (case side1 => repeat (first | exact (Kd.R_reads' HO837.out).2.2 | (with_reducible refine Kd.C_alloc ?_ _) | (with_reducible refine Kd.C_drewN ?_ _) | (with_reducible refine Kd.C_drew ?_)))
        (case side2 => exact (Kd.R_reads' HO837.out).2.1)
        (case side3 => repeat (first | exact (Kd.R_reads' HO852.out).2.2 | (with_reducible refine Kd.C_alloc ?_ _) | (with_reducible refine Kd.C_drewN ?_ _) | (with_reducible refine Kd.C_drew ?_)))
        (case side4 => exact (Kd.R_reads' HO852.out).2.1)
        rintro e w32 ⟨rfl, hb⟩
        refine ⟨_, rfl, ?_⟩
        have n0_ := Aside0.mk (Kd.R_below (by (with_reducible repeat (first | apply Kd.R_alloc | apply Kd.R_drewN | apply Kd.R_drew)); exact HO823.out) hb)
        have n1_ := Aside0.mk (Kd.R_below (by (with_reducible repeat (first | apply Kd.R_alloc | apply Kd.R_drewN | apply Kd.R_drew)); exact HO837.out) hb)
        have n2_ := Aside0.mk (Kd.R_below (by (with_reducible repeat (first | apply Kd.R_alloc | apply Kd.R_drewN | apply Kd.R_drew)); exact HO852.out) hb)
        have n3_ := Aside0.mk (bb_ BK809.out hb)
        have n4_ := Aside0.mk (bb_ BK838.out hb)
        have n5_ := Aside0.mk (below_step (hb2_ HB.out GE809.out GE838.out) hb)
        clear HO823
        clear HO837
        clear HO852
        clear BK809
        clear BK838
        clear HB
        have HO823 := n0_
        have HO837 := n1_
        have HO852 := n2_
        have BK809 := n3_
        have BK838 := n4_
        have HB := n5_
        clear n0_ n1_ n2_ n3_ n4_ n5_
        (try clear hb)
        (try clear hb2)
        (try clear hk)
        (try clear hi)
        refine hK.out _ _ ⟨(blk_cell BK838.out 0).trans rfl, (blk_cell BK838.out 1).trans rfl, (blk_cell BK838.out 2).trans rfl, (blk_cell BK838.out 3).trans rfl, (blk_cell BK838.out 4).trans rfl, (blk_cell BK838.out 5).trans rfl, (blk_cell BK838.out 6).trans rfl, (blk_cell BK838.out 7).trans rfl, (blk_cell BK838.out 8).trans rfl, (blk_cell BK838.out 9).trans rfl, (blk_cell BK838.out 10).trans rfl, (blk_cell BK809.out 0).trans rfl, (blk_cell BK809.out 1).trans rfl, (blk_cell BK809.out 2).trans rfl, (blk_cell BK809.out 3).trans rfl, (blk_cell BK809.out 4).trans rfl, (blk_cell BK809.out 5).trans rfl, (blk_cell BK809.out 6).trans rfl, (blk_cell BK809.out 7).trans rfl, (blk_cell BK809.out 8).trans rfl, (blk_cell BK809.out 9).trans rfl, (blk_cell BK809.out 10).trans rfl⟩ (fun hHeld => ?_)
        clear hK K
        refine norm_ (a' := ?_) ?_ ?_
        rotate_left
        · show Act.put _ (some 25) _ = _
          simp only [Act.put, List.setIfInBounds_toArray, List.set_cons_zero, List.set_cons_succ, i64_w, i32_w]
          rfl
        refine pure_ (i := 4) (N := some 26) (v := ?_) (a' := ?_) #[true, true, true, true, true] rfl rfl (by kernel_rfl) (fun _ _ _ h => h) (Or.inl ⟨by rfl, ?_⟩) ?_ ?_
        rotate_left
        · intro w'
          go_simp
          with_reducible rfl
        rotate_left
        · simp only [Act.put, List.setIfInBounds_toArray, List.set_cons_zero, List.set_cons_succ, i64_w, i32_w]
          rfl
        refine done_ (by kernel_rfl) ?_
        try go_wp2
        go_ret
        exact ⟨er_, hb2_ HB.out GE809.out GE838.out⟩
      · replace c14 := Bool.eq_false_iff.mpr c14
        subst c14
        have H1 : (some false) = some r := by rw [if_neg (show ¬ (false = true) by decide)] at H; exact H
        clear H
        have H := H1
        clear H1
        obtain rfl := Option.some.inj H
        exact absurd hr_ (by decide)
end Go.Proofs.Ytcbglmoeogbakaa.P
namespace Go.Proofs.Ytcbglmoeogbakaa.G
open Go.RowKit Go.Proofs.YtcbglmoeogbakaaW.PrintWords
theorem wrap_id {x : Int} (h1 : -9223372036854775808 ≤ x) (h2 : x ≤ 9223372036854775807) : wrap64 x = x := by unfold wrap64; omega
theorem wrap_succ {i n : Nat} (h : i < n) (hn : n ≤ 9223372036854775807) : wrap64 ((i : Int) + 1) = ((i + 1 : Nat) : Int) := by unfold wrap64; omega
theorem wrap_pred {i n : Nat} (h0 : 0 < i) (h : i < n) (hn : n ≤ 9223372036854775807) : wrap64 ((i : Int) - 1) = ((i - 1 : Nat) : Int) := by unfold wrap64; omega
theorem all_loop {n : Nat} {L : Nat → Int → Option Bool} {Q : Nat → Bool} {e : Bool}
    (hs : ∀ k i, i < n → L (k + 1) (i : Int) = if Q i = true then L k ((i + 1 : Nat) : Int) else some false)
    (he : ∀ k, L (k + 1) (n : Int) = some e) :
    ∀ d i k, i + d = n → d < k → L k (i : Int) = some ((List.range' i d).all Q && e) := by
  intro d
  induction d with
  | zero =>
    intro i k h hk
    obtain ⟨k, rfl⟩ : ∃ m, k = m + 1 := ⟨k - 1, by omega⟩
    obtain rfl : i = n := by omega
    rw [he]; simp
  | succ d ih =>
    intro i k h hk
    obtain ⟨k, rfl⟩ : ∃ m, k = m + 1 := ⟨k - 1, by omega⟩
    rw [hs k i (by omega)]
    rw [List.range'_succ]
    cases hq : Q i with
    | true => rw [if_pos rfl, ih (i + 1) k (by omega) (by omega)]; simp [hq]
    | false => simp [hq]
theorem all_loop0 {n : Nat} {L : Nat → Int → Option Bool} {Q : Nat → Bool} {e : Bool}
    (hs : ∀ k i, i < n → L (k + 1) (i : Int) = if Q i = true then L k ((i + 1 : Nat) : Int) else some false)
    (he : ∀ k, L (k + 1) (n : Int) = some e) (k : Nat) (hk : n < k) : L k 0 = some ((List.range n).all Q && e) := by
  have := all_loop hs he n 0 k (by omega) hk
  rw [List.range_eq_range']
  exact this
theorem all_loopT {n : Nat} {L : Nat → Int → Option Bool}
    (hs : ∀ k i, i < n → L (k + 1) (i : Int) = L k ((i + 1 : Nat) : Int)) (he : ∀ k, L (k + 1) (n : Int) = some true) (k : Nat) (hk : n < k) : L k 0 = some true := by
  have := all_loop0 (Q := fun _ => true) (e := true) (fun k i hi => by rw [if_pos rfl]; exact hs k i hi) he k hk
  rw [this]
  simp [List.all_eq_true]
theorem fold_loop {n : Nat} {σ ρ : Type} {L : Nat → σ → Int → Option ρ} {st : Nat → σ → σ} {fin : σ → ρ} {I : Nat → σ → Prop}
    (hs : ∀ k i s, i < n → I i s → L (k + 1) s (i : Int) = L k (st i s) ((i + 1 : Nat) : Int))
    (hI : ∀ i s, i < n → I i s → I (i + 1) (st i s))
    (he : ∀ k s, I n s → L (k + 1) s (n : Int) = some (fin s)) :
    ∀ d i s k, i + d = n → I i s → d < k → L k s (i : Int) = some (fin ((List.range' i d).foldl (fun s i => st i s) s)) := by
  intro d
  induction d with
  | zero =>
    intro i s k h hi hk
    obtain ⟨k, rfl⟩ : ∃ m, k = m + 1 := ⟨k - 1, by omega⟩
    obtain rfl : i = n := by omega
    rw [he k s hi]; simp
  | succ d ih =>
    intro i s k h hi hk
    obtain ⟨k, rfl⟩ : ∃ m, k = m + 1 := ⟨k - 1, by omega⟩
    rw [hs k i s (by omega) hi, ih (i + 1) (st i s) k (by omega) (hI i s (by omega) hi) (by omega), List.range'_succ]
    rfl
def found {ρ : Type} (Q : Nat → Bool) (r : Nat → ρ) (e : ρ) (is : List Nat) : ρ := match is.find? Q with
  | some j => r j
  | none => e
theorem find_loop {n : Nat} {ρ : Type} {L : Nat → Int → Option ρ} {Q : Nat → Bool} {r : Nat → ρ} {e : ρ} {c : Nat}
    (hs : ∀ k i, i < n → c ≤ k → L (k + 1) (i : Int) = if Q i = true then some (r i) else L k ((i + 1 : Nat) : Int))
    (he : ∀ k, L (k + 1) (n : Int) = some e) :
    ∀ d i k, i + d = n → d + c < k → L k (i : Int) = some (found Q r e (List.range' i d)) := by
  intro d
  induction d with
  | zero =>
    intro i k h hk
    obtain ⟨k, rfl⟩ : ∃ m, k = m + 1 := ⟨k - 1, by omega⟩
    obtain rfl : i = n := by omega
    rw [he]; rfl
  | succ d ih =>
    intro i k h hk
    obtain ⟨k, rfl⟩ : ∃ m, k = m + 1 := ⟨k - 1, by omega⟩
    rw [hs k i (by omega) (by omega), List.range'_succ]
    unfold found
    cases hq : Q i with
    | true => simp [List.find?, hq]
    | false =>
      rw [if_neg (by simp), ih (i + 1) k (by omega) (by omega)]
      simp [List.find?, hq, found]
theorem find_loop0 {n : Nat} {ρ : Type} {L : Nat → Int → Option ρ} {Q : Nat → Bool} {r : Nat → ρ} {e : ρ} {c : Nat}
    (hs : ∀ k i, i < n → c ≤ k → L (k + 1) (i : Int) = if Q i = true then some (r i) else L k ((i + 1 : Nat) : Int))
    (he : ∀ k, L (k + 1) (n : Int) = some e) (k : Nat) (hk : n + c < k) : L k 0 = some (found Q r e (List.range n)) := by
  have := find_loop hs he n 0 k (by omega) hk
  rw [List.range_eq_range']
  exact this
theorem found_none {ρ : Type} {Q : Nat → Bool} {r : Nat → ρ} {e : ρ} {n : Nat} (h : ∀ i, i < n → Q i = false) : found Q r e (List.range n) = e := by
  unfold found
  have : (List.range n).find? Q = none := by
    rw [List.find?_eq_none]; intro i hi; rw [h i (List.mem_range.1 hi)]; simp
  rw [this]
theorem found_some {ρ : Type} {Q : Nat → Bool} {r : Nat → ρ} {e : ρ} {n j : Nat} (hj : j < n) (hq : Q j = true) (h : ∀ i, i < j → Q i = false) : found Q r e (List.range n) = r j := by
  unfold found
  have : (List.range n).find? Q = some j := by
    rw [List.find?_range_eq_some]; exact ⟨hq, List.mem_range.2 hj, fun i hi => by rw [h i hi]; rfl⟩
  rw [this]
theorem first_of {Q : Nat → Bool} : ∀ n, (∃ j, j < n ∧ Q j = true ∧ ∀ i, i < j → Q i = false) ∨ ∀ i, i < n → Q i = false := by
  intro n
  induction n with
  | zero => right; intro i hi; omega
  | succ n ih =>
    rcases ih with ⟨j, h1, h2, h3⟩ | h
    · left; exact ⟨j, by omega, h2, h3⟩
    · cases hq : Q n with
      | true => left; exact ⟨n, by omega, hq, h⟩
      | false => right; intro i hi; rcases Nat.lt_or_ge i n with c | c
                 · exact h i c
                 · obtain rfl : i = n := by omega
                   exact hq
theorem track_loop {n : Nat} {σ ρ : Type} {L : Nat → σ → Int → Option ρ} {F : Nat → σ} {r : ρ} {c : Nat}
    (hs : ∀ k i, i < n → c ≤ k → L (k + 1) (F i) (i : Int) = L k (F (i + 1)) ((i + 1 : Nat) : Int))
    (he : ∀ k, c ≤ k → L (k + 1) (F n) (n : Int) = some r) :
    ∀ d i k, i + d = n → d + c < k → L k (F i) (i : Int) = some r := by
  intro d
  induction d with
  | zero =>
    intro i k h hk
    obtain ⟨k, rfl⟩ : ∃ m, k = m + 1 := ⟨k - 1, by omega⟩
    obtain rfl : i = n := by omega
    exact he k (by omega)
  | succ d ih =>
    intro i k h hk
    obtain ⟨k, rfl⟩ : ∃ m, k = m + 1 := ⟨k - 1, by omega⟩
    rw [hs k i (by omega) (by omega)]
    exact ih (i + 1) k (by omega) (by omega)
theorem track_loop0 {n : Nat} {σ ρ : Type} {L : Nat → σ → Int → Option ρ} {F : Nat → σ} {r : ρ} {c : Nat}
    (hs : ∀ k i, i < n → c ≤ k → L (k + 1) (F i) (i : Int) = L k (F (i + 1)) ((i + 1 : Nat) : Int))
    (he : ∀ k, c ≤ k → L (k + 1) (F n) (n : Int) = some r) (k : Nat) (hk : n + c < k) : L k (F 0) 0 = some r :=
  track_loop hs he n 0 k (by omega) hk
theorem inv_loop {n : Nat} {σ ρ : Type} {L : Nat → σ → Int → Option ρ} {I : Nat → σ → Prop} {R : ρ → Prop}
    (hs : ∀ k i s, i < n → I i s → (∃ s', L (k + 1) s (i : Int) = L k s' ((i + 1 : Nat) : Int) ∧ I (i + 1) s') ∨ ∃ r, L (k + 1) s (i : Int) = some r ∧ R r)
    (he : ∀ k s, I n s → ∃ r, L (k + 1) s (n : Int) = some r ∧ R r) :
    ∀ d i s k, i + d = n → I i s → d < k → ∃ r, L k s (i : Int) = some r ∧ R r := by
  intro d
  induction d with
  | zero =>
    intro i s k h hi hk
    obtain ⟨k, rfl⟩ : ∃ m, k = m + 1 := ⟨k - 1, by omega⟩
    obtain rfl : i = n := by omega
    exact he k s hi
  | succ d ih =>
    intro i s k h hi hk
    obtain ⟨k, rfl⟩ : ∃ m, k = m + 1 := ⟨k - 1, by omega⟩
    rcases hs k i s (by omega) hi with ⟨s', h1, h2⟩ | ⟨r, h1, h2⟩
    · rw [h1]; exact ih (i + 1) s' k (by omega) h2 (by omega)
    · exact ⟨r, h1, h2⟩
theorem to_loop {α β : Type} {l : List α} {c : α → β} {z : β} {L : Nat → List β → Int → Option (List β)}
    (hs : ∀ k acc i (hi : i < l.length), acc.length = l.length → L (k + 1) acc (i : Int) = L k (acc.set i (c l[i])) ((i + 1 : Nat) : Int))
    (he : ∀ k acc, acc.length = l.length → L (k + 1) acc (l.length : Int) = some acc) :
    ∀ d i k, i + d = l.length → d < k → L k ((l.take i).map c ++ List.replicate d z) (i : Int) = some (l.map c) := by
  intro d
  induction d with
  | zero =>
    intro i k h hk
    obtain ⟨k, rfl⟩ : ∃ m, k = m + 1 := ⟨k - 1, by omega⟩
    obtain rfl : i = l.length := by omega
    rw [he _ _ (by simp)]; simp
  | succ d ih =>
    intro i k h hk
    obtain ⟨k, rfl⟩ : ∃ m, k = m + 1 := ⟨k - 1, by omega⟩
    have hi : i < l.length := by omega
    rw [hs _ _ i hi (by simp; omega), ← ih (i + 1) k (by omega) (by omega)]
    congr 1
    have hl : ((l.take i).map c).length = i := by simp; omega
    rw [List.set_append, if_neg (by omega), hl, Nat.sub_self, List.replicate_succ, List.set_cons_zero, List.take_succ_eq_append_getElem hi, List.map_append, List.append_assoc]
    rfl
theorem to_loop0 {α β : Type} {l : List α} {c : α → β} {z : β} {L : Nat → List β → Int → Option (List β)}
    (hs : ∀ k acc i (hi : i < l.length), acc.length = l.length → L (k + 1) acc (i : Int) = L k (acc.set i (c l[i])) ((i + 1 : Nat) : Int))
    (he : ∀ k acc, acc.length = l.length → L (k + 1) acc (l.length : Int) = some acc) (k : Nat) (hk : l.length < k) : L k (List.replicate l.length z) 0 = some (l.map c) := by
  have := to_loop hs he l.length 0 k (by omega) hk (z := z)
  simpa using this
theorem all_true {n : Nat} {Q : Nat → Bool} (h : ∀ i, i < n → Q i = true) : (List.range n).all Q = true := by
  rw [List.all_eq_true]; intro i hi; exact h i (List.mem_range.1 hi)
theorem all_iff {n : Nat} {Q : Nat → Bool} : (List.range n).all Q = true ↔ ∀ i, i < n → Q i = true := by
  rw [List.all_eq_true]; exact ⟨fun h i hi => h i (List.mem_range.2 hi), fun h i hi => h i (List.mem_range.1 hi)⟩
end Go.Proofs.Ytcbglmoeogbakaa.G
namespace Go.Proofs.Ytcbglmoeogbakaa.C
open Go.RowKit Go.Proofs.Ytcbglmoeogbakaa.P Go.Proofs.Ytcbglmoeogbakaa.G
theorem l1In (a b c : Int) : spec_l1In.f a b c = some (decide (b ≤ a ∧ a ≤ c)) := by
  unfold spec_l1In.f; by_cases h : a ≥ b <;> simp [h] <;> omega
theorem in_ (a b c : Int) : impl_in.f a b c = some (decide (b ≤ a ∧ a ≤ c)) := by
  unfold impl_in.f; by_cases h : b ≤ a <;> simp [h]
theorem l2Time (a : Int) : spec_l2Time.f a = some (decide (0 ≤ a ∧ a ≤ 1000000000000)) := by
  unfold spec_l2Time.f; rw [l1In]; rfl
theorem isTime (a : Int) : impl_isTime.f a = some (decide (0 ≤ a ∧ a ≤ 1000000000000)) := by
  unfold impl_isTime.f; rw [in_]; rfl
theorem l4Node (a : Int) : spec_l4Node.f a = some (decide (0 ≤ a ∧ a ≤ 7)) := by
  unfold spec_l4Node.f; rw [l1In]; rfl
theorem isNode (a : Int) : impl_isNode.f a = some (decide (0 ≤ a ∧ a ≤ 7)) := by
  unfold impl_isNode.f; rw [in_]; rfl
def timeOk (x : Int) : Bool := decide (0 ≤ x ∧ x ≤ 1000000000000)
theorem timeOk_iff (x : Int) : timeOk x = true ↔ 0 ≤ x ∧ x ≤ 1000000000000 := by unfold timeOk; simp
abbrev Sl := S78
abbrev SlL := S109
def toSl (x : SlL) : Sl := ⟨x.f0, x.f1⟩
theorem rdSl (l : List Sl) (i : Nat) (h : i < l.length) : rd_T78 l (i : Int) = l[i] := by
  unfold rd_T78; simp [List.getD, h]
theorem rdSlL (l : List SlL) (i : Nat) (h : i < l.length) : rd_T109 l (i : Int) = l[i] := by
  unfold rd_T109; simp [List.getD, h]
theorem toSlotS (l : List SlL) (hl : l.length ≤ 1048576) (k : Nat) (hk : l.length < k) : laws_toSlotS.f k l = some (l.map toSl) := by
  unfold laws_toSlotS.f
  rw [if_pos (by omega), if_pos (by simp; omega)]
  simp only [Int.toNat_natCast]
  refine to_loop0 (L := fun k acc i => laws_toSlotS.l0 k l acc i) (fun k acc i hi ha => ?_) (fun k acc ha => ?_) k hk
  · simp only [laws_toSlotS.l0, laws_toSlot.f, Option.bind_some]
    rw [if_pos (by omega), if_pos (by omega), if_pos (by omega), wrap_succ hi (by omega), rdSlL l i hi]
    rfl
  · simp only [laws_toSlotS.l0]
    rw [if_neg (by omega)]
theorem toPlan (a b : Int) (l : List SlL) (hl : l.length ≤ 1048576) (k : Nat) (hk : l.length < k) : laws_toPlan.f k a b l = some (a, b, l.map toSl) := by
  unfold laws_toPlan.f; rw [toSlotS l hl k hk]; rfl
theorem eqSlotS (l : List Sl) (hl : l.length ≤ 1048576) (k : Nat) (hk : l.length < k) : laws_eqSlotS.f k l l = some true := by
  unfold laws_eqSlotS.f
  rw [if_pos rfl]
  refine all_loopT (n := l.length) (L := fun k i => laws_eqSlotS.l0 k l l i) (fun k i hi => ?_) (fun k => ?_) k hk
  · simp only [laws_eqSlotS.l0, laws_eqSlot.f]
    rw [if_pos (by omega), if_pos (by omega), if_pos (by omega), wrap_succ hi (by omega)]
    simp
  · simp only [laws_eqSlotS.l0]
    rw [if_neg (by omega)]
theorem eqPlan (a b : Int) (l : List Sl) (hl : l.length ≤ 1048576) (k : Nat) (hk : l.length < k) : laws_eqPlan.f k a b l a b l = some true := by
  unfold laws_eqPlan.f; rw [eqSlotS l hl k hk]; simp
theorem szPlan (a b : Int) (l : List SlL) (hl : l.length ≤ 9223372036854775807) (x : Int) (hx : 0 ≤ x ∧ x ≤ 1048576) :
    (laws_szPlan.f a b l x = some (-1)) ∨ (laws_szPlan.f a b l x = some (x - l.length) ∧ (l.length : Int) ≤ x) := by
  unfold laws_szPlan.f laws_szSlotS.f
  have hw : wrap64 (x - (l.length : Int)) = x - l.length := wrap_id (by omega) (by omega)
  rw [hw]
  by_cases h : x - (l.length : Int) < 0
  · left; rw [if_pos h]; simp
  · right; rw [if_neg h]; simp only [Option.bind_some]; rw [if_neg h]; exact ⟨rfl, by omega⟩
def slotOk (x : Sl) : Bool := decide (0 ≤ x.f0 ∧ x.f0 ≤ 7) && decide (1 ≤ x.f1 ∧ x.f1 ≤ 1000000)
def slotsOk (l : List Sl) : Bool := (List.range l.length).all fun i => match l[i]? with | some x => slotOk x | none => true
def planOk (st gap : Int) (l : List Sl) : Bool := decide (0 ≤ st ∧ st ≤ 1000000000000) && decide (0 ≤ gap ∧ gap ≤ 100000) && decide ((1 : Int) ≤ l.length ∧ (l.length : Int) ≤ 12) && slotsOk l
theorem slotsOk_get {l : List Sl} (h : slotsOk l = true) (i : Nat) (hi : i < l.length) : 0 ≤ l[i].f0 ∧ l[i].f0 ≤ 7 ∧ 1 ≤ l[i].f1 ∧ l[i].f1 ≤ 1000000 := by
  unfold slotsOk at h; rw [all_iff] at h
  have := h i hi
  rw [List.getElem?_eq_getElem hi] at this
  simp [slotOk] at this; omega
theorem planOk_iff (st gap : Int) (l : List Sl) : planOk st gap l = true ↔ (0 ≤ st ∧ st ≤ 1000000000000) ∧ (0 ≤ gap ∧ gap ≤ 100000) ∧ (1 ≤ l.length ∧ l.length ≤ 12) ∧ slotsOk l = true := by
  unfold planOk; simp only [Bool.and_eq_true, decide_eq_true_eq]; constructor
  · rintro ⟨⟨⟨h1, h2⟩, h3⟩, h4⟩; exact ⟨h1, h2, by omega, h4⟩
  · rintro ⟨h1, h2, h3, h4⟩; exact ⟨⟨⟨h1, h2⟩, by omega⟩, h4⟩
theorem iIndexSlot (l : List Sl) (hl : l.length ≤ 1048576) (k : Nat) (hk : l.length < k) : ∃ r, slices_IndexFunc_Slot.f k l = some r ∧ decide (r ≥ 0) = !slotsOk l := by
  have h1 : ∀ x : Sl, impl_PlanOk_1.f x.f0 x.f1 = some (!slotOk x) := by
    intro x; unfold impl_PlanOk_1.f slotOk; simp only [isNode, in_, Option.bind_some]
    cases decide (0 ≤ x.f0 ∧ x.f0 ≤ 7) <;> simp
  unfold slices_IndexFunc_Slot.f
  have := find_loop0 (n := l.length) (L := fun k i => slices_IndexFunc_Slot.l0 k l (l.length : Int) i) (Q := fun i => match l[i]? with | some x => !slotOk x | none => false) (r := fun i => (i : Int)) (e := -1) (c := 0) (fun k i hi _ => ?_) (fun k => ?_) k (by omega)
  · refine ⟨_, this, ?_⟩
    rcases first_of (Q := fun i => match l[i]? with | some x => !slotOk x | none => false) l.length with ⟨j, h2, h3, h4⟩ | h2
    · rw [found_some h2 h3 h4]
      have : slotsOk l = false := by
        cases hs : slotsOk l with
        | false => rfl
        | true =>
          unfold slotsOk at hs; rw [all_iff] at hs
          have := hs j h2
          rw [List.getElem?_eq_getElem h2] at this h3
          simp at this h3; rw [this] at h3; cases h3
      rw [this]; simp
    · rw [found_none h2]
      have : slotsOk l = true := by
        unfold slotsOk; rw [all_iff]; intro i hi
        have := h2 i hi
        rw [List.getElem?_eq_getElem hi] at this ⊢
        simpa using this
      rw [this]; simp
  · simp only [slices_IndexFunc_Slot.l0]
    rw [if_pos (by omega), if_pos (by omega), if_pos (by omega), wrap_succ hi (by omega), rdSl l i hi, h1, List.getElem?_eq_getElem hi]
    rfl
  · simp only [slices_IndexFunc_Slot.l0]
    rw [if_neg (by omega)]
theorem iPlanOk (st gap : Int) (l : List Sl) (hl : l.length ≤ 1048576) (k : Nat) (hk : l.length < k) : impl_PlanOk.f k st gap l = some (planOk st gap l) := by
  obtain ⟨r, h1, h2⟩ := iIndexSlot l hl k hk
  unfold impl_PlanOk.f planOk slices_ContainsFunc_Slot.f; simp only [isTime, in_, h1, h2, Option.bind_some]
  cases decide (0 ≤ st ∧ st ≤ 1000000000000) <;> cases decide (0 ≤ gap ∧ gap ≤ 100000) <;> cases decide ((1 : Int) ≤ l.length ∧ (l.length : Int) ≤ 12) <;> simp
theorem sPlanOk (st gap : Int) (l : List Sl) (hl : l.length ≤ 1048576) (k : Nat) (hk : l.length + 1 < k) : spec_PlanOk.f k st gap l = some (planOk st gap l) := by
  obtain ⟨k, rfl⟩ : ∃ j, k = j + 1 := ⟨k - 1, by omega⟩
  have hL : spec_PlanOk.l0 k 0 st gap l = some (slotsOk l) := by
    unfold slotsOk
    have := all_loop0 (n := l.length) (L := fun k i => spec_PlanOk.l0 k i st gap l) (Q := fun i => match l[i]? with | some x => slotOk x | none => true) (e := true) (fun k i hi => ?_) (fun k => ?_) k (by omega)
    · simpa using this
    · simp only [spec_PlanOk.l0, l4Node, l1In, Option.bind_some]
      rw [if_pos (by omega), if_pos (by omega), wrap_succ hi (by omega), rdSl l i hi, List.getElem?_eq_getElem hi]
      simp only [slotOk]
      by_cases h1 : (0 ≤ l[i].f0 ∧ l[i].f0 ≤ 7) <;> by_cases h2 : (1 ≤ l[i].f1 ∧ l[i].f1 ≤ 1000000) <;> simp [h1, h2]
    · simp only [spec_PlanOk.l0]
      rw [if_neg (by omega)]
  unfold spec_PlanOk.f planOk; simp only [l2Time, l1In, Option.bind_some, spec_PlanOk.j0, hL]
  cases decide (0 ≤ st ∧ st ≤ 1000000000000) <;> cases decide (0 ≤ gap ∧ gap ≤ 100000) <;> cases decide ((1 : Int) ≤ l.length ∧ (l.length : Int) ≤ 12) <;> simp
def driftOk (n d : Int) : Bool := decide (1 ≤ d ∧ d ≤ 1000000) && decide (0 ≤ n ∧ n ≤ d) && decide (2 * n ≤ d)
theorem driftOk_iff (n d : Int) : driftOk n d = true ↔ 1 ≤ d ∧ d ≤ 1000000 ∧ 0 ≤ n ∧ 2 * n ≤ d := by
  unfold driftOk; simp; omega
theorem sDriftOk (n d : Int) : spec_DriftOk.f n d = some (driftOk n d) := by
  unfold spec_DriftOk.f driftOk; simp only [l1In, Option.bind_some]
  by_cases h1 : (1 ≤ d ∧ d ≤ 1000000)
  · by_cases h2 : (0 ≤ n ∧ n ≤ d)
    · rw [wrap_id (by omega) (by omega)]; simp [h1, h2]
    · simp [h1, h2]
  · simp [h1]
theorem iDriftOk (n d : Int) : impl_DriftOk.f n d = some (driftOk n d) := by
  unfold impl_DriftOk.f driftOk; simp only [in_, Option.bind_some]
  by_cases h1 : (1 ≤ d ∧ d ≤ 1000000)
  · by_cases h2 : (0 ≤ n ∧ n ≤ d)
    · rw [wrap_id (by omega) (by omega)]; simp [h1, h2]
    · simp [h1, h2]
  · simp [h1]
theorem ite_and (b c : Bool) : (if b = true then some c else some false) = some (b && c) := by cases b <;> rfl
def cfgOk (n d a b c e f g st gap : Int) (l : List Sl) : Bool := driftOk n d && (planOk st gap l && (decide (0 ≤ a ∧ a ≤ 8) && (decide (1 ≤ b ∧ b ≤ 8) && (timeOk c && (timeOk e && (timeOk f && decide (1 ≤ g ∧ g ≤ 1000000)))))))
theorem sCfgOk (n d a b c e f g st gap : Int) (l : List Sl) (hl : l.length ≤ 1048576) (k : Nat) (hk : 1050000 ≤ k) : spec_CfgOk.f k n d a b c e f g st gap l = some (cfgOk n d a b c e f g st gap l) := by
  unfold spec_CfgOk.f; simp only [sDriftOk, l1In, l2Time, sPlanOk st gap l hl k (by omega), Option.bind_some, ite_and]; rfl
theorem iCfgOk (n d a b c e f g st gap : Int) (l : List Sl) (hl : l.length ≤ 1048576) (k : Nat) (hk : 1050000 ≤ k) : impl_CfgOk.f k n d a b c e f g st gap l = some (cfgOk n d a b c e f g st gap l) := by
  unfold impl_CfgOk.f cfgOk timeOk; simp only [iDriftOk, in_, isTime, iPlanOk st gap l hl k (by omega), Option.bind_some, ite_and]; congr 1; ac_rfl
theorem szCfg (n d a b c e f g st gap : Int) (l : List SlL) (hl : l.length ≤ 9223372036854775807) (x : Int) (hx : 0 ≤ x ∧ x ≤ 1048576) :
    (laws_szCfg.f n d a b c e f g st gap l x = some (-1)) ∨ (laws_szCfg.f n d a b c e f g st gap l x = some (x - l.length) ∧ (l.length : Int) ≤ x) := by
  unfold laws_szCfg.f
  rcases szPlan st gap l hl x hx with h | ⟨h, hs⟩
  · left; rw [h]; simp
  · right; rw [h]; simp only [Option.bind_some]; rw [if_neg (by omega)]; exact ⟨rfl, hs⟩
theorem toCfg (n d a b c e f g st gap : Int) (l : List SlL) (hl : l.length ≤ 1048576) (k : Nat) (hk : l.length < k) : laws_toCfg.f k n d a b c e f g st gap l = some (n, d, a, b, c, e, f, g, st, gap, l.map toSl) := by
  unfold laws_toCfg.f laws_toDrift.f; rw [toPlan st gap l hl k hk]; rfl
theorem eqCfg (n d a b c e f g st gap : Int) (l : List Sl) (hl : l.length ≤ 1048576) (k : Nat) (hk : l.length < k) : laws_eqCfg.f k n d a b c e f g st gap l n d a b c e f g st gap l = some true := by
  unfold laws_eqCfg.f laws_eqDrift.f; rw [eqPlan st gap l hl k hk]; simp
end Go.Proofs.Ytcbglmoeogbakaa.C
namespace Go.Proofs.Ytcbglmoeogbakaa.V
open Go.RowKit Go.Proofs.Ytcbglmoeogbakaa.P Go.Proofs.Ytcbglmoeogbakaa.C Go.Proofs.Ytcbglmoeogbakaa.G
theorem FnExactCfgOk : ∀ (a0_0 : Int) (a0_1 : Int) (a0_2 : Int) (a0_3 : Int) (a0_4 : Int) (a0_5 : Int) (a0_6 : Int) (a0_7 : Int) (a0_8 : Int) (a0_9 : Int) (l0_10 : List (S109)), (Lit.int .i64 a0_0).wf = true → (Lit.int .i64 a0_1).wf = true → (Lit.int .i64 a0_2).wf = true → (Lit.int .i64 a0_3).wf = true → (Lit.int .i64 a0_4).wf = true → (Lit.int .i64 a0_5).wf = true → (Lit.int .i64 a0_6).wf = true → (Lit.int .i64 a0_7).wf = true → (Lit.int .i64 a0_8).wf = true → (Lit.int .i64 a0_9).wf = true → (l0_10.length ≤ 9223372036854775807 ∧ ∀ y ∈ l0_10, ((Lit.int .i64 y.f0).wf = true ∧ (Lit.int .i64 y.f1).wf = true)) → ∃ k, laws_FnExactCfgOk.f k a0_0 a0_1 a0_2 a0_3 a0_4 a0_5 a0_6 a0_7 a0_8 a0_9 l0_10 = some true := by
  intro n d a b c e f g st gap l _ _ _ _ _ _ _ _ _ _ ⟨hl, _⟩
  refine ⟨2000000, ?_⟩
  unfold laws_FnExactCfgOk.f
  rcases szCfg n d a b c e f g st gap l hl 1048576 (by omega) with h | ⟨h, hs⟩
  · rw [h]; simp
  rw [h]
  simp only [Option.bind_some]
  rw [if_neg (by omega)]
  have hm : (l.map toSl).length = l.length := by simp
  rw [toCfg n d a b c e f g st gap l (by omega) _ (by omega)]
  simp only [Option.bind_some]
  rw [sCfgOk _ _ _ _ _ _ _ _ _ _ _ (by omega) _ (by omega), iCfgOk _ _ _ _ _ _ _ _ _ _ _ (by omega) _ (by omega), eqCfg _ _ _ _ _ _ _ _ _ _ _ (by omega) _ (by omega)]
  simp
end Go.Proofs.Ytcbglmoeogbakaa.V
namespace Go.Proofs.Ytcbglmoeogbakaa.Args
open Go.ChangeShapes Go.WideShapes Go.Deep Go.Proofs.YtcbglmoeogbakaaW.PrintWords
theorem trod_field {H : Type} {enc : TypeId × Value → H} {P : Program} {w : World} {base : Nat} {spare : Nat → Bool} {held : Bool} {fuel : Nat} {t : TypeId} {cs : List Value} {x : DataW H × List MemPlace} {fs : Array Field}
    (ht : P.underlying t = some (.struct fs)) (h : DataW.trod enc P w base spare held fuel t cs = some x) :
    cs.length = P.cellsOf t ∧ ∀ (i : Nat) (f : Field), fs[i]? = some f → ∃ n y, DataW.trod enc P w base spare held n f.type ((cs.drop f.offset).take (P.cellsOf f.type)) = some y := by
  obtain ⟨xs, n, rfl, _, hl, hx, hf⟩ := DataW.trod_struct ht h
  refine ⟨hl, fun i f hi => ⟨n, ?_⟩⟩
  have hi2 : i < fs.size := by
    rcases Nat.lt_or_ge i fs.size with h' | h'
    · exact h'
    · rw [Array.getElem?_eq_none h'] at hi; cases hi
  obtain ⟨y, hy⟩ : ∃ y, xs[i]? = some y := ⟨_, List.getElem?_eq_getElem (by omega)⟩
  exact ⟨y, by rw [hf i f hi, hy]⟩
theorem trod_at {H : Type} {enc : TypeId × Value → H} {P : Program} {w : World} {base : Nat} {spare : Nat → Bool} {held : Bool} {fuel : Nat} {t : TypeId} {cs : List Value} {x : DataW H × List MemPlace} {fs : Array Field}
    (ht : P.underlying t = some (.struct fs)) (h : DataW.trod enc P w base spare held fuel t cs = some x) (i : Nat) (ft : TypeId) (off sz : Nat) (cs' : List Value)
    (hf : ∃ f, fs[i]? = some f ∧ f.type = ft ∧ f.offset = off) (hw : P.cellsOf ft = sz) (hc : (cs.drop off).take sz = cs') : ∃ n y, DataW.trod enc P w base spare held n ft cs' = some y := by
  obtain ⟨f, h1, rfl, rfl⟩ := hf
  subst hw hc
  exact (trod_field ht h).2 i f h1
def Opens (P : Program) (t : TypeId) {α : Type} (d : Kd α) (B : α → Prop) : Prop :=
  ∀ {H : Type} {enc : TypeId × Value → H} {w : World} {base : Nat} {spare : Nat → Bool} {held : Bool} {fuel : Nat} {cs : List Value} {x : DataW H × List MemPlace},
    DataW.trod enc P w base spare held fuel t cs = some x → ∃ a, d.K w a cs ∧ B a
theorem open_row {H : Type} {enc : TypeId × Value → H} {P : Program} {w : World} {base : Nat} {spare : Nat → Bool} {held : Bool} {fuel : Nat} {t e : TypeId} {c : Value} {x : DataW H × List MemPlace} {α : Type} {d : Kd α} {B : α → Prop} (z : α)
    (ht : P.underlying t = some (.slice e)) (hsz : P.cellsOf e = d.sz) (he : Opens P e d B) (h : DataW.trod enc P w base spare held fuel t [c] = some x) :
    ∃ A cap l, c = .slice A l.length cap ∧ Kd.C d w A l.length l ∧ l.length ≤ cap ∧ l.length ≤ 9223372036854775807 ∧ ∀ y ∈ l, B y := by
  haveI : Inhabited α := ⟨z⟩
  rcases open_slice ht h with ⟨hc, _⟩ | ⟨a, len, cap, m, n, D, Pl, hc, _, hl, hm, hmm, _, hx⟩
  · obtain rfl := List.head_eq_of_cons_eq hc
    exact ⟨none, 0, [], rfl, Kd.C_nil _ _, Nat.le_refl _, by simp, fun y hy => by cases hy⟩
  · obtain rfl := List.head_eq_of_cons_eq hc
    have hlm : len ≤ m := by rw [hmm]; split <;> omega
    obtain ⟨f, hf⟩ := choose_lt (α := α) (n := len) (p := fun i y => (∃ c', c'.length = d.sz ∧ d.K w y c' ∧ ∀ k u, c'[k]? = some u → w.cell? (a.add (i * d.sz + k)) = some u) ∧ B y) (fun i hi => by
      obtain ⟨cs', h1, h2⟩ := hx i (by omega)
      obtain ⟨y, hk, hb⟩ := he h2
      refine ⟨y, ⟨cs', d.K_len hk, hk, fun k u hu => ?_⟩, hb⟩
      obtain ⟨_, hlen, hcell⟩ := World.cells?_some h1
      have hk2 : k < cs'.length := (List.getElem?_eq_some_iff.1 hu).1
      have := hcell k (by omega)
      rw [hsz, Addr.add_add] at this
      rw [this, hu])
    have hmax : len ≤ 9223372036854775807 := by unfold maxLen at hm; omega
    refine ⟨some a, cap, (List.range len).map f, by simp, ⟨by simp, by simpa using hmax, fun _ => ⟨a, rfl, fun j p hj => ?_⟩⟩, by simpa using hl, by simpa using hmax, fun y hy => ?_⟩
    · have hj2 : j < len := by simpa using (List.getElem?_eq_some_iff.1 hj).1
      rw [List.getElem?_map, List.getElem?_range hj2] at hj
      obtain rfl := Option.some.inj hj
      exact (hf j hj2).1
    · obtain ⟨j, hj, rfl⟩ := List.mem_map.1 hy
      exact (hf j (List.mem_range.1 hj)).2
theorem opens_int {P : Program} {t : TypeId} {k : IntKind} (ht : P.underlying t = some (.int k)) : Opens P t (Kd.int k) (fun x => (Lit.int k x).wf = true) := by
  intro H enc w base spare held fuel cs x h
  obtain ⟨n, rfl, _, hw⟩ := DataW.trod_int ht h
  exact ⟨n, rfl, hw⟩
theorem opens_bool {P : Program} {t : TypeId} (ht : P.underlying t = some .bool) : Opens P t Kd.bool (fun _ => True) := by
  intro H enc w base spare held fuel cs x h
  obtain ⟨n, rfl, _⟩ := DataW.trod_bool ht h
  exact ⟨n, rfl, trivial⟩
theorem opens_string {P : Program} {t : TypeId} (ht : P.underlying t = some .string) : Opens P t Kd.string (fun s => s.size ≤ 9223372036854775807) := by
  intro H enc w base spare held fuel cs x h
  obtain ⟨s, rfl, _, hs⟩ := DataW.trod_string ht h
  exact ⟨s, rfl, by unfold maxLen at hs; exact hs⟩
theorem opens_slice {P : Program} {t e : TypeId} {α : Type} {d : Kd α} {B : α → Prop} (z : α) (ht : P.underlying t = some (.slice e)) (hsz : P.cellsOf e = d.sz) (hc : P.cellsOf t = 1) (he : Opens P e d B) :
    Opens P t (Kd.slice e d) (fun l => l.length ≤ 9223372036854775807 ∧ ∀ y ∈ l, B y) := by
  intro H enc w base spare held fuel cs x h
  have h1 : ∃ c, cs = [c] := by
    rcases open_slice ht h with ⟨hc, _⟩ | ⟨a, len, cap, m, n, D, Pl, hc, _⟩
    · exact ⟨_, hc⟩
    · exact ⟨_, hc⟩
  obtain ⟨c, rfl⟩ := h1
  obtain ⟨A, cap, l, rfl, h1, h2, h3, h4⟩ := open_row z ht hsz he h
  exact ⟨l, ⟨A, cap, rfl, h2, h1⟩, h3, h4⟩
end Go.Proofs.Ytcbglmoeogbakaa.Args
