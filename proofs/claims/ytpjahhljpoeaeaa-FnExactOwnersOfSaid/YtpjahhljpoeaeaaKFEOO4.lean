/- Texts of the seat's proofs, part 4: functions of the program told as plain functions, with their contracts, and what is shown of them. No condition. -/
import Derived.Test.YtpjahhljpoeaeaaUKFEOO
import Derived.Test.YtpjahhljpoeaeaaKFEOO1
import Derived.Test.YtpjahhljpoeaeaaKFEOO3
import Derived.Test.YtpjahhljpoeaeaaKFEOO2
set_option linter.unusedVariables false
set_option linter.unusedSimpArgs false
namespace Go.Proofs.Ytpjahhljpoeaeaa.P
open Go.RowKit Go.Proofs.YtpjahhljpoeaeaaW.PrintWords Go.Proofs.YtpjahhljpoeaeaaW.PrintLast Go.Proofs.YtpjahhljpoeaeaaW.PrintMore
attribute [local go_sem] max2_int min2_int max_two min_two max_three min_three max_four min_four
set_option linter.unusedVariables false
set_option linter.unusedSimpArgs false
def laws_FnExactOwnersOf.j0 : Nat → List Int → List Int → Bool → Int → Int → List (S113) → Option (Bool)
  | 0, _, _, _, _, _, _ => none
  | k + 1, x4, x6, x42, x1023000, x1023001, x1023002 => if x42 = true then (some false) else ((laws_markIntS.f k x6 1).bind fun bt1051 => ((laws_heldIntS.f k bt1051.2 1).bind fun t1053 => (if t1053 < 0 then (some false) else (if t1053 = bt1051.1 then ((laws_toPlan.f k x1023000 x1023001 x1023002).bind fun bt1054 => ((impl_OwnersOf.f k bt1054.1 bt1054.2.1 bt1054.2.2).bind fun t1059 => ((laws_eqIntS.f k t1059 x4).bind fun t1062 => (if t1062 = true then ((laws_heldIntS.f k bt1051.2 1).bind fun t1063 => (if t1063 < 0 then (some false) else (if t1063 = bt1051.1 then (some true) else (some false)))) else (some false))))) else (some false)))))
def laws_FnExactOwnersOf.f (k : Nat) (a0_0 : Int) (a0_1 : Int) (l0_2 : List (S113)) : Option (Bool) := (laws_szPlan.f a0_0 a0_1 l0_2 1048576).bind fun t1023 => (if t1023 < 0 then (some true) else ((laws_toPlan.f k a0_0 a0_1 l0_2).bind fun bt1024 => ((spec_OwnersOf.f k bt1024.1 bt1024.2.1 bt1024.2.2).bind fun t1029 => ((laws_toPlan.f k a0_0 a0_1 l0_2).bind fun bt1032 => ((impl_OwnersOf.f k bt1032.1 bt1032.2.1 bt1032.2.2).bind fun t1038 => ((laws_eqIntS.f k t1038 t1029).bind fun t1041 => (if t1041 = true then ((laws_toPlan.f k a0_0 a0_1 l0_2).bind fun bt1042 => ((laws_eqPlan.f k bt1032.1 bt1032.2.1 bt1032.2.2 bt1042.1 bt1042.2.1 bt1042.2.2).bind fun t1047 => (if t1047 = true then ((laws_markPlan.f k bt1032.1 bt1032.2.1 bt1032.2.2 1).bind fun bt1048 => (if bt1048.1 < 0 then (laws_FnExactOwnersOf.j0 k t1029 t1038 true a0_0 a0_1 l0_2) else ((laws_eqIntS.f k t1038 t1029).bind fun t1050 => (laws_FnExactOwnersOf.j0 k t1029 t1038 (!t1050) a0_0 a0_1 l0_2)))) else (some false)))) else (some false))))))))
set_option maxHeartbeats 8000000 in
set_option maxRecDepth 100000 in
theorem laws_FnExactOwnersOf.calls (k : Nat) (a0_0 : Int) (a0_1 : Int) (A0_2 : Option Addr) (c0_2 : Nat) (l0_2 : List (S113)) (r : Bool) (w : World) (hr0_2 : Kd.C k113 w A0_2 l0_2.length l0_2) (hc0_2 : l0_2.length ≤ c0_2) (hr_ : r = true) (h : laws_FnExactOwnersOf.f k a0_0 a0_1 l0_2 = some r) :
    Calls Try.prog 6 #[.agg #[.int .i64 a0_0, .int .i64 a0_1, .slice A0_2 l0_2.length c0_2]] w fun e w' => e = .returned (.bool r) ∧ Below w.heap.size w w' := by
  have hu25 := Try.underlying25
  have hu39 := Try.underlying39
  have HR0_2 := Aside0.mk hr0_2
  have HC0_2 := Aside0.mk hc0_2
  clear hr0_2 hc0_2
  have HB := Aside0.mk (Below.refl w.heap.size w)
  have H : ((laws_szPlan.f a0_0 a0_1 l0_2 1048576).bind fun t1023 => (if t1023 < 0 then (some true) else ((laws_toPlan.f k a0_0 a0_1 l0_2).bind fun bt1024 => ((spec_OwnersOf.f k bt1024.1 bt1024.2.1 bt1024.2.2).bind fun t1029 => ((laws_toPlan.f k a0_0 a0_1 l0_2).bind fun bt1032 => ((impl_OwnersOf.f k bt1032.1 bt1032.2.1 bt1032.2.2).bind fun t1038 => ((laws_eqIntS.f k t1038 t1029).bind fun t1041 => (if t1041 = true then ((laws_toPlan.f k a0_0 a0_1 l0_2).bind fun bt1042 => ((laws_eqPlan.f k bt1032.1 bt1032.2.1 bt1032.2.2 bt1042.1 bt1042.2.1 bt1042.2.2).bind fun t1047 => (if t1047 = true then ((laws_markPlan.f k bt1032.1 bt1032.2.1 bt1032.2.2 1).bind fun bt1048 => (if bt1048.1 < 0 then (laws_FnExactOwnersOf.j0 k t1029 t1038 true a0_0 a0_1 l0_2) else ((laws_eqIntS.f k t1038 t1029).bind fun t1050 => (laws_FnExactOwnersOf.j0 k t1029 t1038 (!t1050) a0_0 a0_1 l0_2)))) else (some false)))) else (some false))))))))) = some r := h
  clear h
  replace H := Option.bind_eq_some_iff.mp H
  obtain ⟨t1023, A20, H⟩ := H
  replace H : (if t1023 < 0 then (some true) else ((laws_toPlan.f k a0_0 a0_1 l0_2).bind fun bt1024 => ((spec_OwnersOf.f k bt1024.1 bt1024.2.1 bt1024.2.2).bind fun t1029 => ((laws_toPlan.f k a0_0 a0_1 l0_2).bind fun bt1032 => ((impl_OwnersOf.f k bt1032.1 bt1032.2.1 bt1032.2.2).bind fun t1038 => ((laws_eqIntS.f k t1038 t1029).bind fun t1041 => (if t1041 = true then ((laws_toPlan.f k a0_0 a0_1 l0_2).bind fun bt1042 => ((laws_eqPlan.f k bt1032.1 bt1032.2.1 bt1032.2.2 bt1042.1 bt1042.2.1 bt1042.2.2).bind fun t1047 => (if t1047 = true then ((laws_markPlan.f k bt1032.1 bt1032.2.1 bt1032.2.2 1).bind fun bt1048 => (if bt1048.1 < 0 then (laws_FnExactOwnersOf.j0 k t1029 t1038 true a0_0 a0_1 l0_2) else ((laws_eqIntS.f k t1038 t1029).bind fun t1050 => (laws_FnExactOwnersOf.j0 k t1029 t1038 (!t1050) a0_0 a0_1 l0_2)))) else (some false)))) else (some false)))))))) = some r := H
  have A2 := Aside0.mk A20
  clear A20
  by_cases c3 : t1023 < 0
  · rw [if_pos c3] at H
    have c3b0 : decide (t1023 < 0) = true := decide_eq_true c3
    clear c3
    obtain rfl := Option.some.inj H
    go_enter Try.func6, Try.ntmps6
    go_wp2_with (first | ((with_reducible refine gate_dst (N := 1) rfl ?_); refine box_event ?hg (N := 1) ?hd (cs := #[.int .i64 a0_0, .int .i64 a0_1, .slice A0_2 l0_2.length c0_2]) (t := 25) ?hr ?_; (case hd => rfl); (case hg => rfl); (case hr => first | (go_simp; done) | (go_simp; rfl)); intro gb1022 hg w4 hbox hb; have n0_ := Aside0.mk (below_step (hb_ HB.out) hb); have n1_ := Aside0.mk (hbox); have n2_ := Aside0.mk ((by rw [hg]; exact (below_size (hb_ HB.out)) : w.heap.size ≤ gb1022)); have n3_ := Aside0.mk ((by rw [hg]; exact (below_size (hb_ HB.out)) : w.heap.size ≤ gb1022)); clear HB; have HB := n0_; have BK1022 := n1_; have GW1022 := n2_; have GE1022 := n3_; clear n0_ n1_ n2_ n3_; clear hb hbox hg; have hcz5_0 := bc_ BK1022.out 0 (.int .i64 a0_0) rfl; have hcz5_1 := bc_ BK1022.out 1 (.int .i64 a0_1) rfl; have hcz5_2 := bc_ BK1022.out 2 (.slice A0_2 l0_2.length c0_2) rfl; have hfz5_0 := blk_frozen BK1022.out 0; have hfz5_1 := blk_frozen BK1022.out 1; have hfz5_2 := blk_frozen BK1022.out 2) | ((with_reducible refine gate_callee (f := 9) rfl ?_); refine goesL_ (some 13) rfl rfl Try.func9 (by kernel_rfl) rfl #[.agg #[.int .i64 a0_0, .int .i64 a0_1, .slice A0_2 l0_2.length c0_2], .int .i64 1048576] rfl arr_ ?_; (with_reducible refine (laws_szPlan.calls a0_0 a0_1 _ _ l0_2 1048576 t1023 _ ?side1 ?side2 A2.out).mono ?_); (case side1 => exact kc_ (Kd.C_below HR0_2.out HB.out)); (case side2 => exact HC0_2.out); rintro e w6 ⟨rfl, hb⟩; refine ⟨_, rfl, ?_⟩; have n0_ := Aside0.mk (bb_ BK1022.out hb); have n1_ := Aside0.mk (below_step (hb1_ HB.out GE1022.out) hb); clear BK1022; clear HB; have BK1022 := n0_; have HB := n1_; clear n0_ n1_; (try clear hb); (try clear hb2); (try clear hk); (try clear hi)))
    go_ret
    exact ⟨er_, hb1_ HB.out GE1022.out⟩
  · rw [if_neg c3] at H
    have c3b0 : decide (t1023 < 0) = false := decide_eq_false c3
    clear c3
    replace H := Option.bind_eq_some_iff.mp H
    obtain ⟨⟨t1024, t1025, t1026⟩, A70, H⟩ := H
    replace H : ((spec_OwnersOf.f k t1024 t1025 t1026).bind fun t1029 => ((laws_toPlan.f k a0_0 a0_1 l0_2).bind fun bt1032 => ((impl_OwnersOf.f k bt1032.1 bt1032.2.1 bt1032.2.2).bind fun t1038 => ((laws_eqIntS.f k t1038 t1029).bind fun t1041 => (if t1041 = true then ((laws_toPlan.f k a0_0 a0_1 l0_2).bind fun bt1042 => ((laws_eqPlan.f k bt1032.1 bt1032.2.1 bt1032.2.2 bt1042.1 bt1042.2.1 bt1042.2.2).bind fun t1047 => (if t1047 = true then ((laws_markPlan.f k bt1032.1 bt1032.2.1 bt1032.2.2 1).bind fun bt1048 => (if bt1048.1 < 0 then (laws_FnExactOwnersOf.j0 k t1029 t1038 true a0_0 a0_1 l0_2) else ((laws_eqIntS.f k t1038 t1029).bind fun t1050 => (laws_FnExactOwnersOf.j0 k t1029 t1038 (!t1050) a0_0 a0_1 l0_2)))) else (some false)))) else (some false)))))) = some r := H
    have A7 := Aside0.mk A70
    clear A70
    replace H := Option.bind_eq_some_iff.mp H
    obtain ⟨t1029, A80, H⟩ := H
    replace H : ((laws_toPlan.f k a0_0 a0_1 l0_2).bind fun bt1032 => ((impl_OwnersOf.f k bt1032.1 bt1032.2.1 bt1032.2.2).bind fun t1038 => ((laws_eqIntS.f k t1038 t1029).bind fun t1041 => (if t1041 = true then ((laws_toPlan.f k a0_0 a0_1 l0_2).bind fun bt1042 => ((laws_eqPlan.f k bt1032.1 bt1032.2.1 bt1032.2.2 bt1042.1 bt1042.2.1 bt1042.2.2).bind fun t1047 => (if t1047 = true then ((laws_markPlan.f k bt1032.1 bt1032.2.1 bt1032.2.2 1).bind fun bt1048 => (if bt1048.1 < 0 then (laws_FnExactOwnersOf.j0 k t1029 t1038 true a0_0 a0_1 l0_2) else ((laws_eqIntS.f k t1038 t1029).bind fun t1050 => (laws_FnExactOwnersOf.j0 k t1029 t1038 (!t1050) a0_0 a0_1 l0_2)))) else (some false)))) else (some false))))) = some r := H
    have A8 := Aside0.mk A80
    clear A80
    replace H := Option.bind_eq_some_iff.mp H
    obtain ⟨⟨t1032, t1033, t1034⟩, A90, H⟩ := H
    replace H : ((impl_OwnersOf.f k t1032 t1033 t1034).bind fun t1038 => ((laws_eqIntS.f k t1038 t1029).bind fun t1041 => (if t1041 = true then ((laws_toPlan.f k a0_0 a0_1 l0_2).bind fun bt1042 => ((laws_eqPlan.f k t1032 t1033 t1034 bt1042.1 bt1042.2.1 bt1042.2.2).bind fun t1047 => (if t1047 = true then ((laws_markPlan.f k t1032 t1033 t1034 1).bind fun bt1048 => (if bt1048.1 < 0 then (laws_FnExactOwnersOf.j0 k t1029 t1038 true a0_0 a0_1 l0_2) else ((laws_eqIntS.f k t1038 t1029).bind fun t1050 => (laws_FnExactOwnersOf.j0 k t1029 t1038 (!t1050) a0_0 a0_1 l0_2)))) else (some false)))) else (some false)))) = some r := H
    have A9 := Aside0.mk A90
    clear A90
    replace H := Option.bind_eq_some_iff.mp H
    obtain ⟨t1038, A100, H⟩ := H
    replace H : ((laws_eqIntS.f k t1038 t1029).bind fun t1041 => (if t1041 = true then ((laws_toPlan.f k a0_0 a0_1 l0_2).bind fun bt1042 => ((laws_eqPlan.f k t1032 t1033 t1034 bt1042.1 bt1042.2.1 bt1042.2.2).bind fun t1047 => (if t1047 = true then ((laws_markPlan.f k t1032 t1033 t1034 1).bind fun bt1048 => (if bt1048.1 < 0 then (laws_FnExactOwnersOf.j0 k t1029 t1038 true a0_0 a0_1 l0_2) else ((laws_eqIntS.f k t1038 t1029).bind fun t1050 => (laws_FnExactOwnersOf.j0 k t1029 t1038 (!t1050) a0_0 a0_1 l0_2)))) else (some false)))) else (some false))) = some r := H
    have A10 := Aside0.mk A100
    clear A100
    replace H := Option.bind_eq_some_iff.mp H
    obtain ⟨t1041, A110, H⟩ := H
    replace H : (if t1041 = true then ((laws_toPlan.f k a0_0 a0_1 l0_2).bind fun bt1042 => ((laws_eqPlan.f k t1032 t1033 t1034 bt1042.1 bt1042.2.1 bt1042.2.2).bind fun t1047 => (if t1047 = true then ((laws_markPlan.f k t1032 t1033 t1034 1).bind fun bt1048 => (if bt1048.1 < 0 then (laws_FnExactOwnersOf.j0 k t1029 t1038 true a0_0 a0_1 l0_2) else ((laws_eqIntS.f k t1038 t1029).bind fun t1050 => (laws_FnExactOwnersOf.j0 k t1029 t1038 (!t1050) a0_0 a0_1 l0_2)))) else (some false)))) else (some false)) = some r := H
    have A11 := Aside0.mk A110
    clear A110
    by_cases c12 : t1041 = true
    · subst c12
      have H1 : ((laws_toPlan.f k a0_0 a0_1 l0_2).bind fun bt1042 => ((laws_eqPlan.f k t1032 t1033 t1034 bt1042.1 bt1042.2.1 bt1042.2.2).bind fun t1047 => (if t1047 = true then ((laws_markPlan.f k t1032 t1033 t1034 1).bind fun bt1048 => (if bt1048.1 < 0 then (laws_FnExactOwnersOf.j0 k t1029 t1038 true a0_0 a0_1 l0_2) else ((laws_eqIntS.f k t1038 t1029).bind fun t1050 => (laws_FnExactOwnersOf.j0 k t1029 t1038 (!t1050) a0_0 a0_1 l0_2)))) else (some false)))) = some r := by rw [if_pos rfl] at H; exact H
      clear H
      have H := H1
      clear H1
      replace H := Option.bind_eq_some_iff.mp H
      obtain ⟨⟨t1042, t1043, t1044⟩, A130, H⟩ := H
      replace H : ((laws_eqPlan.f k t1032 t1033 t1034 t1042 t1043 t1044).bind fun t1047 => (if t1047 = true then ((laws_markPlan.f k t1032 t1033 t1034 1).bind fun bt1048 => (if bt1048.1 < 0 then (laws_FnExactOwnersOf.j0 k t1029 t1038 true a0_0 a0_1 l0_2) else ((laws_eqIntS.f k t1038 t1029).bind fun t1050 => (laws_FnExactOwnersOf.j0 k t1029 t1038 (!t1050) a0_0 a0_1 l0_2)))) else (some false))) = some r := H
      have A13 := Aside0.mk A130
      clear A130
      replace H := Option.bind_eq_some_iff.mp H
      obtain ⟨t1047, A140, H⟩ := H
      replace H : (if t1047 = true then ((laws_markPlan.f k t1032 t1033 t1034 1).bind fun bt1048 => (if bt1048.1 < 0 then (laws_FnExactOwnersOf.j0 k t1029 t1038 true a0_0 a0_1 l0_2) else ((laws_eqIntS.f k t1038 t1029).bind fun t1050 => (laws_FnExactOwnersOf.j0 k t1029 t1038 (!t1050) a0_0 a0_1 l0_2)))) else (some false)) = some r := H
      have A14 := Aside0.mk A140
      clear A140
      by_cases c15 : t1047 = true
      · subst c15
        have H1 : ((laws_markPlan.f k t1032 t1033 t1034 1).bind fun bt1048 => (if bt1048.1 < 0 then (laws_FnExactOwnersOf.j0 k t1029 t1038 true a0_0 a0_1 l0_2) else ((laws_eqIntS.f k t1038 t1029).bind fun t1050 => (laws_FnExactOwnersOf.j0 k t1029 t1038 (!t1050) a0_0 a0_1 l0_2)))) = some r := by rw [if_pos rfl] at H; exact H
        clear H
        have H := H1
        clear H1
        replace H := Option.bind_eq_some_iff.mp H
        obtain ⟨⟨t1048, t1049⟩, A160, H⟩ := H
        replace H : (if t1048 < 0 then (laws_FnExactOwnersOf.j0 k t1029 t1038 true a0_0 a0_1 l0_2) else ((laws_eqIntS.f k t1038 t1029).bind fun t1050 => (laws_FnExactOwnersOf.j0 k t1029 t1038 (!t1050) a0_0 a0_1 l0_2))) = some r := H
        have A16 := Aside0.mk A160
        clear A160
        have HC17 := Aside0.mk H
        clear H
        go_enter Try.func6, Try.ntmps6
        try go_wp2_with (first | ((with_reducible refine gate_dst (N := 1) rfl ?_); refine box_event ?hg (N := 1) ?hd (cs := #[.int .i64 a0_0, .int .i64 a0_1, .slice A0_2 l0_2.length c0_2]) (t := 25) ?hr ?_; (case hd => rfl); (case hg => rfl); (case hr => first | (go_simp; done) | (go_simp; rfl)); intro gb1022 hg w18 hbox hb; have n0_ := Aside0.mk (below_step (hb_ HB.out) hb); have n1_ := Aside0.mk (hbox); have n2_ := Aside0.mk ((by rw [hg]; exact (below_size (hb_ HB.out)) : w.heap.size ≤ gb1022)); have n3_ := Aside0.mk ((by rw [hg]; exact (below_size (hb_ HB.out)) : w.heap.size ≤ gb1022)); clear HB; have HB := n0_; have BK1022 := n1_; have GW1022 := n2_; have GE1022 := n3_; clear n0_ n1_ n2_ n3_; clear hb hbox hg; have hcz19_0 := bc_ BK1022.out 0 (.int .i64 a0_0) rfl; have hcz19_1 := bc_ BK1022.out 1 (.int .i64 a0_1) rfl; have hcz19_2 := bc_ BK1022.out 2 (.slice A0_2 l0_2.length c0_2) rfl; have hfz19_0 := blk_frozen BK1022.out 0; have hfz19_1 := blk_frozen BK1022.out 1; have hfz19_2 := blk_frozen BK1022.out 2) | ((with_reducible refine gate_callee (f := 9) rfl ?_); refine goesL_ (some 13) rfl rfl Try.func9 (by kernel_rfl) rfl #[.agg #[.int .i64 a0_0, .int .i64 a0_1, .slice A0_2 l0_2.length c0_2], .int .i64 1048576] rfl arr_ ?_; (with_reducible refine (laws_szPlan.calls a0_0 a0_1 _ _ l0_2 1048576 t1023 _ ?side1 ?side2 A2.out).mono ?_); (case side1 => exact kc_ (Kd.C_below HR0_2.out HB.out)); (case side2 => exact HC0_2.out); rintro e w20 ⟨rfl, hb⟩; refine ⟨_, rfl, ?_⟩; have n0_ := Aside0.mk (bb_ BK1022.out hb); have n1_ := Aside0.mk (below_step (hb1_ HB.out GE1022.out) hb); clear BK1022; clear HB; have BK1022 := n0_; have HB := n1_; clear n0_ n1_; (try clear hb); (try clear hb2); (try clear hk); (try clear hi); have hcz21_0 := bc_ BK1022.out 0 (.int .i64 a0_0) rfl; have hcz21_1 := bc_ BK1022.out 1 (.int .i64 a0_1) rfl; have hcz21_2 := bc_ BK1022.out 2 (.slice A0_2 l0_2.length c0_2) rfl; have hfz21_0 := blk_frozen BK1022.out 0; have hfz21_1 := blk_frozen BK1022.out 1; have hfz21_2 := blk_frozen BK1022.out 2) | ((with_reducible refine gate_callee (f := 13) rfl ?_); refine goesL_ (some 17) rfl rfl Try.func13 (by kernel_rfl) rfl #[.agg #[.int .i64 a0_0, .int .i64 a0_1, .slice A0_2 l0_2.length c0_2]] rfl arr_ ?_; (with_reducible refine (laws_toPlan.calls k a0_0 a0_1 _ _ l0_2 t1024 t1025 t1026 _ ?side1 ?side2 A7.out).mono ?_); (case side1 => exact kc_ (Kd.C_below HR0_2.out HB.out)); (case side2 => exact HC0_2.out); rintro e w22 ⟨v1027, rfl, ho0, hb⟩; refine ⟨_, rfl, ?_⟩; have n0_ := Aside0.mk (Kd.R_lower ho0 (below_size (hb1_ HB.out GE1022.out))); have n1_ := Aside0.mk (bb_ BK1022.out hb); have n2_ := Aside0.mk (below_step (hb1_ HB.out GE1022.out) hb); clear BK1022; clear HB; have HO1028 := n0_; have BK1022 := n1_; have HB := n2_; clear n0_ n1_ n2_; (try clear hb); (try clear hb2); (try clear hk); (try clear hi); (try clear ho0); obtain ⟨Ao23, co23, eo23⟩ := Kd.R_slice HO1028.out; subst eo23) | ((with_reducible refine gate_callee (f := 35) rfl ?_); refine goesL_ (some 18) rfl rfl Try.func35 (by kernel_rfl) rfl #[.agg #[.int .i64 t1024, .int .i64 t1025, .slice Ao23 t1026.length co23]] rfl arr_ ?_; (with_reducible refine (spec_OwnersOf.calls k t1024 t1025 _ _ t1026 t1029 _ ?side1 ?side2 A8.out).mono ?_); (case side1 => repeat (first | exact (Kd.R_reads' HO1028.out).2.2 | (with_reducible refine Kd.C_alloc ?_ _) | (with_reducible refine Kd.C_drewN ?_ _) | (with_reducible refine Kd.C_drew ?_))); (case side2 => exact (Kd.R_reads' HO1028.out).2.1); rintro e w24 ⟨v1030, rfl, ho0, hb⟩; refine ⟨_, rfl, ?_⟩; have n0_ := Aside0.mk (Kd.R_below (by (with_reducible repeat (first | apply Kd.R_alloc | apply Kd.R_drewN | apply Kd.R_drew)); exact HO1028.out) hb); have n1_ := Aside0.mk (Kd.R_lower ho0 (below_size (hb1_ HB.out GE1022.out))); have n2_ := Aside0.mk (bb_ BK1022.out hb); have n3_ := Aside0.mk (below_step (hb1_ HB.out GE1022.out) hb); clear HO1028; clear BK1022; clear HB; have HO1028 := n0_; have HO1031 := n1_; have BK1022 := n2_; have HB := n3_; clear n0_ n1_ n2_ n3_; (try clear hb); (try clear hb2); (try clear hk); (try clear hi); (try clear ho0); have hcz25_0 := bc_ BK1022.out 0 (.int .i64 a0_0) rfl; have hcz25_1 := bc_ BK1022.out 1 (.int .i64 a0_1) rfl; have hcz25_2 := bc_ BK1022.out 2 (.slice A0_2 l0_2.length c0_2) rfl; have hfz25_0 := blk_frozen BK1022.out 0; have hfz25_1 := blk_frozen BK1022.out 1; have hfz25_2 := blk_frozen BK1022.out 2) | ((with_reducible refine gate_callee (f := 13) rfl ?_); refine goesL_ (some 20) rfl rfl Try.func13 (by kernel_rfl) rfl #[.agg #[.int .i64 a0_0, .int .i64 a0_1, .slice A0_2 l0_2.length c0_2]] rfl arr_ ?_; (with_reducible refine (laws_toPlan.calls k a0_0 a0_1 _ _ l0_2 t1032 t1033 t1034 _ ?side1 ?side2 A9.out).mono ?_); (case side1 => exact kc_ (Kd.C_below HR0_2.out HB.out)); (case side2 => exact HC0_2.out); rintro e w26 ⟨v1035, rfl, ho0, hb⟩; refine ⟨_, rfl, ?_⟩; have n0_ := Aside0.mk (Kd.R_elder' (by (with_reducible repeat (first | apply Kd.R_alloc | apply Kd.R_drewN | apply Kd.R_drew)); exact HO1028.out) (Kd.R_base ho0) hb); have n1_ := Aside0.mk (Kd.R_below (by (with_reducible repeat (first | apply Kd.R_alloc | apply Kd.R_drewN | apply Kd.R_drew)); exact HO1031.out) hb); have n2_ := Aside0.mk (Kd.R_lower (Kd.R_new' ho0 (Kd.R_lt (by (with_reducible repeat (first | apply Kd.R_alloc | apply Kd.R_drewN | apply Kd.R_drew)); exact HO1028.out))) (below_size (hb1_ HB.out GE1022.out))); have n3_ := Aside0.mk (bb_ BK1022.out hb); have n4_ := Aside0.mk (below_step (hb1_ HB.out GE1022.out) hb); clear HO1028; clear HO1031; clear BK1022; clear HB; have HO1028 := n0_; have HO1031 := n1_; have HO1036 := n2_; have BK1022 := n3_; have HB := n4_; clear n0_ n1_ n2_ n3_ n4_; (try clear hb); (try clear hb2); (try clear hk); (try clear hi); (try clear ho0)) | ((with_reducible refine gate_dst (N := 5) rfl ?_); refine box_event ?hg (N := 5) ?hd (cs := #[.int .i64 0, .int .i64 0, .slice none 0 0]) (t := 39) ?hr ?_; (case hd => rfl); (case hg => rfl); (case hr => first | (go_simp; done) | (go_simp; rfl)); intro gb1037 hg w27 hbox hb; have n0_ := Aside0.mk (Kd.R_below (by (with_reducible repeat (first | apply Kd.R_alloc | apply Kd.R_drewN | apply Kd.R_drew)); exact HO1028.out) hb); have n1_ := Aside0.mk (Kd.R_below (by (with_reducible repeat (first | apply Kd.R_alloc | apply Kd.R_drewN | apply Kd.R_drew)); exact HO1031.out) hb); have n2_ := Aside0.mk (Kd.R_below (by (with_reducible repeat (first | apply Kd.R_alloc | apply Kd.R_drewN | apply Kd.R_drew)); exact HO1036.out) hb); have n3_ := Aside0.mk (bb_ BK1022.out hb); have n4_ := Aside0.mk (below_step (hb1_ HB.out GE1022.out) hb); have n5_ := Aside0.mk (hbox); have n6_ := Aside0.mk ((by rw [hg]; exact (below_size (hb1_ HB.out GE1022.out)) : w.heap.size ≤ gb1037)); have n7_ := Aside0.mk ((by rw [hg]; exact (below_size (hb1_ HB.out GE1022.out)) : w.heap.size ≤ gb1037)); have n8_ := Aside0.mk ((bl_ hg BK1022.out : gb1022 ≠ gb1037)); have n9_ := Aside0.mk ((bg_ hg BK1022.out : gb1037 ≠ gb1022)); clear HO1028; clear HO1031; clear HO1036; clear BK1022; clear HB; have HO1028 := n0_; have HO1031 := n1_; have HO1036 := n2_; have BK1022 := n3_; have HB := n4_; have BK1037 := n5_; have GW1037 := n6_; have GE1037 := n7_; have NB1022_1037 := n8_; have NB1037_1022 := n9_; clear n0_ n1_ n2_ n3_ n4_ n5_ n6_ n7_ n8_ n9_; clear hb hbox hg; have hnb28 := NB1037_1022.out; have hnc28 := NB1022_1037.out; have hcz29_0 := bc_ BK1037.out 0 (.int .i64 0) rfl; have hcz29_1 := bc_ BK1037.out 1 (.int .i64 0) rfl; have hcz29_2 := bc_ BK1037.out 2 (.slice none 0 0) rfl; have hfz29_0 := blk_frozen BK1037.out 0; have hfz29_1 := blk_frozen BK1037.out 1; have hfz29_2 := blk_frozen BK1037.out 2; obtain ⟨Ao30, co30, eo30⟩ := Kd.R_slice HO1036.out; subst eo30) | ((with_reducible refine gate_callee (f := 36) rfl ?_); refine goesL_ (some 22) rfl rfl Try.func36 (by kernel_rfl) rfl #[.agg #[.int .i64 t1032, .int .i64 t1033, .slice Ao30 t1034.length co30]] rfl arr_ ?_; (with_reducible refine (impl_OwnersOf.calls k t1032 t1033 _ _ t1034 t1038 _ ?side1 ?side2 A10.out).mono ?_); (case side1 => refine (Kd.R_reads' (e := 79) (base := w.heap.size) (ok := fun k_ => (True ∧ some k_ ≠ (.slice Ao23 t1026.length co23 : Value).ownBlock)) (n := t1034.length) (c := co30) ?_).2.2; exact (by (with_reducible repeat (first | apply Kd.R_alloc | apply Kd.R_drewN | apply Kd.R_drew)); exact (Kd.R_mono (Kd.R_far (p := ⟨gb1037, 2, none⟩) (Kd.R_far (p := ⟨gb1037, 1, none⟩) (Kd.R_far (p := ⟨gb1037, 0, none⟩) (Kd.R_types HO1036.out BK1037.out (by decide)) (fun _ hk => hk.2) (.int .i64 t1032)) (fun _ hk => hk.2) (.int .i64 t1033)) (fun _ hk => hk.2) (.slice Ao30 t1034.length co30)) (fun _ h_ => h_.1)))); (case side2 => exact (Kd.R_reads' HO1036.out).2.1); rintro e w31 ⟨v1039, rfl, ho0, hb⟩; refine ⟨_, rfl, ?_⟩; have n0_ := Aside0.mk (Kd.R_below (by (with_reducible repeat (first | apply Kd.R_alloc | apply Kd.R_drewN | apply Kd.R_drew)); exact (Kd.R_mono (Kd.R_far (p := ⟨gb1037, 2, none⟩) (Kd.R_far (p := ⟨gb1037, 1, none⟩) (Kd.R_far (p := ⟨gb1037, 0, none⟩) (Kd.R_types HO1028.out BK1037.out (by decide)) (fun _ hk => hk.2) (.int .i64 t1032)) (fun _ hk => hk.2) (.int .i64 t1033)) (fun _ hk => hk.2) (.slice Ao30 t1034.length co30)) (fun _ h_ => h_.1))) hb); have n1_ := Aside0.mk (Kd.R_elder' (by (with_reducible repeat (first | apply Kd.R_alloc | apply Kd.R_drewN | apply Kd.R_drew)); exact (Kd.R_mono (Kd.R_far (p := ⟨gb1037, 2, none⟩) (Kd.R_far (p := ⟨gb1037, 1, none⟩) (Kd.R_far (p := ⟨gb1037, 0, none⟩) (Kd.R_types HO1031.out BK1037.out (by decide)) (fun _ hk => hk.2) (.int .i64 t1032)) (fun _ hk => hk.2) (.int .i64 t1033)) (fun _ hk => hk.2) (.slice Ao30 t1034.length co30)) (fun _ h_ => h_.1))) (Kd.R_base ho0) hb); have n2_ := Aside0.mk (Kd.R_below (by (with_reducible repeat (first | apply Kd.R_alloc | apply Kd.R_drewN | apply Kd.R_drew)); exact (Kd.R_mono (Kd.R_far (p := ⟨gb1037, 2, none⟩) (Kd.R_far (p := ⟨gb1037, 1, none⟩) (Kd.R_far (p := ⟨gb1037, 0, none⟩) (Kd.R_types HO1036.out BK1037.out (by decide)) (fun _ hk => hk.2) (.int .i64 t1032)) (fun _ hk => hk.2) (.int .i64 t1033)) (fun _ hk => hk.2) (.slice Ao30 t1034.length co30)) (fun _ h_ => h_.1))) hb); have n3_ := Aside0.mk (Kd.R_lower (Kd.R_new' ho0 (Kd.R_lt (by (with_reducible repeat (first | apply Kd.R_alloc | apply Kd.R_drewN | apply Kd.R_drew)); exact (Kd.R_mono (Kd.R_far (p := ⟨gb1037, 2, none⟩) (Kd.R_far (p := ⟨gb1037, 1, none⟩) (Kd.R_far (p := ⟨gb1037, 0, none⟩) (Kd.R_types HO1031.out BK1037.out (by decide)) (fun _ hk => hk.2) (.int .i64 t1032)) (fun _ hk => hk.2) (.int .i64 t1033)) (fun _ hk => hk.2) (.slice Ao30 t1034.length co30)) (fun _ h_ => h_.1))))) (below_size (hb2_ HB.out GE1022.out GE1037.out))); have n4_ := Aside0.mk (blk_below (g := gb1022) (o := .cells #[.int .i64 a0_0, .int .i64 a0_1, .slice A0_2 l0_2.length c0_2] 25 (0, 0)) (by (with_reducible repeat (first | refine blk_drewN ?_ _ | refine blk_drew ?_ | refine blk_alloc ?_ _)); refine blk_far ?_ NB1022_1037.out _; (with_reducible repeat (first | refine blk_drewN ?_ _ | refine blk_drew ?_ | refine blk_alloc ?_ _)); refine blk_far ?_ NB1022_1037.out _; (with_reducible repeat (first | refine blk_drewN ?_ _ | refine blk_drew ?_ | refine blk_alloc ?_ _)); refine blk_far ?_ NB1022_1037.out _; (with_reducible repeat (first | refine blk_drewN ?_ _ | refine blk_drew ?_ | refine blk_alloc ?_ _)); exact BK1022.out) hb); have n5_ := Aside0.mk (blk_below (g := gb1037) (o := .cells #[.int .i64 t1032, .int .i64 t1033, .slice Ao30 t1034.length co30] 39 (0, 0)) (by (with_reducible repeat (first | refine blk_drewN ?_ _ | refine blk_drew ?_ | refine blk_alloc ?_ _)); refine blk_put (cs := #[.int .i64 t1032, .int .i64 t1033, .slice none 0 0]) ?_ 2 _ rfl; (with_reducible repeat (first | refine blk_drewN ?_ _ | refine blk_drew ?_ | refine blk_alloc ?_ _)); refine blk_put (cs := #[.int .i64 t1032, .int .i64 0, .slice none 0 0]) ?_ 1 _ rfl; (with_reducible repeat (first | refine blk_drewN ?_ _ | refine blk_drew ?_ | refine blk_alloc ?_ _)); refine blk_put (cs := #[.int .i64 0, .int .i64 0, .slice none 0 0]) ?_ 0 _ rfl; (with_reducible repeat (first | refine blk_drewN ?_ _ | refine blk_drew ?_ | refine blk_alloc ?_ _)); exact BK1037.out) hb); have n6_ := Aside0.mk (below_step (hb2_ HB.out GE1022.out GE1037.out) hb); clear HO1028; clear HO1031; clear HO1036; clear BK1022; clear BK1037; clear HB; have HO1028 := n0_; have HO1031 := n1_; have HO1036 := n2_; have HO1040 := n3_; have BK1022 := n4_; have BK1037 := n5_; have HB := n6_; clear n0_ n1_ n2_ n3_ n4_ n5_ n6_; (try clear hb); (try clear hb2); (try clear hk); (try clear hi); (try clear ho0); obtain ⟨Ao32, co32, eo32⟩ := Kd.R_slice HO1040.out; subst eo32; obtain ⟨Ao33, co33, eo33⟩ := Kd.R_slice HO1031.out; subst eo33) | ((with_reducible refine gate_callee (f := 23) rfl ?_); refine goesL_ (some 25) rfl rfl Try.func23 (by kernel_rfl) rfl #[.slice Ao32 t1038.length co32, .slice Ao33 t1029.length co33] rfl arr_ ?_; (with_reducible refine (laws_eqIntS.calls k _ _ t1038 _ _ t1029 true _ ?side1 ?side2 ?side3 ?side4 A11.out).mono ?_); (case side1 => repeat (first | exact (Kd.R_reads' HO1040.out).2.2 | (with_reducible refine Kd.C_alloc ?_ _) | (with_reducible refine Kd.C_drewN ?_ _) | (with_reducible refine Kd.C_drew ?_))); (case side2 => exact (Kd.R_reads' HO1040.out).2.1); (case side3 => repeat (first | exact (Kd.R_reads' HO1031.out).2.2 | (with_reducible refine Kd.C_alloc ?_ _) | (with_reducible refine Kd.C_drewN ?_ _) | (with_reducible refine Kd.C_drew ?_))); (case side4 => exact (Kd.R_reads' HO1031.out).2.1); rintro e w' ⟨rfl, ⟨nd, rfl⟩⟩; refine ⟨_, rfl, ?_⟩))
        (try (rw [drewN_self w31]; generalize hq_ : World.drewN w31 _ = w31; have n0_ : Aside0 (Kd.R k79 79 w31 w.heap.size (fun k_ => some k_ ≠ (.slice Ao30 t1034.length co30 : Value).ownBlock) (.slice Ao23 t1026.length co23) t1026) := ⟨by rw [← hq_]; exact (by (with_reducible repeat (first | apply Kd.R_alloc | apply Kd.R_drewN | apply Kd.R_drew)); exact Kd.R_mono HO1028.out (fun _ hk => hk.2))⟩; have n1_ : Aside0 (Kd.R (Kd.int .i64) 3 w31 w.heap.size (fun k_ => some k_ ≠ (.slice Ao32 t1038.length co32 : Value).ownBlock) (.slice Ao33 t1029.length co33) t1029) := ⟨by rw [← hq_]; exact (by (with_reducible repeat (first | apply Kd.R_alloc | apply Kd.R_drewN | apply Kd.R_drew)); exact Kd.R_mono HO1031.out (fun _ hk => hk.2))⟩; have n2_ : Aside0 (Kd.R k79 79 w31 w.heap.size (fun k_ => some k_ ≠ (.slice Ao23 t1026.length co23 : Value).ownBlock) (.slice Ao30 t1034.length co30) t1034) := ⟨by rw [← hq_]; exact (by (with_reducible repeat (first | apply Kd.R_alloc | apply Kd.R_drewN | apply Kd.R_drew)); exact Kd.R_mono HO1036.out (fun _ hk => hk.2))⟩; have n3_ : Aside0 (Kd.R (Kd.int .i64) 3 w31 w.heap.size (fun k_ => some k_ ≠ (.slice Ao33 t1029.length co33 : Value).ownBlock) (.slice Ao32 t1038.length co32) t1038) := ⟨by rw [← hq_]; exact (by (with_reducible repeat (first | apply Kd.R_alloc | apply Kd.R_drewN | apply Kd.R_drew)); exact Kd.R_mono HO1040.out (fun _ hk => hk.2))⟩; have n4_ : Aside0 (w31.heap[gb1022]? = some (.cells #[.int .i64 a0_0, .int .i64 a0_1, .slice A0_2 l0_2.length c0_2] 25 (0, 0))) := ⟨by rw [← hq_]; exact (bk_ BK1022.out)⟩; have n5_ : Aside0 (w31.heap[gb1037]? = some (.cells #[.int .i64 t1032, .int .i64 t1033, .slice Ao30 t1034.length co30] 39 (0, 0))) := ⟨by rw [← hq_]; exact (bk_ BK1037.out)⟩; have n6_ : Aside0 (Below w.heap.size w w31) := ⟨by rw [← hq_]; exact (hb2_ HB.out GE1022.out GE1037.out)⟩; clear HO1028 HO1031 HO1036 HO1040 BK1022 BK1037 HB hq_; have HO1028 := n0_; have HO1031 := n1_; have HO1036 := n2_; have HO1040 := n3_; have BK1022 := n4_; have BK1037 := n5_; have HB := n6_; clear n0_ n1_ n2_ n3_ n4_ n5_ n6_))
        have n0_ := Aside0.mk (Kd.R_drew HO1028.out)
        have n1_ := Aside0.mk (Kd.R_drew HO1031.out)
        have n2_ := Aside0.mk (Kd.R_drew HO1036.out)
        have n3_ := Aside0.mk (Kd.R_drew HO1040.out)
        have n4_ := Aside0.mk (blk_drew BK1022.out)
        have n5_ := Aside0.mk (blk_drew BK1037.out)
        have n6_ := Aside0.mk (below_drew1 HB.out)
        clear HO1028
        clear HO1031
        clear HO1036
        clear HO1040
        clear BK1022
        clear BK1037
        clear HB
        have HO1028 := n0_
        have HO1031 := n1_
        have HO1036 := n2_
        have HO1040 := n3_
        have BK1022 := n4_
        have BK1037 := n5_
        have HB := n6_
        clear n0_ n1_ n2_ n3_ n4_ n5_ n6_
        refine start_ (n := 5) (S := fun w' => w'.cell? ⟨gb1037, 0, none⟩ = some (.int .i64 t1032) ∧ w'.cell? ⟨gb1037, 1, none⟩ = some (.int .i64 t1033) ∧ w'.cell? ⟨gb1037, 2, none⟩ = some (.slice Ao30 t1034.length co30) ∧ w'.cell? ⟨gb1022, 0, none⟩ = some (.int .i64 a0_0) ∧ w'.cell? ⟨gb1022, 1, none⟩ = some (.int .i64 a0_1) ∧ w'.cell? ⟨gb1022, 2, none⟩ = some (.slice A0_2 l0_2.length c0_2)) (ds := []) #[false, false, false, false, false] (by kernel_rfl) rfl rfl ⟨(blk_cell BK1037.out 0).trans rfl, (blk_cell BK1037.out 1).trans rfl, (blk_cell BK1037.out 2).trans rfl, (blk_cell BK1022.out 0).trans rfl, (blk_cell BK1022.out 1).trans rfl, (blk_cell BK1022.out 2).trans rfl⟩ (fun hHeld => ?_)
        generalize w31.drew = w34 at HO1028 HO1031 HO1036 HO1040 BK1022 BK1037 HB hHeld ⊢
        refine take_ (i := 0) (N := some 27) (v := ?_) (a' := ?_) #[true, false, false, false, false] rfl rfl (by kernel_rfl) (fun _ _ _ h => h) (Or.inl ⟨by rfl, ?_⟩) hHeld ?_ ?_
        rotate_left
        · rintro w' ⟨s0, s1, s2, s3, s4, s5⟩
          go_simp
          with_reducible rfl
        rotate_left
        · simp only [Act.put, List.setIfInBounds_toArray, List.set_cons_zero, List.set_cons_succ, i64_w, i32_w]
          rfl
        refine take_ (i := 1) (N := some 28) (v := ?_) (a' := ?_) #[true, true, false, false, false] rfl rfl (by kernel_rfl) (fun _ _ _ h => h) (Or.inl ⟨by rfl, ?_⟩) hHeld ?_ ?_
        rotate_left
        · rintro w' ⟨s0, s1, s2, s3, s4, s5⟩
          go_simp
          with_reducible rfl
        rotate_left
        · simp only [Act.put, List.setIfInBounds_toArray, List.set_cons_zero, List.set_cons_succ, i64_w, i32_w]
          rfl
        refine one_ (i := 2) (N := some 29) #[true, true, true, false, false] rfl rfl (by kernel_rfl) (by decide) (fun K hK => ?_)
        refine goes_ Try.func13 (by kernel_rfl) rfl #[.agg #[.int .i64 a0_0, .int .i64 a0_1, .slice A0_2 l0_2.length c0_2]] (by rfl) rfl rfl arr_ ?_
        with_reducible refine (laws_toPlan.calls k a0_0 a0_1 _ _ l0_2 t1042 t1043 t1044 _ ?side1 ?side2 A13.out).mono ?_
        (case side1 => exact kc_ (Kd.C_below HR0_2.out HB.out))
        (case side2 => exact HC0_2.out)
        rintro e w35 ⟨v1045, rfl, ho0, hb⟩
        refine ⟨_, rfl, ?_⟩
        have n0_ := Aside0.mk (Kd.R_elder' (by (with_reducible repeat (first | apply Kd.R_alloc | apply Kd.R_drewN | apply Kd.R_drew)); exact HO1028.out) (Kd.R_base ho0) hb)
        have n1_ := Aside0.mk (Kd.R_below (by (with_reducible repeat (first | apply Kd.R_alloc | apply Kd.R_drewN | apply Kd.R_drew)); exact HO1031.out) hb)
        have n2_ := Aside0.mk (Kd.R_elder' (by (with_reducible repeat (first | apply Kd.R_alloc | apply Kd.R_drewN | apply Kd.R_drew)); exact HO1036.out) (Kd.R_base ho0) hb)
        have n3_ := Aside0.mk (Kd.R_below (by (with_reducible repeat (first | apply Kd.R_alloc | apply Kd.R_drewN | apply Kd.R_drew)); exact HO1040.out) hb)
        have n4_ := Aside0.mk (Kd.R_lower (Kd.R_new' (Kd.R_new' ho0 (Kd.R_lt (by (with_reducible repeat (first | apply Kd.R_alloc | apply Kd.R_drewN | apply Kd.R_drew)); exact HO1028.out))) (Kd.R_lt (by (with_reducible repeat (first | apply Kd.R_alloc | apply Kd.R_drewN | apply Kd.R_drew)); exact HO1036.out))) (below_size (hb2_ HB.out GE1022.out GE1037.out)))
        have n5_ := Aside0.mk (bb_ BK1022.out hb)
        have n6_ := Aside0.mk (bb_ BK1037.out hb)
        have n7_ := Aside0.mk (below_step (hb2_ HB.out GE1022.out GE1037.out) hb)
        clear HO1028
        clear HO1031
        clear HO1036
        clear HO1040
        clear BK1022
        clear BK1037
        clear HB
        have HO1028 := n0_
        have HO1031 := n1_
        have HO1036 := n2_
        have HO1040 := n3_
        have HO1046 := n4_
        have BK1022 := n5_
        have BK1037 := n6_
        have HB := n7_
        clear n0_ n1_ n2_ n3_ n4_ n5_ n6_ n7_
        (try clear hb)
        (try clear hb2)
        (try clear hk)
        (try clear hi)
        (try clear ho0)
        obtain ⟨Ao36, co36, eo36⟩ := Kd.R_slice HO1046.out
        (first | subst eo36 | (injection eo36 with f1_ f2_ f3_; have f4_ := f1_.symm; have f5_ := f3_.symm; clear f1_ f2_ f3_; subst f4_; subst f5_))
        refine hK.out _ _ ⟨(blk_cell BK1037.out 0).trans rfl, (blk_cell BK1037.out 1).trans rfl, (blk_cell BK1037.out 2).trans rfl, (blk_cell BK1022.out 0).trans rfl, (blk_cell BK1022.out 1).trans rfl, (blk_cell BK1022.out 2).trans rfl⟩ (fun hHeld => ?_)
        clear hK K
        refine norm_ (a' := ?_) ?_ ?_
        rotate_left
        · show Act.put _ (some 29) _ = _
          simp only [Act.put, List.setIfInBounds_toArray, List.set_cons_zero, List.set_cons_succ, i64_w, i32_w]
          rfl
        refine one_ (i := 3) (N := some 30) #[true, true, true, true, false] rfl rfl (by kernel_rfl) (by decide) (fun K hK => ?_)
        refine goes_ Try.func17 (by kernel_rfl) rfl #[.agg #[.int .i64 t1032, .int .i64 t1033, .slice Ao30 t1034.length co30], .agg #[.int .i64 t1042, .int .i64 t1043, .slice Ao36 t1044.length co36]] (by rfl) rfl rfl arr_ ?_
        with_reducible refine (laws_eqPlan.calls k t1032 t1033 _ _ t1034 t1042 t1043 _ _ t1044 true _ ?side1 ?side2 ?side3 ?side4 A14.out).mono ?_
        (case side1 => repeat (first | exact (Kd.R_reads' HO1036.out).2.2 | (with_reducible refine Kd.C_alloc ?_ _) | (with_reducible refine Kd.C_drewN ?_ _) | (with_reducible refine Kd.C_drew ?_)))
        (case side2 => exact (Kd.R_reads' HO1036.out).2.1)
        (case side3 => repeat (first | exact (Kd.R_reads' HO1046.out).2.2 | (with_reducible refine Kd.C_alloc ?_ _) | (with_reducible refine Kd.C_drewN ?_ _) | (with_reducible refine Kd.C_drew ?_)))
        (case side4 => exact (Kd.R_reads' HO1046.out).2.1)
        rintro e w37 ⟨rfl, hb⟩
        refine ⟨_, rfl, ?_⟩
        have n0_ := Aside0.mk (Kd.R_below (by (with_reducible repeat (first | apply Kd.R_alloc | apply Kd.R_drewN | apply Kd.R_drew)); exact HO1028.out) hb)
        have n1_ := Aside0.mk (Kd.R_below (by (with_reducible repeat (first | apply Kd.R_alloc | apply Kd.R_drewN | apply Kd.R_drew)); exact HO1031.out) hb)
        have n2_ := Aside0.mk (Kd.R_below (by (with_reducible repeat (first | apply Kd.R_alloc | apply Kd.R_drewN | apply Kd.R_drew)); exact HO1036.out) hb)
        have n3_ := Aside0.mk (Kd.R_below (by (with_reducible repeat (first | apply Kd.R_alloc | apply Kd.R_drewN | apply Kd.R_drew)); exact HO1040.out) hb)
        have n4_ := Aside0.mk (Kd.R_below (by (with_reducible repeat (first | apply Kd.R_alloc | apply Kd.R_drewN | apply Kd.R_drew)); exact HO1046.out) hb)
        have n5_ := Aside0.mk (bb_ BK1022.out hb)
        have n6_ := Aside0.mk (bb_ BK1037.out hb)
        have n7_ := Aside0.mk (below_step (hb2_ HB.out GE1022.out GE1037.out) hb)
        clear HO1028
        clear HO1031
        clear HO1036
        clear HO1040
        clear HO1046
        clear BK1022
        clear BK1037
        clear HB
        have HO1028 := n0_
        have HO1031 := n1_
        have HO1036 := n2_
        have HO1040 := n3_
        have HO1046 := n4_
        have BK1022 := n5_
        have BK1037 := n6_
        have HB := n7_
        clear n0_ n1_ n2_ n3_ n4_ n5_ n6_ n7_
        (try clear hb)
        (try clear hb2)
        (try clear hk)
        (try clear hi)
        refine hK.out _ _ ⟨(blk_cell BK1037.out 0).trans rfl, (blk_cell BK1037.out 1).trans rfl, (blk_cell BK1037.out 2).trans rfl, (blk_cell BK1022.out 0).trans rfl, (blk_cell BK1022.out 1).trans rfl, (blk_cell BK1022.out 2).trans rfl⟩ (fun hHeld => ?_)
        clear hK K
        refine norm_ (a' := ?_) ?_ ?_
        rotate_left
        · show Act.put _ (some 30) _ = _
          simp only [Act.put, List.setIfInBounds_toArray, List.set_cons_zero, List.set_cons_succ, i64_w, i32_w]
          rfl
        refine pure_ (i := 4) (N := some 31) (v := ?_) (a' := ?_) #[true, true, true, true, true] rfl rfl (by kernel_rfl) (fun _ _ _ h => h) (Or.inl ⟨by rfl, ?_⟩) ?_ ?_
        rotate_left
        · intro w'
          go_simp
          with_reducible rfl
        rotate_left
        · simp only [Act.put, List.setIfInBounds_toArray, List.set_cons_zero, List.set_cons_succ, i64_w, i32_w]
          rfl
        refine done_ (by kernel_rfl) ?_
        have hcz38_0 := bc_ BK1037.out 0 (.int .i64 t1032) rfl
        have hcz38_1 := bc_ BK1037.out 1 (.int .i64 t1033) rfl
        have hcz38_2 := bc_ BK1037.out 2 (.slice Ao30 t1034.length co30) rfl
        have hfz38_0 := blk_frozen BK1037.out 0
        have hfz38_1 := blk_frozen BK1037.out 1
        have hfz38_2 := blk_frozen BK1037.out 2
        go_upto_region 14 with (first | ((with_reducible refine gate_callee (f := 19) rfl ?_); refine goesL_ (some 34) rfl rfl Try.func19 (by kernel_rfl) rfl #[.agg #[.int .i64 t1032, .int .i64 t1033, .slice Ao30 t1034.length co30], .int .i64 1] rfl arr_ ?_; (with_reducible refine (laws_markPlan.calls k t1032 t1033 (fun k_ => some k_ = (.slice Ao30 t1034.length co30 : Value).ownBlock) (.slice Ao30 t1034.length co30) t1034 1 t1048 t1049 w _ ?side1 ?side2 A16.out).mono ?_); (case side1 => repeat (first | (with_reducible first | exact HB.out | apply below_alloc | apply pw_below_drewN | apply below_drew1 | refine below_set ?_ GE1022.out | refine below_set ?_ GE1037.out) | exact HB.out)); (case side2 => exact Kd.R_tight rfl HO1036.out); rintro e w39 ⟨rfl, hy0, hb, hkp⟩; refine ⟨_, rfl, ?_⟩; have n0_ := Aside0.mk (blk_kept (bk_ BK1022.out) hkp (fun hs_ => (fun e_ => (Kd.R_ne HO1036.out BK1022.out (by decide)) e_) hs_)); have n1_ := Aside0.mk (Kd.R_mono (ok' := fun k_ => some k_ ≠ (.slice Ao30 t1034.length co30 : Value).ownBlock ∧ some k_ ≠ (.slice Ao36 t1044.length co36 : Value).ownBlock) (Kd.R_keptB (HO1028.out) hkp (fun k_ hk_ hs_ => by first | exact (hk_.1.2) hs_ | exact hk_ hs_ | exact hk_.1 hs_ | exact hk_.2 hs_ | exact hk_.1.1 hs_ | exact hk_.1.2 hs_ | exact hk_.2.1 hs_ | exact hk_.2.2 hs_ | exact hk_.1.1.1 hs_ | exact hk_.1.1.2 hs_ | exact hk_.1.2.1 hs_ | exact hk_.1.2.2 hs_ | exact hk_.1.1.1.1 hs_ | exact hk_.1.1.1.2 hs_)) (fun k_ hk_ => by first | exact ⟨hk_.1.1.2, hk_.1.2⟩ | (repeat (first | exact hk_ | exact hk_.1 | exact hk_.2 | exact hk_.1.1 | exact hk_.1.2 | exact hk_.2.1 | exact hk_.2.2 | exact hk_.1.1.1 | exact hk_.1.1.2 | exact hk_.1.2.1 | exact hk_.1.2.2 | exact hk_.1.1.1.1 | exact hk_.1.1.1.2 | (refine ⟨?_, ?_⟩))))); have n2_ := Aside0.mk (Kd.R_mono (ok' := fun k_ => some k_ ≠ (.slice Ao32 t1038.length co32 : Value).ownBlock) (Kd.R_keptB ((Kd.R_apart' HO1031.out (Kd.R_typed HO1036.out) (by decide))) hkp (fun k_ hk_ hs_ => by first | exact (hk_.2) hs_ | exact hk_ hs_ | exact hk_.1 hs_ | exact hk_.2 hs_ | exact hk_.1.1 hs_ | exact hk_.1.2 hs_ | exact hk_.2.1 hs_ | exact hk_.2.2 hs_ | exact hk_.1.1.1 hs_ | exact hk_.1.1.2 hs_ | exact hk_.1.2.1 hs_ | exact hk_.1.2.2 hs_ | exact hk_.1.1.1.1 hs_ | exact hk_.1.1.1.2 hs_)) (fun k_ hk_ => by first | exact hk_.1.1.2 | (repeat (first | exact hk_ | exact hk_.1 | exact hk_.2 | exact hk_.1.1 | exact hk_.1.2 | exact hk_.2.1 | exact hk_.2.2 | exact hk_.1.1.1 | exact hk_.1.1.2 | exact hk_.1.2.1 | exact hk_.1.2.2 | exact hk_.1.1.1.1 | exact hk_.1.1.1.2 | (refine ⟨?_, ?_⟩))))); have n3_ := Aside0.mk (Kd.R_reok rfl hy0 (fun k_ e_ => HO1036.out.1 k_ e_)); have n4_ := Aside0.mk (blk_kept (bk_ BK1037.out) hkp (fun hs_ => (fun e_ => (Kd.R_ne HO1036.out BK1037.out (by decide)) e_) hs_)); have n5_ := Aside0.mk (Kd.R_mono (ok' := fun k_ => some k_ ≠ (.slice Ao33 t1029.length co33 : Value).ownBlock) (Kd.R_keptB ((Kd.R_apart' HO1040.out (Kd.R_typed HO1036.out) (by decide))) hkp (fun k_ hk_ hs_ => by first | exact (hk_.2) hs_ | exact hk_ hs_ | exact hk_.1 hs_ | exact hk_.2 hs_ | exact hk_.1.1 hs_ | exact hk_.1.2 hs_ | exact hk_.2.1 hs_ | exact hk_.2.2 hs_ | exact hk_.1.1.1 hs_ | exact hk_.1.1.2 hs_ | exact hk_.1.2.1 hs_ | exact hk_.1.2.2 hs_ | exact hk_.1.1.1.1 hs_ | exact hk_.1.1.1.2 hs_)) (fun k_ hk_ => by first | exact hk_.1.1.2 | (repeat (first | exact hk_ | exact hk_.1 | exact hk_.2 | exact hk_.1.1 | exact hk_.1.2 | exact hk_.2.1 | exact hk_.2.2 | exact hk_.1.1.1 | exact hk_.1.1.2 | exact hk_.1.2.1 | exact hk_.1.2.2 | exact hk_.1.1.1.1 | exact hk_.1.1.1.2 | (refine ⟨?_, ?_⟩))))); have n6_ := Aside0.mk (Kd.R_mono (ok' := fun k_ => some k_ ≠ (.slice Ao23 t1026.length co23 : Value).ownBlock ∧ some k_ ≠ (.slice Ao30 t1034.length co30 : Value).ownBlock) (Kd.R_keptB (HO1046.out) hkp (fun k_ hk_ hs_ => by first | exact (hk_.2) hs_ | exact hk_ hs_ | exact hk_.1 hs_ | exact hk_.2 hs_ | exact hk_.1.1 hs_ | exact hk_.1.2 hs_ | exact hk_.2.1 hs_ | exact hk_.2.2 hs_ | exact hk_.1.1.1 hs_ | exact hk_.1.1.2 hs_ | exact hk_.1.2.1 hs_ | exact hk_.1.2.2 hs_ | exact hk_.1.1.1.1 hs_ | exact hk_.1.1.1.2 hs_)) (fun k_ hk_ => by first | exact ⟨hk_.1.1.2, hk_.1.2⟩ | (repeat (first | exact hk_ | exact hk_.1 | exact hk_.2 | exact hk_.1.1 | exact hk_.1.2 | exact hk_.2.1 | exact hk_.2.2 | exact hk_.1.1.1 | exact hk_.1.1.2 | exact hk_.1.2.1 | exact hk_.1.2.2 | exact hk_.1.1.1.1 | exact hk_.1.1.1.2 | (refine ⟨?_, ?_⟩))))); have n7_ := Aside0.mk (hb); clear BK1022; clear HO1028; clear HO1031; clear HO1036; clear BK1037; clear HO1040; clear HO1046; clear HB; have BK1022 := n0_; have HO1028 := n1_; have HO1031 := n2_; have HO1036 := n3_; have BK1037 := n4_; have HO1040 := n5_; have HO1046 := n6_; have HB := n7_; clear n0_ n1_ n2_ n3_ n4_ n5_ n6_ n7_; (try clear hb); (try clear hkp); (try clear hy0)))
        (try simp only [Act.put, List.setIfInBounds_toArray, List.set_cons_zero, List.set_cons_succ])
        go_cut [42] (fun v42 wc => ∃ (kq : Nat) (x42_16 : Bool), v42 = .bool x42_16 ∧ Aside0 (laws_FnExactOwnersOf.j0 kq t1029 t1038 x42_16 a0_0 a0_1 l0_2 = some r) ∧ Aside0 (kq ≤ k) ∧ Aside0 (Kd.R (Kd.int .i64) 3 wc w.heap.size (fun k_ => some k_ ≠ ((.slice Ao32 t1038.length co32) : Value).ownBlock) (.slice Ao33 t1029.length co33) t1029) ∧ Aside0 (Kd.R (Kd.int .i64) 3 wc w.heap.size (fun k_ => some k_ ≠ ((.slice Ao33 t1029.length co33) : Value).ownBlock) (.slice Ao32 t1038.length co32) t1038) ∧ Aside0 (Kd.R k79 79 wc w.heap.size (fun _ => True) (.slice Ao30 t1034.length co30) t1049) ∧ Aside0 (wc.heap[gb1022]? = some (.cells #[.int .i64 a0_0, .int .i64 a0_1, (.slice A0_2 l0_2.length c0_2)] 25 (0, 0))) ∧ Aside0 (wc.heap[gb1037]? = some (.cells #[.int .i64 t1032, .int .i64 t1033, (.slice Ao30 t1034.length co30)] 39 (0, 0))) ∧ Aside0 (Below w.heap.size w wc))
        case first =>
          have H := HC17.out
          clear HC17
          by_cases c40 : t1048 < 0
          · rw [if_pos c40] at H
            have c40b0 : decide (t1048 < 0) = true := decide_eq_true c40
            clear c40
            (first | rw [c40b0] | (simp only [i64_w, i32_w]; rw [c40b0]) | skip)
            have H' := Aside0.mk H
            clear H
            go_wp2
            go_meet
            case rel => exact ⟨_, (true), (by first | rfl | (simp; done) | (simp [*]; done)), H', ⟨by first | omega | exact Nat.le_refl _⟩, ⟨by (with_reducible repeat (first | apply Kd.R_alloc | apply Kd.R_drewN | apply Kd.R_drew)); exact HO1031.out⟩, ⟨by (with_reducible repeat (first | apply Kd.R_alloc | apply Kd.R_drewN | apply Kd.R_drew)); exact HO1040.out⟩, ⟨by (with_reducible repeat (first | apply Kd.R_alloc | apply Kd.R_drewN | apply Kd.R_drew)); exact Kd.R_mono HO1036.out (fun _ hk => trivial)⟩, ⟨bk_ BK1022.out⟩, ⟨bk_ BK1037.out⟩, ⟨hb2_ HB.out GE1022.out GE1037.out⟩⟩
          · rw [if_neg c40] at H
            have c40b0 : decide (t1048 < 0) = false := decide_eq_false c40
            clear c40
            (first | rw [c40b0] | (simp only [i64_w, i32_w]; rw [c40b0]) | skip)
            replace H := Option.bind_eq_some_iff.mp H
            obtain ⟨t1050, A410, H⟩ := H
            replace H : (laws_FnExactOwnersOf.j0 k t1029 t1038 (!t1050) a0_0 a0_1 l0_2) = some r := H
            have A41 := Aside0.mk A410
            clear A410
            have H' := Aside0.mk H
            clear H
            go_wp2_with (first | (go_at_call 23; (with_reducible refine (laws_eqIntS.calls k _ _ t1038 _ _ t1029 t1050 _ ?side1 ?side2 ?side3 ?side4 A41.out).mono ?_); (case side1 => repeat (first | exact (Kd.R_reads' HO1040.out).2.2 | (with_reducible refine Kd.C_alloc ?_ _) | (with_reducible refine Kd.C_drewN ?_ _) | (with_reducible refine Kd.C_drew ?_))); (case side2 => exact (Kd.R_reads' HO1040.out).2.1); (case side3 => repeat (first | exact (Kd.R_reads' HO1031.out).2.2 | (with_reducible refine Kd.C_alloc ?_ _) | (with_reducible refine Kd.C_drewN ?_ _) | (with_reducible refine Kd.C_drew ?_))); (case side4 => exact (Kd.R_reads' HO1031.out).2.1); rintro e w' ⟨rfl, ⟨nd, rfl⟩⟩))
            go_meet
            case rel => exact ⟨_, (!t1050), (by first | rfl | (simp; done) | (simp [*]; done)), H', ⟨by first | omega | exact Nat.le_refl _⟩, ⟨by (with_reducible repeat (first | apply Kd.R_alloc | apply Kd.R_drewN | apply Kd.R_drew)); exact HO1031.out⟩, ⟨by (with_reducible repeat (first | apply Kd.R_alloc | apply Kd.R_drewN | apply Kd.R_drew)); exact HO1040.out⟩, ⟨by (with_reducible repeat (first | apply Kd.R_alloc | apply Kd.R_drewN | apply Kd.R_drew)); exact Kd.R_mono HO1036.out (fun _ hk => trivial)⟩, ⟨bk_ BK1022.out⟩, ⟨bk_ BK1037.out⟩, ⟨hb2_ HB.out GE1022.out GE1037.out⟩⟩
        case rest =>
          clear HC17
          try clear c1
          try clear c2
          try clear p2
          try clear c3
          try clear c3b0
          try clear c4
          try clear c6
          try clear c9
          try clear c12
          try clear c13
          try clear c15
          try clear c17
          try clear c19
          try clear c23
          try clear c28
          try clear c35
          try clear c36
          try clear c40
          try clear c40b0
          try clear hcz19_0
          try clear hcz19_1
          try clear hcz19_2
          try clear hcz21_0
          try clear hcz21_1
          try clear hcz21_2
          try clear hcz25_0
          try clear hcz25_1
          try clear hcz25_2
          try clear hcz29_0
          try clear hcz29_1
          try clear hcz29_2
          try clear hcz38_0
          try clear hcz38_1
          try clear hcz38_2
          try clear hcz5_0
          try clear hcz5_1
          try clear hcz5_2
          try clear hfz19_0
          try clear hfz19_1
          try clear hfz19_2
          try clear hfz21_0
          try clear hfz21_1
          try clear hfz21_2
          try clear hfz25_0
          try clear hfz25_1
          try clear hfz25_2
          try clear hfz29_0
          try clear hfz29_1
          try clear hfz29_2
          try clear hfz38_0
          try clear hfz38_1
          try clear hfz38_2
          try clear hfz5_0
          try clear hfz5_1
          try clear hfz5_2
          obtain ⟨kq, x42_16, rfl, HA, HJ16, HO_4, HO_6, HO_1038002, BK1022, BK1037, HB⟩ := hcut
          have hl1038002_16 := (Kd.R_reads' HO_1038002.out).1
          rw [hl1038002_16] at HO_1038002
          (try simp only [hl1038002_16])
          (try simp only [hl1038002_16] at BK1022)
          (try simp only [hl1038002_16] at BK1037)
          (try simp only [hl1038002_16] at HO_4)
          (try simp only [hl1038002_16] at HO_6)
          cases kq with
          | zero => exact absurd HA.out (by simp [laws_FnExactOwnersOf.j0])
          | succ kj16 =>
            have H := HA.out
            clear HA
            simp only [laws_FnExactOwnersOf.j0] at H
            by_cases c42 : x42_16 = true
            · subst c42
              have H1 : (some false) = some r := by rw [if_pos rfl] at H; exact H
              clear H
              have H := H1
              clear H1
              obtain rfl := Option.some.inj H
              exact absurd hr_ (by decide)
            · replace c42 := Bool.eq_false_iff.mpr c42
              subst c42
              have H1 : ((laws_markIntS.f kj16 t1038 1).bind fun bt1051 => ((laws_heldIntS.f kj16 bt1051.2 1).bind fun t1053 => (if t1053 < 0 then (some false) else (if t1053 = bt1051.1 then ((laws_toPlan.f kj16 a0_0 a0_1 l0_2).bind fun bt1054 => ((impl_OwnersOf.f kj16 bt1054.1 bt1054.2.1 bt1054.2.2).bind fun t1059 => ((laws_eqIntS.f kj16 t1059 t1029).bind fun t1062 => (if t1062 = true then ((laws_heldIntS.f kj16 bt1051.2 1).bind fun t1063 => (if t1063 < 0 then (some false) else (if t1063 = bt1051.1 then (some true) else (some false)))) else (some false))))) else (some false))))) = some r := by rw [if_neg (show ¬ (false = true) by decide)] at H; exact H
              clear H
              have H := H1
              clear H1
              replace H := Option.bind_eq_some_iff.mp H
              obtain ⟨⟨t1051, t1052⟩, A430, H⟩ := H
              replace H : ((laws_heldIntS.f kj16 t1052 1).bind fun t1053 => (if t1053 < 0 then (some false) else (if t1053 = t1051 then ((laws_toPlan.f kj16 a0_0 a0_1 l0_2).bind fun bt1054 => ((impl_OwnersOf.f kj16 bt1054.1 bt1054.2.1 bt1054.2.2).bind fun t1059 => ((laws_eqIntS.f kj16 t1059 t1029).bind fun t1062 => (if t1062 = true then ((laws_heldIntS.f kj16 t1052 1).bind fun t1063 => (if t1063 < 0 then (some false) else (if t1063 = t1051 then (some true) else (some false)))) else (some false))))) else (some false)))) = some r := H
              have A43 := Aside0.mk A430
              clear A430
              replace H := Option.bind_eq_some_iff.mp H
              obtain ⟨t1053, A440, H⟩ := H
              replace H : (if t1053 < 0 then (some false) else (if t1053 = t1051 then ((laws_toPlan.f kj16 a0_0 a0_1 l0_2).bind fun bt1054 => ((impl_OwnersOf.f kj16 bt1054.1 bt1054.2.1 bt1054.2.2).bind fun t1059 => ((laws_eqIntS.f kj16 t1059 t1029).bind fun t1062 => (if t1062 = true then ((laws_heldIntS.f kj16 t1052 1).bind fun t1063 => (if t1063 < 0 then (some false) else (if t1063 = t1051 then (some true) else (some false)))) else (some false))))) else (some false))) = some r := H
              have A44 := Aside0.mk A440
              clear A440
              by_cases c45 : t1053 < 0
              · rw [if_pos c45] at H
                have c45b0 : decide (t1053 < 0) = true := decide_eq_true c45
                clear c45
                obtain rfl := Option.some.inj H
                exact absurd hr_ (by decide)
              · rw [if_neg c45] at H
                have c45b0 : decide (t1053 < 0) = false := decide_eq_false c45
                clear c45
                by_cases c46 : t1053 = t1051
                · rw [if_pos c46] at H
                  have c46b0 : (t1053 == t1051) = true := beq_iff_eq.mpr c46
                  have c46b1 : (t1053 != t1051) = false := bne_eq_false_iff_eq.mpr c46
                  clear c46
                  replace H := Option.bind_eq_some_iff.mp H
                  obtain ⟨⟨t1054, t1055, t1056⟩, A470, H⟩ := H
                  replace H : ((impl_OwnersOf.f kj16 t1054 t1055 t1056).bind fun t1059 => ((laws_eqIntS.f kj16 t1059 t1029).bind fun t1062 => (if t1062 = true then ((laws_heldIntS.f kj16 t1052 1).bind fun t1063 => (if t1063 < 0 then (some false) else (if t1063 = t1051 then (some true) else (some false)))) else (some false)))) = some r := H
                  have A47 := Aside0.mk A470
                  clear A470
                  replace H := Option.bind_eq_some_iff.mp H
                  obtain ⟨t1059, A480, H⟩ := H
                  replace H : ((laws_eqIntS.f kj16 t1059 t1029).bind fun t1062 => (if t1062 = true then ((laws_heldIntS.f kj16 t1052 1).bind fun t1063 => (if t1063 < 0 then (some false) else (if t1063 = t1051 then (some true) else (some false)))) else (some false))) = some r := H
                  have A48 := Aside0.mk A480
                  clear A480
                  replace H := Option.bind_eq_some_iff.mp H
                  obtain ⟨t1062, A490, H⟩ := H
                  replace H : (if t1062 = true then ((laws_heldIntS.f kj16 t1052 1).bind fun t1063 => (if t1063 < 0 then (some false) else (if t1063 = t1051 then (some true) else (some false)))) else (some false)) = some r := H
                  have A49 := Aside0.mk A490
                  clear A490
                  by_cases c50 : t1062 = true
                  · subst c50
                    have H1 : ((laws_heldIntS.f kj16 t1052 1).bind fun t1063 => (if t1063 < 0 then (some false) else (if t1063 = t1051 then (some true) else (some false)))) = some r := by rw [if_pos rfl] at H; exact H
                    clear H
                    have H := H1
                    clear H1
                    replace H := Option.bind_eq_some_iff.mp H
                    obtain ⟨t1063, A510, H⟩ := H
                    replace H : (if t1063 < 0 then (some false) else (if t1063 = t1051 then (some true) else (some false))) = some r := H
                    have A51 := Aside0.mk A510
                    clear A510
                    by_cases c52 : t1063 < 0
                    · rw [if_pos c52] at H
                      have c52b0 : decide (t1063 < 0) = true := decide_eq_true c52
                      clear c52
                      obtain rfl := Option.some.inj H
                      exact absurd hr_ (by decide)
                    · rw [if_neg c52] at H
                      have c52b0 : decide (t1063 < 0) = false := decide_eq_false c52
                      clear c52
                      by_cases c53 : t1063 = t1051
                      · rw [if_pos c53] at H
                        have c53b0 : (t1063 == t1051) = true := beq_iff_eq.mpr c53
                        have c53b1 : (t1063 != t1051) = false := bne_eq_false_iff_eq.mpr c53
                        clear c53
                        obtain rfl := Option.some.inj H
                        go_wp2_with (first | ((with_reducible refine gate_callee (f := 24) rfl ?_); refine goesL_ (some 45) rfl rfl Try.func24 (by kernel_rfl) rfl #[.slice Ao32 t1038.length co32, .int .i64 1] rfl arr_ ?_; (with_reducible refine (laws_markIntS.calls kj16 (fun k_ => some k_ = (.slice Ao32 t1038.length co32 : Value).ownBlock) (.slice Ao32 t1038.length co32) t1038 1 t1051 t1052 w _ ?side1 ?side2 A43.out).mono ?_); (case side1 => repeat (first | (with_reducible first | exact HB.out | apply below_alloc | apply pw_below_drewN | apply below_drew1 | refine below_set ?_ GE1022.out | refine below_set ?_ GE1037.out) | exact HB.out)); (case side2 => exact Kd.R_tight rfl HO_6.out); rintro e w54 ⟨rfl, hy0, hb, hkp⟩; refine ⟨_, rfl, ?_⟩; have n0_ := Aside0.mk (Kd.R_mono (ok' := fun k_ => some k_ ≠ (.slice Ao32 t1038.length co32 : Value).ownBlock) (Kd.R_keptB (HO_4.out) hkp (fun k_ hk_ hs_ => by first | exact (hk_) hs_ | exact hk_ hs_ | exact hk_.1 hs_ | exact hk_.2 hs_ | exact hk_.1.1 hs_ | exact hk_.1.2 hs_ | exact hk_.2.1 hs_ | exact hk_.2.2 hs_ | exact hk_.1.1.1 hs_ | exact hk_.1.1.2 hs_ | exact hk_.1.2.1 hs_ | exact hk_.1.2.2 hs_ | exact hk_.1.1.1.1 hs_ | exact hk_.1.1.1.2 hs_)) (fun k_ hk_ => by first | exact hk_.1 | (repeat (first | exact hk_ | exact hk_.1 | exact hk_.2 | exact hk_.1.1 | exact hk_.1.2 | exact hk_.2.1 | exact hk_.2.2 | exact hk_.1.1.1 | exact hk_.1.1.2 | exact hk_.1.2.1 | exact hk_.1.2.2 | exact hk_.1.1.1.1 | exact hk_.1.1.1.2 | (refine ⟨?_, ?_⟩))))); have n1_ := Aside0.mk (Kd.R_reok rfl hy0 (fun k_ e_ => HO_6.out.1 k_ e_)); have n2_ := Aside0.mk (Kd.R_mono (ok' := fun k_ => True) (Kd.R_keptB ((Kd.R_apart' HO_1038002.out (Kd.R_typed HO_6.out) (by decide))) hkp (fun k_ hk_ hs_ => by first | exact (hk_.2) hs_ | exact hk_ hs_ | exact hk_.1 hs_ | exact hk_.2 hs_ | exact hk_.1.1 hs_ | exact hk_.1.2 hs_ | exact hk_.2.1 hs_ | exact hk_.2.2 hs_ | exact hk_.1.1.1 hs_ | exact hk_.1.1.2 hs_ | exact hk_.1.2.1 hs_ | exact hk_.1.2.2 hs_ | exact hk_.1.1.1.1 hs_ | exact hk_.1.1.1.2 hs_)) (fun k_ hk_ => trivial)); have n3_ := Aside0.mk (blk_kept (bk_ BK1022.out) hkp (fun hs_ => (fun e_ => (Kd.R_ne HO_6.out BK1022.out (by decide)) e_) hs_)); have n4_ := Aside0.mk (blk_kept (bk_ BK1037.out) hkp (fun hs_ => (fun e_ => (Kd.R_ne HO_6.out BK1037.out (by decide)) e_) hs_)); have n5_ := Aside0.mk (hb); clear HO_4; clear HO_6; clear HO_1038002; clear BK1022; clear BK1037; clear HB; have HO_4 := n0_; have HO_6 := n1_; have HO_1038002 := n2_; have BK1022 := n3_; have BK1037 := n4_; have HB := n5_; clear n0_ n1_ n2_ n3_ n4_ n5_; (try clear hb); (try clear hkp); (try clear hy0)) | ((with_reducible refine gate_callee (f := 25) rfl ?_); refine goesL_ (some 48) rfl rfl Try.func25 (by kernel_rfl) rfl #[.slice Ao32 t1052.length co32, .int .i64 1] rfl (by (try simp only [List.map_toArray, List.map_cons, List.map_nil]); first | done | (rw [show t1052.length = t1038.length from (Kd.R_reads' HO_6.out).1.symm] <;> rfl) | rfl | (simp only [List.length_drop, List.length_take]; rfl)) ?_; (with_reducible refine (laws_heldIntS.calls kj16 _ _ t1052 1 t1053 _ ?side1 ?side2 A44.out).mono ?_); (case side1 => repeat (first | exact (Kd.R_reads' HO_6.out).2.2 | (with_reducible refine Kd.C_alloc ?_ _) | (with_reducible refine Kd.C_drewN ?_ _) | (with_reducible refine Kd.C_drew ?_))); (case side2 => rw [show t1052.length = t1038.length from (Kd.R_reads' HO_6.out).1.symm]; exact (Kd.R_reads' HO_6.out).2.1); rintro e w' ⟨rfl, ⟨nd, rfl⟩⟩; refine ⟨_, rfl, ?_⟩; have hnb55 := NB1022_1037.out; have hnc55 := NB1037_1022.out; have hcz56_0 := bc_ BK1022.out 0 (.int .i64 a0_0) rfl; have hcz56_1 := bc_ BK1022.out 1 (.int .i64 a0_1) rfl; have hcz56_2 := bc_ BK1022.out 2 (.slice A0_2 l0_2.length c0_2) rfl; have hfz56_0 := blk_frozen BK1022.out 0; have hfz56_1 := blk_frozen BK1022.out 1; have hfz56_2 := blk_frozen BK1022.out 2) | ((with_reducible refine gate_callee (f := 13) rfl ?_); refine goesL_ (some 55) rfl rfl Try.func13 (by kernel_rfl) rfl #[.agg #[.int .i64 a0_0, .int .i64 a0_1, .slice A0_2 l0_2.length c0_2]] rfl arr_ ?_; (with_reducible refine (laws_toPlan.calls kj16 a0_0 a0_1 _ _ l0_2 t1054 t1055 t1056 _ ?side1 ?side2 A47.out).mono ?_); (case side1 => repeat (first | exact (Kd.C_below HR0_2.out (hb2_ HB.out GE1022.out GE1037.out)) | (with_reducible refine Kd.C_alloc ?_ _) | (with_reducible refine Kd.C_drewN ?_ _) | (with_reducible refine Kd.C_drew ?_))); (case side2 => exact HC0_2.out); rintro e w57 ⟨v1057, rfl, ho0, hb⟩; refine ⟨_, rfl, ?_⟩; have n0_ := Aside0.mk (Kd.R_below (by (with_reducible repeat (first | apply Kd.R_alloc | apply Kd.R_drewN | apply Kd.R_drew)); exact HO_4.out) hb); have n1_ := Aside0.mk (Kd.R_below (by (with_reducible repeat (first | apply Kd.R_alloc | apply Kd.R_drewN | apply Kd.R_drew)); exact HO_6.out) hb); have n2_ := Aside0.mk (Kd.R_elder' (by (with_reducible repeat (first | apply Kd.R_alloc | apply Kd.R_drewN | apply Kd.R_drew)); exact HO_1038002.out) (Kd.R_base ho0) hb); have n3_ := Aside0.mk (Kd.R_lower (Kd.R_new' ho0 (Kd.R_lt (by (with_reducible repeat (first | apply Kd.R_alloc | apply Kd.R_drewN | apply Kd.R_drew)); exact HO_1038002.out))) (below_size (hb2_ HB.out GE1022.out GE1037.out))); have n4_ := Aside0.mk (bb_ BK1022.out hb); have n5_ := Aside0.mk (bb_ BK1037.out hb); have n6_ := Aside0.mk (below_step (hb2_ HB.out GE1022.out GE1037.out) hb); clear HO_4; clear HO_6; clear HO_1038002; clear BK1022; clear BK1037; clear HB; have HO_4 := n0_; have HO_6 := n1_; have HO_1038002 := n2_; have HO1058 := n3_; have BK1022 := n4_; have BK1037 := n5_; have HB := n6_; clear n0_ n1_ n2_ n3_ n4_ n5_ n6_; (try clear hb); (try clear hb2); (try clear hk); (try clear hi); (try clear ho0); obtain ⟨Ao58, co58, eo58⟩ := Kd.R_slice HO1058.out; subst eo58) | ((with_reducible refine gate_callee (f := 36) rfl ?_); refine goesL_ (some 56) rfl rfl Try.func36 (by kernel_rfl) rfl #[.agg #[.int .i64 t1054, .int .i64 t1055, .slice Ao58 t1056.length co58]] rfl arr_ ?_; (with_reducible refine (impl_OwnersOf.calls kj16 t1054 t1055 _ _ t1056 t1059 _ ?side1 ?side2 A48.out).mono ?_); (case side1 => repeat (first | exact (Kd.R_reads' HO1058.out).2.2 | (with_reducible refine Kd.C_alloc ?_ _) | (with_reducible refine Kd.C_drewN ?_ _) | (with_reducible refine Kd.C_drew ?_))); (case side2 => exact (Kd.R_reads' HO1058.out).2.1); rintro e w59 ⟨v1060, rfl, ho0, hb⟩; refine ⟨_, rfl, ?_⟩; have n0_ := Aside0.mk (Kd.R_elder' (by (with_reducible repeat (first | apply Kd.R_alloc | apply Kd.R_drewN | apply Kd.R_drew)); exact HO_4.out) (Kd.R_base ho0) hb); have n1_ := Aside0.mk (Kd.R_elder' (by (with_reducible repeat (first | apply Kd.R_alloc | apply Kd.R_drewN | apply Kd.R_drew)); exact HO_6.out) (Kd.R_base ho0) hb); have n2_ := Aside0.mk (Kd.R_below (by (with_reducible repeat (first | apply Kd.R_alloc | apply Kd.R_drewN | apply Kd.R_drew)); exact HO_1038002.out) hb); have n3_ := Aside0.mk (Kd.R_below (by (with_reducible repeat (first | apply Kd.R_alloc | apply Kd.R_drewN | apply Kd.R_drew)); exact HO1058.out) hb); have n4_ := Aside0.mk (Kd.R_lower (Kd.R_new' (Kd.R_new' ho0 (Kd.R_lt (by (with_reducible repeat (first | apply Kd.R_alloc | apply Kd.R_drewN | apply Kd.R_drew)); exact HO_4.out))) (Kd.R_lt (by (with_reducible repeat (first | apply Kd.R_alloc | apply Kd.R_drewN | apply Kd.R_drew)); exact HO_6.out))) (below_size (hb2_ HB.out GE1022.out GE1037.out))); have n5_ := Aside0.mk (bb_ BK1022.out hb); have n6_ := Aside0.mk (bb_ BK1037.out hb); have n7_ := Aside0.mk (below_step (hb2_ HB.out GE1022.out GE1037.out) hb); clear HO_4; clear HO_6; clear HO_1038002; clear HO1058; clear BK1022; clear BK1037; clear HB; have HO_4 := n0_; have HO_6 := n1_; have HO_1038002 := n2_; have HO1058 := n3_; have HO1061 := n4_; have BK1022 := n5_; have BK1037 := n6_; have HB := n7_; clear n0_ n1_ n2_ n3_ n4_ n5_ n6_ n7_; (try clear hb); (try clear hb2); (try clear hk); (try clear hi); (try clear ho0); obtain ⟨Ao60, co60, eo60⟩ := Kd.R_slice HO1061.out; subst eo60) | ((with_reducible refine gate_callee (f := 23) rfl ?_); refine goesL_ (some 59) rfl rfl Try.func23 (by kernel_rfl) rfl #[.slice Ao60 t1059.length co60, .slice Ao33 t1029.length co33] rfl arr_ ?_; (with_reducible refine (laws_eqIntS.calls kj16 _ _ t1059 _ _ t1029 true _ ?side1 ?side2 ?side3 ?side4 A49.out).mono ?_); (case side1 => repeat (first | exact (Kd.R_reads' HO1061.out).2.2 | (with_reducible refine Kd.C_alloc ?_ _) | (with_reducible refine Kd.C_drewN ?_ _) | (with_reducible refine Kd.C_drew ?_))); (case side2 => exact (Kd.R_reads' HO1061.out).2.1); (case side3 => repeat (first | exact (Kd.R_reads' HO_4.out).2.2 | (with_reducible refine Kd.C_alloc ?_ _) | (with_reducible refine Kd.C_drewN ?_ _) | (with_reducible refine Kd.C_drew ?_))); (case side4 => exact (Kd.R_reads' HO_4.out).2.1); rintro e w' ⟨rfl, ⟨nd, rfl⟩⟩; refine ⟨_, rfl, ?_⟩) | ((with_reducible refine gate_callee (f := 25) rfl ?_); refine goesL_ (some 63) rfl rfl Try.func25 (by kernel_rfl) rfl #[.slice Ao32 t1052.length co32, .int .i64 1] rfl (by (try simp only [List.map_toArray, List.map_cons, List.map_nil]); first | done | (rw [show t1052.length = t1038.length from (Kd.R_reads' HO_6.out).1.symm] <;> rfl) | rfl | (simp only [List.length_drop, List.length_take]; rfl)) ?_; (with_reducible refine (laws_heldIntS.calls kj16 _ _ t1052 1 t1063 _ ?side1 ?side2 A51.out).mono ?_); (case side1 => repeat (first | exact (Kd.R_reads' HO_6.out).2.2 | (with_reducible refine Kd.C_alloc ?_ _) | (with_reducible refine Kd.C_drewN ?_ _) | (with_reducible refine Kd.C_drew ?_))); (case side2 => rw [show t1052.length = t1038.length from (Kd.R_reads' HO_6.out).1.symm]; exact (Kd.R_reads' HO_6.out).2.1); rintro e w' ⟨rfl, ⟨nd, rfl⟩⟩; refine ⟨_, rfl, ?_⟩))
                        go_ret
                        exact ⟨er_, hb2_ HB.out GE1022.out GE1037.out⟩
                      · rw [if_neg c53] at H
                        have c53b0 : (t1063 == t1051) = false := beq_eq_false_iff_ne.mpr c53
                        have c53b1 : (t1063 != t1051) = true := bne_iff_ne.mpr c53
                        obtain rfl := Option.some.inj H
                        exact absurd hr_ (by decide)
                  · replace c50 := Bool.eq_false_iff.mpr c50
                    subst c50
                    have H1 : (some false) = some r := by rw [if_neg (show ¬ (false = true) by decide)] at H; exact H
                    clear H
                    have H := H1
                    clear H1
                    obtain rfl := Option.some.inj H
                    exact absurd hr_ (by decide)
                · rw [if_neg c46] at H
                  have c46b0 : (t1053 == t1051) = false := beq_eq_false_iff_ne.mpr c46
                  have c46b1 : (t1053 != t1051) = true := bne_iff_ne.mpr c46
                  obtain rfl := Option.some.inj H
                  exact absurd hr_ (by decide)
      · replace c15 := Bool.eq_false_iff.mpr c15
        subst c15
        have H1 : (some false) = some r := by rw [if_neg (show ¬ (false = true) by decide)] at H; exact H
        clear H
        have H := H1
        clear H1
        obtain rfl := Option.some.inj H
        exact absurd hr_ (by decide)
    · replace c12 := Bool.eq_false_iff.mpr c12
      subst c12
      have H1 : (some false) = some r := by rw [if_neg (show ¬ (false = true) by decide)] at H; exact H
      clear H
      have H := H1
      clear H1
      obtain rfl := Option.some.inj H
      exact absurd hr_ (by decide)
end Go.Proofs.Ytpjahhljpoeaeaa.P
namespace Go.Proofs.Ytpjahhljpoeaeaa.G
open Go.RowKit Go.Proofs.YtpjahhljpoeaeaaW.PrintWords
theorem wrap_id {x : Int} (h1 : -9223372036854775808 ≤ x) (h2 : x ≤ 9223372036854775807) : wrap64 x = x := by unfold wrap64; omega
theorem wrap_succ {i n : Nat} (h : i < n) (hn : n ≤ 9223372036854775807) : wrap64 ((i : Int) + 1) = ((i + 1 : Nat) : Int) := by unfold wrap64; omega
theorem all_loop {n : Nat} {L : Nat → Int → Option Bool} {Q : Nat → Bool} {e : Bool}
    (hs : ∀ k i, i < n → L (k + 1) (i : Int) = if Q i = true then L k ((i + 1 : Nat) : Int) else some false)
    (he : ∀ k, L (k + 1) (n : Int) = some e) :
    ∀ d i k, i + d = n → d < k → L k (i : Int) = some ((List.range' i d).all Q && e) := by
  intro d
  induction d with
  | zero =>
    intro i k h hk
    obtain ⟨k, rfl⟩ : ∃ m, k = m + 1 := ⟨k - 1, by omega⟩
    obtain rfl : i = n := by omega
    rw [he]; simp
  | succ d ih =>
    intro i k h hk
    obtain ⟨k, rfl⟩ : ∃ m, k = m + 1 := ⟨k - 1, by omega⟩
    rw [hs k i (by omega)]
    rw [List.range'_succ]
    cases hq : Q i with
    | true => rw [if_pos rfl, ih (i + 1) k (by omega) (by omega)]; simp [hq]
    | false => simp [hq]
theorem all_loop0 {n : Nat} {L : Nat → Int → Option Bool} {Q : Nat → Bool} {e : Bool}
    (hs : ∀ k i, i < n → L (k + 1) (i : Int) = if Q i = true then L k ((i + 1 : Nat) : Int) else some false)
    (he : ∀ k, L (k + 1) (n : Int) = some e) (k : Nat) (hk : n < k) : L k 0 = some ((List.range n).all Q && e) := by
  have := all_loop hs he n 0 k (by omega) hk
  rw [List.range_eq_range']
  exact this
theorem all_loopT {n : Nat} {L : Nat → Int → Option Bool}
    (hs : ∀ k i, i < n → L (k + 1) (i : Int) = L k ((i + 1 : Nat) : Int)) (he : ∀ k, L (k + 1) (n : Int) = some true) (k : Nat) (hk : n < k) : L k 0 = some true := by
  have := all_loop0 (Q := fun _ => true) (e := true) (fun k i hi => by rw [if_pos rfl]; exact hs k i hi) he k hk
  rw [this]
  simp [List.all_eq_true]
def found {ρ : Type} (Q : Nat → Bool) (r : Nat → ρ) (e : ρ) (is : List Nat) : ρ := match is.find? Q with
  | some j => r j
  | none => e
theorem find_loop {n : Nat} {ρ : Type} {L : Nat → Int → Option ρ} {Q : Nat → Bool} {r : Nat → ρ} {e : ρ} {c : Nat}
    (hs : ∀ k i, i < n → c ≤ k → L (k + 1) (i : Int) = if Q i = true then some (r i) else L k ((i + 1 : Nat) : Int))
    (he : ∀ k, L (k + 1) (n : Int) = some e) :
    ∀ d i k, i + d = n → d + c < k → L k (i : Int) = some (found Q r e (List.range' i d)) := by
  intro d
  induction d with
  | zero =>
    intro i k h hk
    obtain ⟨k, rfl⟩ : ∃ m, k = m + 1 := ⟨k - 1, by omega⟩
    obtain rfl : i = n := by omega
    rw [he]; rfl
  | succ d ih =>
    intro i k h hk
    obtain ⟨k, rfl⟩ : ∃ m, k = m + 1 := ⟨k - 1, by omega⟩
    rw [hs k i (by omega) (by omega), List.range'_succ]
    unfold found
    cases hq : Q i with
    | true => simp [List.find?, hq]
    | false =>
      rw [if_neg (by simp), ih (i + 1) k (by omega) (by omega)]
      simp [List.find?, hq, found]
theorem find_loop0 {n : Nat} {ρ : Type} {L : Nat → Int → Option ρ} {Q : Nat → Bool} {r : Nat → ρ} {e : ρ} {c : Nat}
    (hs : ∀ k i, i < n → c ≤ k → L (k + 1) (i : Int) = if Q i = true then some (r i) else L k ((i + 1 : Nat) : Int))
    (he : ∀ k, L (k + 1) (n : Int) = some e) (k : Nat) (hk : n + c < k) : L k 0 = some (found Q r e (List.range n)) := by
  have := find_loop hs he n 0 k (by omega) hk
  rw [List.range_eq_range']
  exact this
theorem found_none {ρ : Type} {Q : Nat → Bool} {r : Nat → ρ} {e : ρ} {n : Nat} (h : ∀ i, i < n → Q i = false) : found Q r e (List.range n) = e := by
  unfold found
  have : (List.range n).find? Q = none := by
    rw [List.find?_eq_none]; intro i hi; rw [h i (List.mem_range.1 hi)]; simp
  rw [this]
theorem found_some {ρ : Type} {Q : Nat → Bool} {r : Nat → ρ} {e : ρ} {n j : Nat} (hj : j < n) (hq : Q j = true) (h : ∀ i, i < j → Q i = false) : found Q r e (List.range n) = r j := by
  unfold found
  have : (List.range n).find? Q = some j := by
    rw [List.find?_range_eq_some]; exact ⟨hq, List.mem_range.2 hj, fun i hi => by rw [h i hi]; rfl⟩
  rw [this]
theorem first_of {Q : Nat → Bool} : ∀ n, (∃ j, j < n ∧ Q j = true ∧ ∀ i, i < j → Q i = false) ∨ ∀ i, i < n → Q i = false := by
  intro n
  induction n with
  | zero => right; intro i hi; omega
  | succ n ih =>
    rcases ih with ⟨j, h1, h2, h3⟩ | h
    · left; exact ⟨j, by omega, h2, h3⟩
    · cases hq : Q n with
      | true => left; exact ⟨n, by omega, hq, h⟩
      | false => right; intro i hi; rcases Nat.lt_or_ge i n with c | c
                 · exact h i c
                 · obtain rfl : i = n := by omega
                   exact hq
theorem track_loop {n : Nat} {σ ρ : Type} {L : Nat → σ → Int → Option ρ} {F : Nat → σ} {r : ρ} {c : Nat}
    (hs : ∀ k i, i < n → c ≤ k → L (k + 1) (F i) (i : Int) = L k (F (i + 1)) ((i + 1 : Nat) : Int))
    (he : ∀ k, c ≤ k → L (k + 1) (F n) (n : Int) = some r) :
    ∀ d i k, i + d = n → d + c < k → L k (F i) (i : Int) = some r := by
  intro d
  induction d with
  | zero =>
    intro i k h hk
    obtain ⟨k, rfl⟩ : ∃ m, k = m + 1 := ⟨k - 1, by omega⟩
    obtain rfl : i = n := by omega
    exact he k (by omega)
  | succ d ih =>
    intro i k h hk
    obtain ⟨k, rfl⟩ : ∃ m, k = m + 1 := ⟨k - 1, by omega⟩
    rw [hs k i (by omega) (by omega)]
    exact ih (i + 1) k (by omega) (by omega)
theorem track_loop0 {n : Nat} {σ ρ : Type} {L : Nat → σ → Int → Option ρ} {F : Nat → σ} {r : ρ} {c : Nat}
    (hs : ∀ k i, i < n → c ≤ k → L (k + 1) (F i) (i : Int) = L k (F (i + 1)) ((i + 1 : Nat) : Int))
    (he : ∀ k, c ≤ k → L (k + 1) (F n) (n : Int) = some r) (k : Nat) (hk : n + c < k) : L k (F 0) 0 = some r :=
  track_loop hs he n 0 k (by omega) hk
theorem to_loop {α β : Type} {l : List α} {c : α → β} {z : β} {L : Nat → List β → Int → Option (List β)}
    (hs : ∀ k acc i (hi : i < l.length), acc.length = l.length → L (k + 1) acc (i : Int) = L k (acc.set i (c l[i])) ((i + 1 : Nat) : Int))
    (he : ∀ k acc, acc.length = l.length → L (k + 1) acc (l.length : Int) = some acc) :
    ∀ d i k, i + d = l.length → d < k → L k ((l.take i).map c ++ List.replicate d z) (i : Int) = some (l.map c) := by
  intro d
  induction d with
  | zero =>
    intro i k h hk
    obtain ⟨k, rfl⟩ : ∃ m, k = m + 1 := ⟨k - 1, by omega⟩
    obtain rfl : i = l.length := by omega
    rw [he _ _ (by simp)]; simp
  | succ d ih =>
    intro i k h hk
    obtain ⟨k, rfl⟩ : ∃ m, k = m + 1 := ⟨k - 1, by omega⟩
    have hi : i < l.length := by omega
    rw [hs _ _ i hi (by simp; omega), ← ih (i + 1) k (by omega) (by omega)]
    congr 1
    have hl : ((l.take i).map c).length = i := by simp; omega
    rw [List.set_append, if_neg (by omega), hl, Nat.sub_self, List.replicate_succ, List.set_cons_zero, List.take_succ_eq_append_getElem hi, List.map_append, List.append_assoc]
    rfl
theorem to_loop0 {α β : Type} {l : List α} {c : α → β} {z : β} {L : Nat → List β → Int → Option (List β)}
    (hs : ∀ k acc i (hi : i < l.length), acc.length = l.length → L (k + 1) acc (i : Int) = L k (acc.set i (c l[i])) ((i + 1 : Nat) : Int))
    (he : ∀ k acc, acc.length = l.length → L (k + 1) acc (l.length : Int) = some acc) (k : Nat) (hk : l.length < k) : L k (List.replicate l.length z) 0 = some (l.map c) := by
  have := to_loop hs he l.length 0 k (by omega) hk (z := z)
  simpa using this
theorem all_iff {n : Nat} {Q : Nat → Bool} : (List.range n).all Q = true ↔ ∀ i, i < n → Q i = true := by
  rw [List.all_eq_true]; exact ⟨fun h i hi => h i (List.mem_range.2 hi), fun h i hi => h i (List.mem_range.1 hi)⟩
theorem mark_loop {α ρ : Type} {l : List α} {f : Nat → α} {w : Nat → Int} {L : Nat → List α → Int → Int → Option ρ} {fin : List α → ρ} {c : Nat}
    (hs : ∀ k i acc, i < l.length → acc.length = l.length → c ≤ k → L (k + 1) acc (w i) (i : Int) = L k (acc.set i (f i)) (w (i + 1)) ((i + 1 : Nat) : Int))
    (he : ∀ k acc, acc.length = l.length → L (k + 1) acc (w l.length) (l.length : Int) = some (fin acc)) :
    ∀ d i k, i + d = l.length → d + c < k → L k ((List.range i).map f ++ l.drop i) (w i) (i : Int) = some (fin ((List.range l.length).map f)) := by
  intro d
  induction d with
  | zero =>
    intro i k h hk
    obtain ⟨k, rfl⟩ : ∃ m, k = m + 1 := ⟨k - 1, by omega⟩
    obtain rfl : i = l.length := by omega
    rw [he _ _ (by simp)]; simp
  | succ d ih =>
    intro i k h hk
    obtain ⟨k, rfl⟩ : ∃ m, k = m + 1 := ⟨k - 1, by omega⟩
    have hi : i < l.length := by omega
    rw [hs _ _ _ hi (by simp; omega) (by omega), ← ih (i + 1) k (by omega) (by omega)]
    congr 1
    have hl : ((List.range i).map f).length = i := by simp
    rw [List.set_append, if_neg (by omega), hl, Nat.sub_self, List.drop_eq_getElem_cons hi, List.set_cons_zero, List.range_succ, List.map_append, List.append_assoc]
    rfl
theorem mark_loop0 {α ρ : Type} {l : List α} {f : Nat → α} {w : Nat → Int} {L : Nat → List α → Int → Int → Option ρ} {fin : List α → ρ} {c : Nat}
    (hs : ∀ k i acc, i < l.length → acc.length = l.length → c ≤ k → L (k + 1) acc (w i) (i : Int) = L k (acc.set i (f i)) (w (i + 1)) ((i + 1 : Nat) : Int))
    (he : ∀ k acc, acc.length = l.length → L (k + 1) acc (w l.length) (l.length : Int) = some (fin acc)) (k : Nat) (hk : l.length + c < k) :
    L k l (w 0) 0 = some (fin ((List.range l.length).map f)) := by
  have := mark_loop hs he l.length 0 k (by omega) hk
  simpa using this
end Go.Proofs.Ytpjahhljpoeaeaa.G
namespace Go.Proofs.Ytpjahhljpoeaeaa.C
open Go.RowKit Go.Proofs.Ytpjahhljpoeaeaa.P Go.Proofs.Ytpjahhljpoeaeaa.G Go.Proofs.YtpjahhljpoeaeaaW.PrintWords
def Asc (l : List Int) : Prop := l.Pairwise (· ≤ ·)
def Ascs (l : List Int) : Prop := l.Pairwise (· < ·)
theorem rdm (A D : List Int) (a : Int) : rd (A ++ a :: D) (A.length : Int) = a := by unfold rd; simp [List.getD]
theorem rdm1 (A D : List Int) (a v : Int) : rd (A ++ a :: v :: D) ((A.length + 1 : Nat) : Int) = v := by
  have := rdm (A ++ [a]) D v
  simpa using this
theorem setm (A D : List Int) (a v : Int) : ((A ++ a :: v :: D).set (A.length + 1) a).set A.length v = A ++ v :: a :: D := by
  induction A with
  | nil => rfl
  | cons x A ih => simp only [List.cons_append, List.length_cons, List.set_cons_succ]; rw [ih]
theorem less_int (a b : Int) : cmp_Less_int.f a b = some (decide (a < b)) := by
  unfold cmp_Less_int.f cmp_isNaN_int.f
  simp
theorem ins_in (N : Nat) (hN : N ≤ 1000) : ∀ (n : Nat) (A B C : List Int) (v x6 : Int), A.length = n → (A ++ v :: (B ++ C)).length = N → Asc (A ++ B) → (∀ b ∈ B, v < b) → ∃ S : List Int, S.Perm (v :: (A ++ B)) ∧ Asc S ∧
    ∀ (k c : Nat) (r : Option (List Int)), n + c < k → (∀ k', c ≤ k' → slices_insertionSortOrdered_int.l0 k' (S ++ C) 0 (N : Int) (wrap64 (x6 + 1)) = r) → slices_insertionSortOrdered_int.l1 k (A ++ v :: (B ++ C)) 0 (N : Int) x6 (n : Int) = r := by
  intro n
  induction n with
  | zero =>
    intro A B C v x6 hA hl hs hv
    obtain rfl : A = [] := List.eq_nil_of_length_eq_zero hA
    refine ⟨v :: B, by simp, ?_, fun k c r hk h => ?_⟩
    · unfold Asc at hs ⊢
      rw [List.pairwise_cons]
      exact ⟨fun b hb => by have := hv b hb; omega, by simpa using hs⟩
    · obtain ⟨k, rfl⟩ : ∃ m, k = m + 1 := ⟨k - 1, by omega⟩
      simp only [slices_insertionSortOrdered_int.l1]
      rw [if_neg (by omega)]
      exact h k (by omega)
  | succ n ih =>
    intro A B C v x6 hA hl hs hv
    obtain ⟨A', a, rfl⟩ : ∃ A' a, A = A' ++ [a] := by
      rcases List.eq_nil_or_concat A with h | ⟨A', a, h⟩
      · rw [h] at hA; simp at hA
      · exact ⟨A', a, by rw [h]; simp⟩
    have hA' : A'.length = n := by simpa using hA
    have hlen : A'.length + (B ++ C).length + 2 = N := by rw [← hl]; simp; omega
    have e0 : (A' ++ [a]) ++ v :: (B ++ C) = A' ++ a :: v :: (B ++ C) := by simp
    by_cases hav : v < a
    · obtain ⟨S, s1, s2, s3⟩ := ih A' (a :: B) C v x6 hA' (by simp at hlen ⊢; omega) (by simpa using hs) (fun b hb => by
        rcases List.mem_cons.1 hb with rfl | hb
        · exact hav
        · exact hv b hb)
      refine ⟨S, by simpa using s1, s2, fun k c r hk h => ?_⟩
      obtain ⟨k, rfl⟩ : ∃ m, k = m + 1 := ⟨k - 1, by omega⟩
      simp only [slices_insertionSortOrdered_int.l1]
      have w1 : wrap64 (((n + 1 : Nat) : Int) - 1) = (n : Int) := by rw [wrap_id (by omega) (by omega)]; omega
      have l1 : (A' ++ a :: v :: (B ++ C)).length = N := by simp at hlen ⊢; omega
      rw [e0, w1, if_pos (by omega), if_pos (by omega), if_pos (by omega), if_pos (by omega), if_pos (by omega)]
      rw [← hA', rdm1, rdm, less_int, Option.bind_some, decide_eq_true hav, if_pos rfl, Int.toNat_natCast, Int.toNat_natCast, setm]
      have := s3 k c r (by omega) h
      rw [← hA'] at this
      simpa using this
    · refine ⟨A' ++ a :: v :: B, ?_, ?_, fun k c r hk h => ?_⟩
      · have : (A' ++ a :: v :: B) = (A' ++ [a]) ++ (v :: B) := by simp
        rw [this]
        exact List.perm_middle
      · unfold Asc at hs ⊢
        have h1 : (A' ++ a :: B).Pairwise (· ≤ ·) := by simpa using hs
        rw [List.pairwise_append] at h1 ⊢
        obtain ⟨p1, p2, p3⟩ := h1
        rw [List.pairwise_cons] at p2
        refine ⟨p1, ?_, ?_⟩
        · rw [List.pairwise_cons, List.pairwise_cons]
          exact ⟨fun b hb => by
            rcases List.mem_cons.1 hb with rfl | hb
            · omega
            · exact p2.1 b hb, fun b hb => by have := hv b hb; omega, p2.2⟩
        · intro x hx b hb
          rcases List.mem_cons.1 hb with rfl | hb
          · exact p3 x hx b (by simp)
          · rcases List.mem_cons.1 hb with rfl | hb
            · have := p3 x hx a (by simp); omega
            · exact p3 x hx b (by simp [hb])
      · obtain ⟨k, rfl⟩ : ∃ m, k = m + 1 := ⟨k - 1, by omega⟩
        simp only [slices_insertionSortOrdered_int.l1]
        have w1 : wrap64 (((n + 1 : Nat) : Int) - 1) = (n : Int) := by rw [wrap_id (by omega) (by omega)]; omega
        have l1 : (A' ++ a :: v :: (B ++ C)).length = N := by simp at hlen ⊢; omega
        rw [e0, w1, if_pos (by omega), if_pos (by omega), if_pos (by omega), if_pos (by omega), if_pos (by omega)]
        rw [← hA', rdm1, rdm, less_int, Option.bind_some, decide_eq_false hav, if_neg (by decide)]
        have := h k (by omega)
        simpa using this
theorem ins_out (N : Nat) (hN : N ≤ 1000) : ∀ (d : Nat) (S C : List Int), C.length = d → S.length + d = N → S ≠ [] → Asc S → ∃ r : List Int, r.Perm (S ++ C) ∧ Asc r ∧ ∀ k, (N + 2) * (d + 1) < k → slices_insertionSortOrdered_int.l0 k (S ++ C) 0 (N : Int) (S.length : Int) = some r := by
  intro d
  induction d with
  | zero =>
    intro S C hC hl hne hs
    obtain rfl : C = [] := List.eq_nil_of_length_eq_zero hC
    refine ⟨S, by simp, hs, fun k hk => ?_⟩
    obtain ⟨k, rfl⟩ : ∃ m, k = m + 1 := ⟨k - 1, by omega⟩
    simp only [slices_insertionSortOrdered_int.l0]
    rw [if_neg (by omega), List.append_nil]
  | succ d ih =>
    intro S C hC hl hne hs
    obtain ⟨v, C, rfl⟩ : ∃ v C', C = v :: C' := by cases C with | nil => simp at hC | cons v C => exact ⟨v, C, rfl⟩
    have hC' : C.length = d := by simpa using hC
    obtain ⟨T, t1, t2, t3⟩ := ins_in N hN S.length S [] C v (S.length : Int) rfl (by simp; omega) (by simpa using hs) (by simp)
    have tl : T.length = S.length + 1 := by have := t1.length_eq; simpa using this
    obtain ⟨r, r1, r2, r3⟩ := ih T C hC' (by omega) (by intro h; rw [h] at tl; simp at tl) t2
    refine ⟨r, r1.trans ?_, r2, fun k hk => ?_⟩
    · refine (List.Perm.append_right C t1).trans ?_
      simpa using List.perm_middle.symm
    · obtain ⟨k, rfl⟩ : ∃ m, k = m + 1 := ⟨k - 1, by omega⟩
      simp only [slices_insertionSortOrdered_int.l0]
      have e1 : (N + 2) * (d + 1 + 1) = (N + 2) * (d + 1) + (N + 2) := by rw [Nat.mul_succ]
      rw [if_pos (by omega)]
      have := t3 k ((N + 2) * (d + 1) + 1) (some r) (by omega) (fun k' hk' => ?_)
      · simpa using this
      · rw [show wrap64 ((S.length : Int) + 1) = (T.length : Int) by rw [wrap_id (by omega) (by omega)]; omega]
        exact r3 k' (by omega)
theorem sort_short (l : List Int) (hl : l.length ≤ 12) (k : Nat) (hk : 1000 ≤ k) : ∃ r : List Int, slices_Sort_int.f k l = some r ∧ r.Perm l ∧ Asc r := by
  have hw : IntKind.u64.wrap (l.length : Int) = (l.length : Int) := by unfold IntKind.wrap; simp [IntKind.bits]; omega
  have hlen : ∃ t, bits_Len.f (l.length : Int) = some t := by
    unfold bits_Len.f; rw [if_pos (by omega), if_pos (by omega)]; exact ⟨_, rfl⟩
  obtain ⟨t, ht⟩ := hlen
  obtain ⟨k, rfl⟩ : ∃ m, k = m + 2 := ⟨k - 2, by omega⟩
  have hw2 : wrap64 ((l.length : Int) - 0) = (l.length : Int) := by rw [Int.sub_zero, wrap_id (by omega) (by omega)]
  have hw3 : wrap64 ((0 : Int) + 1) = 1 := by rw [wrap_id (by omega) (by omega)]; rfl
  have key : ∃ r : List Int, slices_insertionSortOrdered_int.f k l 0 (l.length : Int) = some r ∧ r.Perm l ∧ Asc r := by
    unfold slices_insertionSortOrdered_int.f
    rw [hw3]
    cases l with
    | nil =>
      obtain ⟨k, rfl⟩ : ∃ m, k = m + 1 := ⟨k - 1, by omega⟩
      refine ⟨[], ?_, List.Perm.refl _, List.Pairwise.nil⟩
      simp [slices_insertionSortOrdered_int.l0]
    | cons v C =>
      obtain ⟨r, r1, r2, r3⟩ := ins_out (v :: C).length (by omega) C.length [v] C rfl (by simp; omega) (by simp) (by unfold Asc; simp)
      refine ⟨r, ?_, by simpa using r1, r2⟩
      refine r3 k ?_
      have : (C.length + 1 + 2) * (C.length + 1) ≤ 15 * 13 := Nat.mul_le_mul (by simp at hl; omega) (by simp at hl; omega)
      simp only [List.length_cons]; omega
  obtain ⟨r, h1, h2, h3⟩ := key
  refine ⟨r, ?_, h2, h3⟩
  unfold slices_Sort_int.f
  rw [hw, ht, Option.bind_some]
  simp only [slices_pdqsortOrdered_int.f, slices_pdqsortOrdered_int.l0]
  rw [hw2, if_pos (by omega), h1]
  rfl
theorem compact_asc {l : List Int} (h : Asc l) : Ascs (Go.Lib.compact l) ∧ ∀ x, x ∈ Go.Lib.compact l ↔ x ∈ l := by
  have get : ∀ i (hi : i < l.length), l.toArray[i]! = l[i] := fun i hi => by simp [getElem!_pos, hi]
  have le : ∀ i j (hj : j < l.length) (hij : i ≤ j), l[i]'(by omega) ≤ l[j] := by
    intro i j hj hij
    rcases Nat.lt_or_ge i j with c | c
    · exact List.pairwise_iff_getElem.1 h i j (by omega) hj c
    · obtain rfl : i = j := by omega
      exact Int.le_refl _
  unfold Go.Lib.compact Go.Lib.compactUpTo
  constructor
  · unfold Ascs
    rw [List.pairwise_map]
    have hp : ((List.range l.length).filter (Go.Lib.keeps l.toArray)).Pairwise (· < ·) := List.Pairwise.filter _ List.pairwise_lt_range
    refine List.Pairwise.imp_of_mem (fun {i j} hi hj hij => ?_) hp
    rw [List.mem_filter, List.mem_range] at hi hj
    have hk := hj.2
    unfold Go.Lib.keeps at hk
    rw [decide_eq_true_iff] at hk
    rw [get i hi.1, get j hj.1]
    rcases hk with hk | hk
    · omega
    · rw [get j hj.1, get (j - 1) (by omega)] at hk
      have h1 := le i (j - 1) (by omega) (by omega)
      have h2 := le (j - 1) j hj.1 (by omega)
      omega
  · intro x
    constructor
    · intro hx
      obtain ⟨i, hi, rfl⟩ := List.mem_map.1 hx
      rw [List.mem_filter, List.mem_range] at hi
      rw [get i hi.1]
      exact List.getElem_mem hi.1
    · intro hx
      obtain ⟨j, hj, rfl⟩ := List.getElem_of_mem hx
      have key : ∀ n j (hj : j < l.length), j ≤ n → ∃ i, ∃ hi : i < l.length, Go.Lib.keeps l.toArray i = true ∧ l[i] = l[j] := by
        intro n
        induction n with
        | zero => intro j hj hn; refine ⟨j, hj, ?_, rfl⟩; unfold Go.Lib.keeps; rw [decide_eq_true_iff]; left; omega
        | succ n ih =>
          intro j hj hn
          cases hk : Go.Lib.keeps l.toArray j with
          | true => exact ⟨j, hj, hk, rfl⟩
          | false =>
            unfold Go.Lib.keeps at hk
            rw [decide_eq_false_iff_not] at hk
            have h0 : j ≠ 0 := fun e => hk (.inl e)
            have h1 : l.toArray[j]! = l.toArray[j - 1]! := by
              rcases Classical.em (l.toArray[j]! = l.toArray[j - 1]!) with c | c
              · exact c
              · exact absurd (.inr c) hk
            rw [get j hj, get (j - 1) (by omega)] at h1
            obtain ⟨i, hi, e1, e2⟩ := ih (j - 1) (by omega) (by omega)
            exact ⟨i, hi, e1, by rw [e2, h1]⟩
      obtain ⟨i, hi, e1, e2⟩ := key j j hj (Nat.le_refl _)
      exact List.mem_map.2 ⟨i, List.mem_filter.2 ⟨List.mem_range.2 hi, e1⟩, by rw [get i hi, e2]⟩
theorem ascs_eq : ∀ {a b : List Int}, Ascs a → Ascs b → (∀ x, x ∈ a ↔ x ∈ b) → a = b := by
  intro a
  induction a with
  | nil =>
    intro b _ _ h
    cases b with
    | nil => rfl
    | cons y b => have := (h y).2 (by simp); simp at this
  | cons x a ih =>
    intro b ha hb h
    cases b with
    | nil => have := (h x).1 (by simp); simp at this
    | cons y b =>
      unfold Ascs at ha hb
      rw [List.pairwise_cons] at ha hb
      have exy : x = y := by
        rcases List.mem_cons.1 ((h x).1 (by simp)) with e | e
        · exact e
        · rcases List.mem_cons.1 ((h y).2 (by simp)) with e2 | e2
          · exact e2.symm
          · have := hb.1 x e; have := ha.1 y e2; omega
      subst exy
      congr 1
      refine ih ha.2 hb.2 (fun z => ?_)
      constructor
      · intro hz
        rcases List.mem_cons.1 ((h z).1 (by simp [hz])) with e | e
        · have := ha.1 z hz; omega
        · exact e
      · intro hz
        rcases List.mem_cons.1 ((h z).2 (by simp [hz])) with e | e
        · have := hb.1 z hz; omega
        · exact e
def below8 (p : Int → Bool) : List Int := ((List.range 8).map fun (n : Nat) => (n : Int)).filter p
theorem below8_ascs (p : Int → Bool) : Ascs (below8 p) := by
  unfold below8 Ascs
  refine List.Pairwise.filter _ ?_
  rw [List.pairwise_map]
  refine List.Pairwise.imp (fun {a b} h => ?_) List.pairwise_lt_range
  omega
theorem mem_below8 (p : Int → Bool) (x : Int) : x ∈ below8 p ↔ (0 ≤ x ∧ x < 8) ∧ p x = true := by
  unfold below8
  rw [List.mem_filter, List.mem_map]
  constructor
  · rintro ⟨⟨n, hn, rfl⟩, h⟩
    rw [List.mem_range] at hn
    exact ⟨by omega, h⟩
  · rintro ⟨h1, h2⟩
    exact ⟨⟨x.toNat, List.mem_range.2 (by omega), by omega⟩, h2⟩
theorem sort_compact (l : List Int) (hl : l.length ≤ 12) (hb : ∀ x ∈ l, 0 ≤ x ∧ x < 8) (k : Nat) (hk : 1000 ≤ k) : ((slices_Sort_int.f k l).bind fun t => (slices_Compact_int.f t).bind fun u => some u) = some (below8 fun n => decide (n ∈ l)) := by
  obtain ⟨r, h1, h2, h3⟩ := sort_short l hl k hk
  rw [h1, Option.bind_some]
  unfold slices_Compact_int.f
  rw [Option.bind_some]
  have hc := compact_asc h3
  congr 1
  refine ascs_eq hc.1 (below8_ascs _) (fun x => ?_)
  rw [hc.2, mem_below8, h2.mem_iff, decide_eq_true_iff]
  exact ⟨fun h => ⟨hb x h, h⟩, fun h => h.2⟩
theorem below8_len (p : Int → Bool) : (below8 p).length ≤ 8 := by
  unfold below8; exact Nat.le_trans (List.length_filter_le _ _) (by simp)
end Go.Proofs.Ytpjahhljpoeaeaa.C
namespace Go.Proofs.Ytpjahhljpoeaeaa.C
open Go.RowKit Go.Proofs.Ytpjahhljpoeaeaa.P Go.Proofs.Ytpjahhljpoeaeaa.G
theorem l1In (a b c : Int) : spec_l1In.f a b c = some (decide (b ≤ a ∧ a ≤ c)) := by
  unfold spec_l1In.f; by_cases h : a ≥ b <;> simp [h] <;> omega
theorem in_ (a b c : Int) : impl_in.f a b c = some (decide (b ≤ a ∧ a ≤ c)) := by
  unfold impl_in.f; by_cases h : b ≤ a <;> simp [h]
theorem l2Time (a : Int) : spec_l2Time.f a = some (decide (0 ≤ a ∧ a ≤ 1000000000000)) := by
  unfold spec_l2Time.f; rw [l1In]; rfl
theorem isTime (a : Int) : impl_isTime.f a = some (decide (0 ≤ a ∧ a ≤ 1000000000000)) := by
  unfold impl_isTime.f; rw [in_]; rfl
theorem l4Node (a : Int) : spec_l4Node.f a = some (decide (0 ≤ a ∧ a ≤ 7)) := by
  unfold spec_l4Node.f; rw [l1In]; rfl
theorem isNode (a : Int) : impl_isNode.f a = some (decide (0 ≤ a ∧ a ≤ 7)) := by
  unfold impl_isNode.f; rw [in_]; rfl
abbrev Sl := S79
abbrev SlL := S113
def toSl (x : SlL) : Sl := ⟨x.f0, x.f1⟩
theorem rdSl (l : List Sl) (i : Nat) (h : i < l.length) : rd_T79 l (i : Int) = l[i] := by
  unfold rd_T79; simp [List.getD, h]
theorem rdSlL (l : List SlL) (i : Nat) (h : i < l.length) : rd_T113 l (i : Int) = l[i] := by
  unfold rd_T113; simp [List.getD, h]
theorem toSlotS (l : List SlL) (hl : l.length ≤ 1048576) (k : Nat) (hk : l.length < k) : laws_toSlotS.f k l = some (l.map toSl) := by
  unfold laws_toSlotS.f
  rw [if_pos (by omega), if_pos (by simp; omega)]
  simp only [Int.toNat_natCast]
  refine to_loop0 (L := fun k acc i => laws_toSlotS.l0 k l acc i) (fun k acc i hi ha => ?_) (fun k acc ha => ?_) k hk
  · simp only [laws_toSlotS.l0, laws_toSlot.f, Option.bind_some]
    rw [if_pos (by omega), if_pos (by omega), if_pos (by omega), wrap_succ hi (by omega), rdSlL l i hi]
    rfl
  · simp only [laws_toSlotS.l0]
    rw [if_neg (by omega)]
theorem toPlan (a b : Int) (l : List SlL) (hl : l.length ≤ 1048576) (k : Nat) (hk : l.length < k) : laws_toPlan.f k a b l = some (a, b, l.map toSl) := by
  unfold laws_toPlan.f; rw [toSlotS l hl k hk]; rfl
theorem eqSlotS (l : List Sl) (hl : l.length ≤ 1048576) (k : Nat) (hk : l.length < k) : laws_eqSlotS.f k l l = some true := by
  unfold laws_eqSlotS.f
  rw [if_pos rfl]
  refine all_loopT (n := l.length) (L := fun k i => laws_eqSlotS.l0 k l l i) (fun k i hi => ?_) (fun k => ?_) k hk
  · simp only [laws_eqSlotS.l0, laws_eqSlot.f]
    rw [if_pos (by omega), if_pos (by omega), if_pos (by omega), wrap_succ hi (by omega)]
    simp
  · simp only [laws_eqSlotS.l0]
    rw [if_neg (by omega)]
theorem eqPlan (a b : Int) (l : List Sl) (hl : l.length ≤ 1048576) (k : Nat) (hk : l.length < k) : laws_eqPlan.f k a b l a b l = some true := by
  unfold laws_eqPlan.f; rw [eqSlotS l hl k hk]; simp
theorem szPlan (a b : Int) (l : List SlL) (hl : l.length ≤ 9223372036854775807) (x : Int) (hx : 0 ≤ x ∧ x ≤ 1048576) :
    (laws_szPlan.f a b l x = some (-1)) ∨ (laws_szPlan.f a b l x = some (x - l.length) ∧ (l.length : Int) ≤ x) := by
  unfold laws_szPlan.f laws_szSlotS.f
  have hw : wrap64 (x - (l.length : Int)) = x - l.length := wrap_id (by omega) (by omega)
  rw [hw]
  by_cases h : x - (l.length : Int) < 0
  · left; rw [if_pos h]; simp
  · right; rw [if_neg h]; simp only [Option.bind_some]; rw [if_neg h]; exact ⟨rfl, by omega⟩
def slotOk (x : Sl) : Bool := decide (0 ≤ x.f0 ∧ x.f0 ≤ 7) && decide (1 ≤ x.f1 ∧ x.f1 ≤ 1000000)
def slotsOk (l : List Sl) : Bool := (List.range l.length).all fun i => match l[i]? with | some x => slotOk x | none => true
def planOk (st gap : Int) (l : List Sl) : Bool := decide (0 ≤ st ∧ st ≤ 1000000000000) && decide (0 ≤ gap ∧ gap ≤ 100000) && decide ((1 : Int) ≤ l.length ∧ (l.length : Int) ≤ 12) && slotsOk l
theorem slotsOk_get {l : List Sl} (h : slotsOk l = true) (i : Nat) (hi : i < l.length) : 0 ≤ l[i].f0 ∧ l[i].f0 ≤ 7 ∧ 1 ≤ l[i].f1 ∧ l[i].f1 ≤ 1000000 := by
  unfold slotsOk at h; rw [all_iff] at h
  have := h i hi
  rw [List.getElem?_eq_getElem hi] at this
  simp [slotOk] at this; omega
theorem planOk_iff (st gap : Int) (l : List Sl) : planOk st gap l = true ↔ (0 ≤ st ∧ st ≤ 1000000000000) ∧ (0 ≤ gap ∧ gap ≤ 100000) ∧ (1 ≤ l.length ∧ l.length ≤ 12) ∧ slotsOk l = true := by
  unfold planOk; simp only [Bool.and_eq_true, decide_eq_true_eq]; constructor
  · rintro ⟨⟨⟨h1, h2⟩, h3⟩, h4⟩; exact ⟨h1, h2, by omega, h4⟩
  · rintro ⟨h1, h2, h3, h4⟩; exact ⟨⟨⟨h1, h2⟩, by omega⟩, h4⟩
theorem iIndexSlot (l : List Sl) (hl : l.length ≤ 1048576) (k : Nat) (hk : l.length < k) : ∃ r, slices_IndexFunc_Slot.f k l = some r ∧ decide (r ≥ 0) = !slotsOk l := by
  have h1 : ∀ x : Sl, impl_PlanOk_1.f x.f0 x.f1 = some (!slotOk x) := by
    intro x; unfold impl_PlanOk_1.f slotOk; simp only [isNode, in_, Option.bind_some]
    cases decide (0 ≤ x.f0 ∧ x.f0 ≤ 7) <;> simp
  unfold slices_IndexFunc_Slot.f
  have := find_loop0 (n := l.length) (L := fun k i => slices_IndexFunc_Slot.l0 k l (l.length : Int) i) (Q := fun i => match l[i]? with | some x => !slotOk x | none => false) (r := fun i => (i : Int)) (e := -1) (c := 0) (fun k i hi _ => ?_) (fun k => ?_) k (by omega)
  · refine ⟨_, this, ?_⟩
    rcases first_of (Q := fun i => match l[i]? with | some x => !slotOk x | none => false) l.length with ⟨j, h2, h3, h4⟩ | h2
    · rw [found_some h2 h3 h4]
      have : slotsOk l = false := by
        cases hs : slotsOk l with
        | false => rfl
        | true =>
          unfold slotsOk at hs; rw [all_iff] at hs
          have := hs j h2
          rw [List.getElem?_eq_getElem h2] at this h3
          simp at this h3; rw [this] at h3; cases h3
      rw [this]; simp
    · rw [found_none h2]
      have : slotsOk l = true := by
        unfold slotsOk; rw [all_iff]; intro i hi
        have := h2 i hi
        rw [List.getElem?_eq_getElem hi] at this ⊢
        simpa using this
      rw [this]; simp
  · simp only [slices_IndexFunc_Slot.l0]
    rw [if_pos (by omega), if_pos (by omega), if_pos (by omega), wrap_succ hi (by omega), rdSl l i hi, h1, List.getElem?_eq_getElem hi]
    rfl
  · simp only [slices_IndexFunc_Slot.l0]
    rw [if_neg (by omega)]
theorem iPlanOk (st gap : Int) (l : List Sl) (hl : l.length ≤ 1048576) (k : Nat) (hk : l.length < k) : impl_PlanOk.f k st gap l = some (planOk st gap l) := by
  obtain ⟨r, h1, h2⟩ := iIndexSlot l hl k hk
  unfold impl_PlanOk.f planOk slices_ContainsFunc_Slot.f; simp only [isTime, in_, h1, h2, Option.bind_some]
  cases decide (0 ≤ st ∧ st ≤ 1000000000000) <;> cases decide (0 ≤ gap ∧ gap ≤ 100000) <;> cases decide ((1 : Int) ≤ l.length ∧ (l.length : Int) ≤ 12) <;> simp
theorem sPlanOk (st gap : Int) (l : List Sl) (hl : l.length ≤ 1048576) (k : Nat) (hk : l.length + 1 < k) : spec_PlanOk.f k st gap l = some (planOk st gap l) := by
  obtain ⟨k, rfl⟩ : ∃ j, k = j + 1 := ⟨k - 1, by omega⟩
  have hL : spec_PlanOk.l0 k 0 st gap l = some (slotsOk l) := by
    unfold slotsOk
    have := all_loop0 (n := l.length) (L := fun k i => spec_PlanOk.l0 k i st gap l) (Q := fun i => match l[i]? with | some x => slotOk x | none => true) (e := true) (fun k i hi => ?_) (fun k => ?_) k (by omega)
    · simpa using this
    · simp only [spec_PlanOk.l0, l4Node, l1In, Option.bind_some]
      rw [if_pos (by omega), if_pos (by omega), wrap_succ hi (by omega), rdSl l i hi, List.getElem?_eq_getElem hi]
      simp only [slotOk]
      by_cases h1 : (0 ≤ l[i].f0 ∧ l[i].f0 ≤ 7) <;> by_cases h2 : (1 ≤ l[i].f1 ∧ l[i].f1 ≤ 1000000) <;> simp [h1, h2]
    · simp only [spec_PlanOk.l0]
      rw [if_neg (by omega)]
  unfold spec_PlanOk.f planOk; simp only [l2Time, l1In, Option.bind_some, spec_PlanOk.j0, hL]
  cases decide (0 ≤ st ∧ st ≤ 1000000000000) <;> cases decide (0 ≤ gap ∧ gap ≤ 100000) <;> cases decide ((1 : Int) ≤ l.length ∧ (l.length : Int) ≤ 12) <;> simp
end Go.Proofs.Ytpjahhljpoeaeaa.C
namespace Go.Proofs.Ytpjahhljpoeaeaa.C
open Go.RowKit Go.Proofs.Ytpjahhljpoeaeaa.P Go.Proofs.Ytpjahhljpoeaeaa.G Go.Proofs.YtpjahhljpoeaeaaW.PrintWords
theorem rdI (l : List Int) (i : Nat) (h : i < l.length) : rd l (i : Int) = l[i] := by
  unfold rd; simp [List.getD, h]
theorem markIntS (l : List Int) (hl : l.length ≤ 2000000) (a : Int) (ha : 0 ≤ a ∧ a ≤ 1000000000) (k : Nat) (hk : l.length < k) : laws_markIntS.f k l a = some (a + l.length, (List.range l.length).map fun (i : Nat) => a + i) := by
  unfold laws_markIntS.f
  have := mark_loop0 (l := l) (f := fun i => a + i) (w := fun i => a + i) (c := 0) (L := fun k acc w i => laws_markIntS.l0 k acc w i) (fin := fun acc => (a + l.length, acc)) (fun k i acc hi hacc _ => ?_) (fun k acc hacc => ?_) k (by omega)
  · simp only [Int.natCast_zero, Int.add_zero] at this; exact this
  · simp only [laws_markIntS.l0]
    rw [if_pos (by omega), if_pos (by omega), wrap_succ hi (by omega), wrap_id (by omega) (by omega), Int.toNat_natCast]
    congr 1; omega
  · simp only [laws_markIntS.l0]
    rw [if_neg (by omega)]
theorem heldIntS (n : Nat) (hn : n ≤ 2000000) (a : Int) (ha : 0 ≤ a ∧ a ≤ 1000000000) (k : Nat) (hk : n < k) : laws_heldIntS.f k ((List.range n).map fun (i : Nat) => a + i) a = some (a + n) := by
  unfold laws_heldIntS.f
  have hlen : ((List.range n).map fun (i : Nat) => a + (i : Int)).length = n := by simp
  have := track_loop0 (n := n) (c := 0) (L := fun k s i => laws_heldIntS.l0 k ((List.range n).map fun (i : Nat) => a + i) s i) (F := fun i => a + (i : Int)) (r := a + n) (fun k i hi _ => ?_) (fun k _ => ?_) k (by omega)
  · simp only [Int.natCast_zero, Int.add_zero] at this; exact this
  · simp only [laws_heldIntS.l0]
    rw [if_pos (by omega), if_pos (by omega), rdI _ i (by omega), wrap_succ hi (by omega), wrap_id (by omega) (by omega), if_pos (by simp)]
    congr 1; omega
  · simp only [laws_heldIntS.l0]
    rw [if_neg (by omega)]
theorem eqIntS (l : List Int) (hl : l.length ≤ 2000000) (k : Nat) (hk : l.length < k) : laws_eqIntS.f k l l = some true := by
  unfold laws_eqIntS.f
  rw [if_pos rfl]
  refine all_loopT (n := l.length) (L := fun k i => laws_eqIntS.l0 k l l i) (fun k i hi => ?_) (fun k => ?_) k hk
  · simp only [laws_eqIntS.l0]
    rw [if_pos (by omega), if_pos (by omega), if_pos (by omega), wrap_succ hi (by omega), if_pos (by trivial)]
  · simp only [laws_eqIntS.l0]
    rw [if_neg (by omega)]
end Go.Proofs.Ytpjahhljpoeaeaa.C
namespace Go.Proofs.Ytpjahhljpoeaeaa.P
open Go.RowKit Go.Proofs.YtpjahhljpoeaeaaW.PrintWords Go.Proofs.YtpjahhljpoeaeaaW.PrintLast Go.Proofs.YtpjahhljpoeaeaaW.PrintMore
attribute [local go_sem] max2_int min2_int max_two min_two max_three min_three max_four min_four
set_option linter.unusedVariables false
set_option linter.unusedSimpArgs false
end Go.Proofs.Ytpjahhljpoeaeaa.P

namespace Go.Proofs.Ytpjahhljpoeaeaa.P
open Go.RowKit Go.Proofs.YtpjahhljpoeaeaaW.PrintWords Go.Proofs.YtpjahhljpoeaeaaW.PrintLast Go.Proofs.YtpjahhljpoeaeaaW.PrintMore
attribute [local go_sem] max2_int min2_int max_two min_two max_three min_three max_four min_four
set_option linter.unusedVariables false
set_option linter.unusedSimpArgs false
end Go.Proofs.Ytpjahhljpoeaeaa.P

namespace Go.Proofs.Ytpjahhljpoeaeaa.P
open Go.RowKit Go.Proofs.YtpjahhljpoeaeaaW.PrintWords Go.Proofs.YtpjahhljpoeaeaaW.PrintLast Go.Proofs.YtpjahhljpoeaeaaW.PrintMore
attribute [local go_sem] max2_int min2_int max_two min_two max_three min_three max_four min_four
set_option linter.unusedVariables false
set_option linter.unusedSimpArgs false
end Go.Proofs.Ytpjahhljpoeaeaa.P

namespace Go.Proofs.Ytpjahhljpoeaeaa.P
open Go.RowKit Go.Proofs.YtpjahhljpoeaeaaW.PrintWords Go.Proofs.YtpjahhljpoeaeaaW.PrintLast Go.Proofs.YtpjahhljpoeaeaaW.PrintMore
attribute [local go_sem] max2_int min2_int max_two min_two max_three min_three max_four min_four
set_option linter.unusedVariables false
set_option linter.unusedSimpArgs false
end Go.Proofs.Ytpjahhljpoeaeaa.P

namespace Go.Proofs.Ytpjahhljpoeaeaa.P
open Go.RowKit Go.Proofs.YtpjahhljpoeaeaaW.PrintWords Go.Proofs.YtpjahhljpoeaeaaW.PrintLast Go.Proofs.YtpjahhljpoeaeaaW.PrintMore
attribute [local go_sem] max2_int min2_int max_two min_two max_three min_three max_four min_four
set_option linter.unusedVariables false
set_option linter.unusedSimpArgs false
end Go.Proofs.Ytpjahhljpoeaeaa.P

