/- Texts of the seat's proofs, part 6: functions of the program told as plain functions, with their contracts, and what is shown of them. No condition. -/
import Derived.Test.YtllpmpfchidhoaaUKFNO
import Derived.Test.YtllpmpfchidhoaaKFNO1
import Derived.Test.YtllpmpfchidhoaaKFNO2
import Derived.Test.YtllpmpfchidhoaaKFNO4
import Derived.Test.YtllpmpfchidhoaaKFNO5
set_option linter.unusedVariables false
set_option linter.unusedSimpArgs false
namespace Go.Proofs.Ytllpmpfchidhoaa.P
open Go.RowKit Go.Proofs.YtllpmpfchidhoaaW.PrintWords Go.Proofs.YtllpmpfchidhoaaW.PrintLast Go.Proofs.YtllpmpfchidhoaaW.PrintMore
attribute [local go_sem] max2_int min2_int max_two min_two max_three min_three max_four min_four
set_option linter.unusedVariables false
set_option linter.unusedSimpArgs false
mutual
def laws_FnNextOwn.j0 : Nat → List Int → Int → Int → Int → Int → Bool → Int → Int → List (S42) → Option (Bool)
 | 0, _, _, _, _, _, _, _, _, _ => none
 | k + 1, x0, x4, x5, x6, x7, x79, x1062000, x1062001, x1062002 => if x79 = true then (some false) else ((impl_SlotAt.f k x1062000 x1062001 x1062002 x7).bind fun bt1070 => (if bt1070.2.2 = true then (laws_FnNextOwn.j1 k x0 x4 x5 x6 x7 bt1070.2.1 (bt1070.1 != x6) x1062000 x1062001 x1062002) else (laws_FnNextOwn.j1 k x0 x4 x5 x6 x7 bt1070.2.1 true x1062000 x1062001 x1062002)))
def laws_FnNextOwn.j1 : Nat → List Int → Int → Int → Int → Int → Int → Bool → Int → Int → List (S42) → Option (Bool)
 | 0, _, _, _, _, _, _, _, _, _, _ => none
 | k + 1, x0, x4, x5, x6, x7, x13, x93, x1062000, x1062001, x1062002 => if x93 = true then (some false) else (laws_FnNextOwn.l0 k x0 x4 x5 x6 x7 x13 0 x1062000 x1062001 x1062002)
def laws_FnNextOwn.l0 : Nat → List Int → Int → Int → Int → Int → Int → Int → Int → Int → List (S42) → Option (Bool)
 | 0, _, _, _, _, _, _, _, _, _, _ => none
 | k + 1, x0, x4, x5, x6, x7, x13, x15, x1062000, x1062001, x1062002 => if x15 < (wrap64 (2 * (x1062002.length : Int))) then (if (x1062002.length : Int) = 0 then (none) else ((impl_Occurrence.f k x1062000 x1062001 x1062002 (Int.tmod x15 (x1062002.length : Int)) (wrap64 (x13 - (wrap64 (Int.tdiv x15 (x1062002.length : Int)))))).bind fun bt1073 => (if bt1073.2.2 = true then (if 0 ≤ (Int.tmod x15 (x1062002.length : Int)) then (if (Int.tmod x15 (x1062002.length : Int)) < (x1062002.length : Int) then (if ((rd_T42 x1062002 (Int.tmod x15 (x1062002.length : Int))).f0) = x4 then (if bt1073.1 ≥ x5 then (if bt1073.1 < x7 then (some false) else (laws_FnNextOwn.l0 k x0 x4 x5 x6 x7 x13 (wrap64 (x15 + 1)) x1062000 x1062001 x1062002)) else (laws_FnNextOwn.l0 k x0 x4 x5 x6 x7 x13 (wrap64 (x15 + 1)) x1062000 x1062001 x1062002)) else (laws_FnNextOwn.l0 k x0 x4 x5 x6 x7 x13 (wrap64 (x15 + 1)) x1062000 x1062001 x1062002)) else (none)) else (none)) else (laws_FnNextOwn.l0 k x0 x4 x5 x6 x7 x13 (wrap64 (x15 + 1)) x1062000 x1062001 x1062002)))) else ((laws_at.f x0 1).bind fun t1078 => ((impl_PlanMoved.f k x1062000 x1062001 x1062002 t1078).bind fun bt1079 => ((impl_NextOwn.f k bt1079.1 bt1079.2.1 bt1079.2.2.1 x4 (wrap64 (x5 + t1078))).bind fun bt1086 => (if bt1079.2.2.2 = true then (if bt1086.2.2 = true then (if bt1086.1 = x6 then (some (bt1086.2.1 == (wrap64 (x7 + t1078)))) else (some false)) else (some true)) else (some true)))))
end
def laws_FnNextOwn.f (k : Nat) (l0 : List Int) : Option (Bool) := (laws_big.f l0).bind fun t1053 => (if t1053 = true then (some true) else ((spec_DrawNextOwn.f k l0).bind fun bt1054 => ((impl_NextOwn.f k bt1054.1 bt1054.2.1 bt1054.2.2.1 bt1054.2.2.2.1 bt1054.2.2.2.2).bind fun bt1062 => ((spec_NextOwn.f k bt1054.1 bt1054.2.1 bt1054.2.2.1 bt1054.2.2.2.1 bt1054.2.2.2.2).bind fun bt1065 => (if (bt1062.2.2 != bt1065.2.2) = true then (some false) else (if bt1062.2.2 = true then (if bt1062.2.1 < bt1054.2.2.2.2 then (laws_FnNextOwn.j0 k l0 bt1054.2.2.2.1 bt1054.2.2.2.2 bt1062.1 bt1062.2.1 true bt1054.1 bt1054.2.1 bt1054.2.2.1) else (if bt1062.1 < 0 then (laws_FnNextOwn.j0 k l0 bt1054.2.2.2.1 bt1054.2.2.2.2 bt1062.1 bt1062.2.1 true bt1054.1 bt1054.2.1 bt1054.2.2.1) else (if bt1062.1 ≥ (bt1054.2.2.1.length : Int) then (laws_FnNextOwn.j0 k l0 bt1054.2.2.2.1 bt1054.2.2.2.2 bt1062.1 bt1062.2.1 true bt1054.1 bt1054.2.1 bt1054.2.2.1) else (if 0 ≤ bt1062.1 then (if bt1062.1 < (bt1054.2.2.1.length : Int) then (laws_FnNextOwn.j0 k l0 bt1054.2.2.2.1 bt1054.2.2.2.2 bt1062.1 bt1062.2.1 (((rd_T42 bt1054.2.2.1 bt1062.1).f0) != bt1054.2.2.2.1) bt1054.1 bt1054.2.1 bt1054.2.2.1) else (none)) else (none))))) else ((impl_PlanOk.f k 0 0 ([] : List (S42))).bind fun t1068 => (some (!t1068)))))))))
def laws_FnNextOwn.T18 : Bool × List (List Nat × List Nat) := (true, [([], []), ([], []), ([], []), ([2], [2]), ([3], [3]), ([1, 4], [1, 4]), ([], []), ([], []), ([], []), ([8], [8]), ([9], [9]), ([7, 10], [7, 10]), ([6, 11], [6, 11]), ([0, 5, 12], [0, 5, 12]), ([13], [13]), ([14], [14]), ([14], [14]), ([], []), ([17, 15, 13, 0, 1, 2, 3, 4, 5, 6, 7, 8, 9, 10, 11, 12, 13, 14, 15, 17], [15, 17]), ([16, 18, 0, 1, 2, 3, 4, 5, 6, 7, 8, 9, 10, 11, 12, 13, 14, 15, 16, 17, 18], [16])])
def laws_FnNextOwn.B18 : List Nat := [0, 0, 0, 4, 12, 30, 0, 0, 0, 256, 768, 1920, 4032, 8191, 16383, 32767, 32767, 0, 196607, 524287]
theorem laws_FnNextOwn.tab18 : rtab .any (opsOf Try.f7 18) = laws_FnNextOwn.T18 := by kernel_rfl
theorem laws_FnNextOwn.bits18 : waitsOk laws_FnNextOwn.T18.2 laws_FnNextOwn.B18 = true := by kernel_rfl
def laws_FnNextOwn.T19 : Bool × List (List Nat × List Nat) := (true, [([], []), ([0], [0]), ([1], [1]), ([2, 1], [1, 2]), ([1], [1]), ([1], [1]), ([5, 1], [1, 5]), ([6, 1], [1, 6]), ([4, 7, 1], [1, 4, 7]), ([3, 8, 1], [1, 3, 8]), ([9, 1], [1, 9]), ([10, 1], [1, 10]), ([1], [1]), ([11, 12, 1], [1, 11, 12]), ([1, 13], [1, 13]), ([14, 1], [14]), ([15], [15]), ([16, 15], [15, 16]), ([15], [15]), ([17, 18, 15], [15, 17, 18]), ([15, 19], [15, 19]), ([20, 15], [20]), ([21], [21]), ([22, 21], [21, 22]), ([21], [21]), ([23, 24, 21], [21, 23, 24]), ([21, 25], [21, 25])])
def laws_FnNextOwn.B19 : List Nat := [0, 1, 3, 7, 3, 3, 35, 99, 243, 511, 1023, 2047, 3, 8191, 16383, 32767, 65535, 131071, 65535, 524287, 1048575, 2097151, 4194303, 8388607, 4194303, 33554431, 67108863]
theorem laws_FnNextOwn.tab19 : rtab .any (opsOf Try.f7 19) = laws_FnNextOwn.T19 := by kernel_rfl
theorem laws_FnNextOwn.bits19 : waitsOk laws_FnNextOwn.T19.2 laws_FnNextOwn.B19 = true := by kernel_rfl
set_option maxHeartbeats 8000000 in
set_option maxRecDepth 100000 in
theorem laws_FnNextOwn.calls (k : Nat) (A0 : Option Addr) (c0 : Nat) (l0 : List Int) (r : Bool) (w : World) (hr0 : Kd.C (Kd.int .u8) w A0 l0.length l0) (hc0 : l0.length ≤ c0) (hr_ : r = true) (h : laws_FnNextOwn.f k l0 = some r) :
  Calls Try.prog 7 #[.slice A0 l0.length c0] w fun e w' => e = .returned (.bool r) ∧ Below w.heap.size w w' := by
 have hu30 := Try.underlying30; have hu25 := Try.underlying25; have HR0 := Aside0.mk hr0; have HC0 := Aside0.mk hc0; clear hr0 hc0; have HB := am_ (Below.refl w.heap.size w); have H : ((laws_big.f l0).bind fun t1053 => (if t1053 = true then (some true) else ((spec_DrawNextOwn.f k l0).bind fun bt1054 => ((impl_NextOwn.f k bt1054.1 bt1054.2.1 bt1054.2.2.1 bt1054.2.2.2.1 bt1054.2.2.2.2).bind fun bt1062 => ((spec_NextOwn.f k bt1054.1 bt1054.2.1 bt1054.2.2.1 bt1054.2.2.2.1 bt1054.2.2.2.2).bind fun bt1065 => (if (bt1062.2.2 != bt1065.2.2) = true then (some false) else (if bt1062.2.2 = true then (if bt1062.2.1 < bt1054.2.2.2.2 then (laws_FnNextOwn.j0 k l0 bt1054.2.2.2.1 bt1054.2.2.2.2 bt1062.1 bt1062.2.1 true bt1054.1 bt1054.2.1 bt1054.2.2.1) else (if bt1062.1 < 0 then (laws_FnNextOwn.j0 k l0 bt1054.2.2.2.1 bt1054.2.2.2.2 bt1062.1 bt1062.2.1 true bt1054.1 bt1054.2.1 bt1054.2.2.1) else (if bt1062.1 ≥ (bt1054.2.2.1.length : Int) then (laws_FnNextOwn.j0 k l0 bt1054.2.2.2.1 bt1054.2.2.2.2 bt1062.1 bt1062.2.1 true bt1054.1 bt1054.2.1 bt1054.2.2.1) else (if 0 ≤ bt1062.1 then (if bt1062.1 < (bt1054.2.2.1.length : Int) then (laws_FnNextOwn.j0 k l0 bt1054.2.2.2.1 bt1054.2.2.2.2 bt1062.1 bt1062.2.1 (((rd_T42 bt1054.2.2.1 bt1062.1).f0) != bt1054.2.2.2.1) bt1054.1 bt1054.2.1 bt1054.2.2.1) else (none)) else (none))))) else ((impl_PlanOk.f k 0 0 ([] : List (S42))).bind fun t1068 => (some (!t1068)))))))))) = some r := h; clear h; obtain ⟨t1053, A2, H⟩ := ab_ H; by_cases c3 : t1053 = true
 ·subst c3; replace H := i1_ H; obtain rfl := Option.some.inj H; go_enter Try.func7, Try.ntmps7
  go_wp2_with (first | ((with_reducible refine gate_callee (f := 8) rfl ?_); refine gl_ Try.func8 #[.slice A0 l0.length c0] ?_; (with_reducible refine (laws_big.calls _ _ l0 true _ ?side1 ?side2 A2.out).mono ?_); (case side1 => repeat (first | exact HR0.out | (with_reducible refine Kd.C_alloc ?_ _) | (with_reducible refine Kd.C_drewN ?_ _) | (with_reducible refine Kd.C_drew ?_))); (case side2 => exact HC0.out); rintro e w' ⟨rfl, ⟨nd, rfl⟩⟩; refine ⟨_, rfl, ?_⟩))
  go_ret
  exact ⟨er_, hb_ HB.out⟩
 ·replace c3 := Bool.eq_false_iff.mpr c3; subst c3; replace H := i0_ H; obtain ⟨⟨t1054, t1055, t1056, t1059, t1060⟩, A4, H⟩ := ab_ H; (try dsimp only at H); obtain ⟨⟨t1062, t1063, t1064⟩, A5, H⟩ := ab_ H; (try dsimp only at H); obtain ⟨⟨t1065, t1066, t1067⟩, A6, H⟩ := ab_ H; (try dsimp only at H); by_cases c7 : (t1064 != t1067) = true
  ·rw [if_pos c7] at H; have c7b0 : (t1064 != t1067) = true := c7; (try (have c7b1 : decide (t1064 = t1067) = false := by simpa using c7)); (try (have c7b2 : (t1064 == t1067) = false := by simpa using c7)); (try (have c7b3 : ¬ (t1064 = t1067) := by simpa using c7)); clear c7; obtain rfl := Option.some.inj H; exact absurd hr_ (by decide)
  ·rw [if_neg c7] at H; have c7b0 : (t1064 != t1067) = false := by simpa using c7
   (try (have c7b1 : decide (t1064 = t1067) = true := by simpa using c7)); (try (have c7b2 : (t1064 == t1067) = true := by simpa using c7)); clear c7; by_cases c8 : t1064 = true
   ·subst c8; replace H := i1_ H; have HC9 := Aside0.mk H; clear H; go_enter Try.func7, Try.ntmps7
    go_upto_region 10 with (first | ((with_reducible refine gate_callee (f := 8) rfl ?_); refine gl_ Try.func8 #[.slice A0 l0.length c0] ?_; (with_reducible refine (laws_big.calls _ _ l0 false _ ?side1 ?side2 A2.out).mono ?_); (case side1 => repeat (first | exact HR0.out | (with_reducible refine Kd.C_alloc ?_ _) | (with_reducible refine Kd.C_drewN ?_ _) | (with_reducible refine Kd.C_drew ?_))); (case side2 => exact HC0.out); rintro e w' ⟨rfl, ⟨nd, rfl⟩⟩; refine ⟨_, rfl, ?_⟩) | ((with_reducible refine gate_callee (f := 31) rfl ?_); refine gl_ Try.func31 #[.slice A0 l0.length c0] ?_; (with_reducible refine (spec_DrawNextOwn.calls k _ _ l0 t1054 t1055 t1056 t1059 t1060 _ ?side1 ?side2 A4.out).mono ?_); (case side1 => repeat (first | exact HR0.out | (with_reducible refine Kd.C_alloc ?_ _) | (with_reducible refine Kd.C_drewN ?_ _) | (with_reducible refine Kd.C_drew ?_))); (case side2 => exact HC0.out); rintro e w10 ⟨v1057, rfl, ho0, hb⟩; refine ⟨_, rfl, ?_⟩; have HO1058 := am_ (Kd.R_lower ho0 (below_size (hb_ HB.out))); replace HB := am_ (below_step (hb_ HB.out) hb); (try clear hb); (try clear hb2); (try clear hk); (try clear hi); (try clear ho0)) | ((with_reducible refine gate_dst (N := 3) rfl ?_); (try (refine gate_guard (by rfl) ?_; dsimp only)); refine be_ (N := 3) (cs := #[.int .i64 0, .int .i64 0, .slice none 0 0]) (t := 30) ?_; intro gb1061 hg w11 hbox hb; have BK1061 := am_ (hbox); have GW1061 := am_ (hy_ hg (hb_ HB.out) : w.heap.size ≤ gb1061); have GE1061 := GW1061; replace HO1058 := am_ (Kd.R_below (by (with_reducible repeat (first | apply Kd.R_alloc | apply Kd.R_drewN | apply Kd.R_drew)); exact HO1058.out) hb); replace HB := am_ (below_step (hb_ HB.out) hb); clear hb hbox hg; obtain ⟨hcz12_0, hcz12_1, hcz12_2, hfz12_0, hfz12_1, hfz12_2⟩ := bc3_ BK1061.out; obtain ⟨Ao13, co13, eo13⟩ := Kd.R_slice HO1058.out; subst eo13) | ((with_reducible refine gate_callee (f := 32) rfl ?_); refine gl_ Try.func32 #[.agg #[.int .i64 t1054, .int .i64 t1055, .slice Ao13 t1056.length co13], .int .i64 t1059, .int .i64 t1060] ?_; (with_reducible refine (impl_NextOwn.calls k t1054 t1055 _ _ t1056 t1059 t1060 t1062 t1063 true _ ?side1 ?side2 A5.out).mono ?_); (case side1 => refine (Kd.R_reads' (e := 42) (base := w.heap.size) (ok := fun k_ => True) (n := t1056.length) (c := co13) ?_).2.2; exact (by (with_reducible repeat (first | apply Kd.R_alloc | apply Kd.R_drewN | apply Kd.R_drew)); exact (Kd.R_mono (Kd.R_far (p := ⟨gb1061, 2, none⟩) (Kd.R_far (p := ⟨gb1061, 1, none⟩) (Kd.R_far (p := ⟨gb1061, 0, none⟩) (Kd.R_types HO1058.out BK1061.out (by decide)) (fun _ hk => hk.2) (.int .i64 t1054)) (fun _ hk => hk.2) (.int .i64 t1055)) (fun _ hk => hk.2) (.slice Ao13 t1056.length co13)) (fun _ h_ => h_.1)))); (case side2 => exact (Kd.R_reads' HO1058.out).2.1); rintro e w14 ⟨rfl, hb⟩; refine ⟨_, rfl, ?_⟩; replace HO1058 := am_ (Kd.R_below (by (with_reducible repeat (first | apply Kd.R_alloc | apply Kd.R_drewN | apply Kd.R_drew)); exact (Kd.R_mono (Kd.R_far (p := ⟨gb1061, 2, none⟩) (Kd.R_far (p := ⟨gb1061, 1, none⟩) (Kd.R_far (p := ⟨gb1061, 0, none⟩) (Kd.R_types HO1058.out BK1061.out (by decide)) (fun _ hk => hk.2) (.int .i64 t1054)) (fun _ hk => hk.2) (.int .i64 t1055)) (fun _ hk => hk.2) (.slice Ao13 t1056.length co13)) (fun _ h_ => h_.1))) hb); replace BK1061 := am_ (blk_below (g := gb1061) (o := .cells #[.int .i64 t1054, .int .i64 t1055, .slice Ao13 t1056.length co13] 30 (0, 0)) (by (with_reducible repeat (first | refine blk_drewN ?_ _ | refine blk_drew ?_ | refine blk_alloc ?_ _)); refine blk_put (cs := #[.int .i64 t1054, .int .i64 t1055, .slice none 0 0]) ?_ 2 _ rfl; (with_reducible repeat (first | refine blk_drewN ?_ _ | refine blk_drew ?_ | refine blk_alloc ?_ _)); refine blk_put (cs := #[.int .i64 t1054, .int .i64 0, .slice none 0 0]) ?_ 1 _ rfl; (with_reducible repeat (first | refine blk_drewN ?_ _ | refine blk_drew ?_ | refine blk_alloc ?_ _)); refine blk_put (cs := #[.int .i64 0, .int .i64 0, .slice none 0 0]) ?_ 0 _ rfl; (with_reducible repeat (first | refine blk_drewN ?_ _ | refine blk_drew ?_ | refine blk_alloc ?_ _)); exact BK1061.out) hb); replace HB := am_ (below_step (hb1_ HB.out GE1061.out) hb); (try clear hb); (try clear hb2); (try clear hk); (try clear hi); obtain ⟨hcz15_0, hcz15_1, hcz15_2, hfz15_0, hfz15_1, hfz15_2⟩ := bc3_ BK1061.out) | ((with_reducible refine gate_callee (f := 33) rfl ?_); refine gl_ Try.func33 #[.agg #[.int .i64 t1054, .int .i64 t1055, .slice Ao13 t1056.length co13], .int .i64 t1059, .int .i64 t1060] ?_; (with_reducible refine (spec_NextOwn.calls k t1054 t1055 _ _ t1056 t1059 t1060 t1065 t1066 t1067 _ ?side1 ?side2 A6.out).mono ?_); (case side1 => repeat (first | exact (Kd.R_reads' HO1058.out).2.2 | (with_reducible refine Kd.C_alloc ?_ _) | (with_reducible refine Kd.C_drewN ?_ _) | (with_reducible refine Kd.C_drew ?_))); (case side2 => exact (Kd.R_reads' HO1058.out).2.1); rintro e w16 ⟨rfl, hb⟩; refine ⟨_, rfl, ?_⟩; replace HO1058 := am_ (Kd.R_below (by (with_reducible repeat (first | apply Kd.R_alloc | apply Kd.R_drewN | apply Kd.R_drew)); exact HO1058.out) hb); replace BK1061 := am_ (bb_ BK1061.out hb); replace HB := am_ (below_step (hb1_ HB.out GE1061.out) hb); (try clear hb); (try clear hb2); (try clear hk); (try clear hi)))
    (try simp only [Act.put, List.setIfInBounds_toArray, List.set_cons_zero, List.set_cons_succ]); go_cut [79] (fun v79 wc => ∃ (kq : Nat) (x79_8 : Bool), v79 = .bool x79_8 ∧ Aside0 (laws_FnNextOwn.j0 kq l0 t1059 t1060 t1062 t1063 x79_8 t1054 t1055 t1056 = some r) ∧ Aside0 (kq ≤ k) ∧ Aside0 (Kd.R k42 42 wc w.heap.size (fun _ => True) (.slice Ao13 t1056.length co13) t1056) ∧ Aside0 (wc.heap[gb1061]? = some (.cells #[.int .i64 t1054, .int .i64 t1055, (.slice Ao13 t1056.length co13)] 30 (0, 0))) ∧ Aside0 (Below w.heap.size w wc))
    case first =>
     have H := HC9.out; clear HC9; by_cases c17 : t1063 < t1060
     ·rw [if_pos c17] at H; have c17b0 : decide (t1063 < t1060) = true := decide_eq_true c17; clear c17; (first | rw [c17b0] | (simp only [i64_w, i32_w]; rw [c17b0]) | skip)
      have H' := Aside0.mk H; clear H; go_wp2
      go_meet
      case rel => exact ⟨_, (true), (by first | rfl | (simp; done) | (simp [*]; done)), H', ⟨by first | omega | exact Nat.le_refl _⟩, ⟨by (with_reducible repeat (first | apply Kd.R_alloc | apply Kd.R_drewN | apply Kd.R_drew)); exact HO1058.out⟩, ⟨bk_ BK1061.out⟩, ⟨hb1_ HB.out GE1061.out⟩⟩
     ·rw [if_neg c17] at H; have c17b0 : decide (t1063 < t1060) = false := decide_eq_false c17; clear c17; (first | rw [c17b0] | (simp only [i64_w, i32_w]; rw [c17b0]) | skip)
      by_cases c18 : t1062 < 0
      ·rw [if_pos c18] at H; have c18b0 : decide (t1062 < 0) = true := decide_eq_true c18; clear c18; have H' := Aside0.mk H; clear H; go_wp2
       go_meet
       case rel => exact ⟨_, (true), (by first | rfl | (simp; done) | (simp [*]; done)), H', ⟨by first | omega | exact Nat.le_refl _⟩, ⟨by (with_reducible repeat (first | apply Kd.R_alloc | apply Kd.R_drewN | apply Kd.R_drew)); exact HO1058.out⟩, ⟨bk_ BK1061.out⟩, ⟨hb1_ HB.out GE1061.out⟩⟩
      ·rw [if_neg c18] at H; have c18b0 : decide (t1062 < 0) = false := decide_eq_false c18; clear c18; by_cases c19 : t1062 ≥ (t1056.length : Int)
       ·rw [if_pos c19] at H; have c19b0 : decide ((t1056.length : Int) ≤ t1062) = true := decide_eq_true c19; clear c19; have H' := Aside0.mk H; clear H; have hcz20_0 := bc_ BK1061.out 0 (.int .i64 t1054) rfl; have hcz20_1 := bc_ BK1061.out 1 (.int .i64 t1055) rfl; have hcz20_2 := bc_ BK1061.out 2 (.slice Ao13 t1056.length co13) rfl; have hfz20_0 := blk_frozen BK1061.out 0; have hfz20_1 := blk_frozen BK1061.out 1; have hfz20_2 := blk_frozen BK1061.out 2; go_wp2
        go_meet
        case rel => exact ⟨_, (true), (by first | rfl | (simp; done) | (simp [*]; done)), H', ⟨by first | omega | exact Nat.le_refl _⟩, ⟨by (with_reducible repeat (first | apply Kd.R_alloc | apply Kd.R_drewN | apply Kd.R_drew)); exact HO1058.out⟩, ⟨bk_ BK1061.out⟩, ⟨hb1_ HB.out GE1061.out⟩⟩
       ·rw [if_neg c19] at H; have c19b0 : decide ((t1056.length : Int) ≤ t1062) = false := decide_eq_false c19; clear c19; by_cases c21 : 0 ≤ t1062
        ·rw [if_pos c21] at H; have c21b0 : decide (0 ≤ t1062) = true := decide_eq_true c21; clear c21; by_cases c22 : t1062 < (t1056.length : Int)
         ·rw [if_pos c22] at H; have c22b0 : decide (t1062 < (t1056.length : Int)) = true := decide_eq_true c22; clear c22; have H' := Aside0.mk H; clear H; have hcz23_0 := bc_ BK1061.out 0 (.int .i64 t1054) rfl; have hcz23_1 := bc_ BK1061.out 1 (.int .i64 t1055) rfl; have hcz23_2 := bc_ BK1061.out 2 (.slice Ao13 t1056.length co13) rfl; have hfz23_0 := blk_frozen BK1061.out 0; have hfz23_1 := blk_frozen BK1061.out 1; have hfz23_2 := blk_frozen BK1061.out 2; have p1069 : 0 ≤ (t1062 : Int) := of_decide_eq_true (by first | (with_reducible assumption) | assumption); have q1069 : t1062 < (t1056.length : Int) := of_decide_eq_true (by first | (with_reducible assumption) | assumption); obtain ⟨ad1069, e1069, hx1069_0, hx1069_1⟩ := at_T42 (Kd.R_reads' HO1058.out).2.2 t1062 p1069 q1069
          cases e1069
          replace p1069 := eq_true p1069; replace q1069 := eq_true q1069; go_wp2
          go_meet
          case rel => exact ⟨_, ((((rd_T42 t1056 t1062).f0) != t1059)), (by first | rfl | (simp; done) | (simp [*]; done)), H', ⟨by first | omega | exact Nat.le_refl _⟩, ⟨by (with_reducible repeat (first | apply Kd.R_alloc | apply Kd.R_drewN | apply Kd.R_drew)); exact HO1058.out⟩, ⟨bk_ BK1061.out⟩, ⟨hb1_ HB.out GE1061.out⟩⟩
         ·rw [if_neg c22] at H; exact absurd H (by simp)
        ·rw [if_neg c21] at H; exact absurd H (by simp)
    case rest =>
     clear HC9; (try clear c3); (try clear c7); (try clear c7b0); (try clear c7b1); (try clear c7b2); (try clear c8); (try clear c17); (try clear c17b0); (try clear c18); (try clear c18b0); (try clear c19); (try clear c19b0); (try clear c21); (try clear c21b0); (try clear c22); (try clear c22b0); (try clear hcz12_0); (try clear hcz12_1); (try clear hcz12_2); (try clear hcz15_0); (try clear hcz15_1); (try clear hcz15_2); (try clear hcz20_0); (try clear hcz20_1); (try clear hcz20_2); (try clear hcz23_0); (try clear hcz23_1); (try clear hcz23_2); (try clear hfz12_0); (try clear hfz12_1); (try clear hfz12_2); (try clear hfz15_0); (try clear hfz15_1); (try clear hfz15_2); (try clear hfz20_0); (try clear hfz20_1); (try clear hfz20_2); (try clear hfz23_0); (try clear hfz23_1); (try clear hfz23_2); (try clear hx1069_0); (try clear hx1069_1); (try clear p1069); (try clear q1069); obtain ⟨kq, x79_8, rfl, HA, HJ8, HO_1062002, BK1061, HB⟩ := hcut
     cases kq with
     | zero => exact absurd HA.out (by simp [laws_FnNextOwn.j0])
     | succ kj8 =>
      have H := HA.out; clear HA; simp only [laws_FnNextOwn.j0] at H
      by_cases c24 : x79_8 = true
      ·subst c24; replace H := i1_ H; obtain rfl := Option.some.inj H; exact absurd hr_ (by decide)
      ·replace c24 := Bool.eq_false_iff.mpr c24; subst c24; replace H := i0_ H; obtain ⟨⟨t1070, t1071, t1072⟩, A25, H⟩ := ab_ H; (try dsimp only at H); have HC26 := Aside0.mk H; clear H; have hcz27_0 := bc_ BK1061.out 0 (.int .i64 t1054) rfl; have hcz27_1 := bc_ BK1061.out 1 (.int .i64 t1055) rfl; have hcz27_2 := bc_ BK1061.out 2 (.slice Ao13 t1056.length co13) rfl; have hfz27_0 := blk_frozen BK1061.out 0; have hfz27_1 := blk_frozen BK1061.out 1; have hfz27_2 := blk_frozen BK1061.out 2; go_upto_region 13 with (first | ((with_reducible refine gate_callee (f := 29) rfl ?_); refine gl_ Try.func29 #[.agg #[.int .i64 t1054, .int .i64 t1055, .slice Ao13 t1056.length co13], .int .i64 t1063] ?_; (with_reducible refine (impl_SlotAt.calls kj8 t1054 t1055 _ _ t1056 t1063 t1070 t1071 t1072 _ ?side1 ?side2 A25.out).mono ?_); (case side1 => repeat (first | exact (Kd.R_reads' HO_1062002.out).2.2 | (with_reducible refine Kd.C_alloc ?_ _) | (with_reducible refine Kd.C_drewN ?_ _) | (with_reducible refine Kd.C_drew ?_))); (case side2 => exact (Kd.R_reads' HO_1062002.out).2.1); rintro e w28 ⟨rfl, hb⟩; refine ⟨_, rfl, ?_⟩; replace HO_1062002 := am_ (Kd.R_below (by (with_reducible repeat (first | apply Kd.R_alloc | apply Kd.R_drewN | apply Kd.R_drew)); exact HO_1062002.out) hb); replace BK1061 := am_ (bb_ BK1061.out hb); replace HB := am_ (below_step (hb1_ HB.out GE1061.out) hb); (try clear hb); (try clear hb2); (try clear hk); (try clear hi)))
       (try simp only [Act.put, List.setIfInBounds_toArray, List.set_cons_zero, List.set_cons_succ]); go_cut [93] (fun v93 wc => ∃ (kq : Nat) (x93_25 : Bool), v93 = .bool x93_25 ∧ Aside0 (laws_FnNextOwn.j1 kq l0 t1059 t1060 t1062 t1063 t1071 x93_25 t1054 t1055 t1056 = some r) ∧ Aside0 (kq ≤ kj8) ∧ Aside0 (Kd.R k42 42 wc w.heap.size (fun _ => True) (.slice Ao13 t1056.length co13) t1056) ∧ Aside0 (wc.heap[gb1061]? = some (.cells #[.int .i64 t1054, .int .i64 t1055, (.slice Ao13 t1056.length co13)] 30 (0, 0))) ∧ Aside0 (Below w.heap.size w wc))
       case first =>
        have H := HC26.out; clear HC26; by_cases c29 : t1072 = true
        ·subst c29; replace H := i1_ H; have H' := Aside0.mk H; clear H; go_wp2
         go_meet
         case rel => exact ⟨_, ((t1070 != t1062)), (by first | rfl | (simp; done) | (simp [*]; done)), H', ⟨by have := HJ8.out; first | omega | exact Nat.le_refl _⟩, ⟨by (with_reducible repeat (first | apply Kd.R_alloc | apply Kd.R_drewN | apply Kd.R_drew)); exact HO_1062002.out⟩, ⟨bk_ BK1061.out⟩, ⟨hb1_ HB.out GE1061.out⟩⟩
        ·replace c29 := Bool.eq_false_iff.mpr c29; subst c29; replace H := i0_ H; have H' := Aside0.mk H; clear H; go_wp2
         go_meet
         case rel => exact ⟨_, (true), (by first | rfl | (simp; done) | (simp [*]; done)), H', ⟨by have := HJ8.out; first | omega | exact Nat.le_refl _⟩, ⟨by (with_reducible repeat (first | apply Kd.R_alloc | apply Kd.R_drewN | apply Kd.R_drew)); exact HO_1062002.out⟩, ⟨bk_ BK1061.out⟩, ⟨hb1_ HB.out GE1061.out⟩⟩
       case rest =>
        clear HC26; (try clear c3); (try clear c7); (try clear c7b0); (try clear c7b1); (try clear c7b2); (try clear c8); (try clear c17); (try clear c17b0); (try clear c18); (try clear c18b0); (try clear c19); (try clear c19b0); (try clear c21); (try clear c21b0); (try clear c22); (try clear c22b0); (try clear c24); (try clear c29); (try clear hcz12_0); (try clear hcz12_1); (try clear hcz12_2); (try clear hcz15_0); (try clear hcz15_1); (try clear hcz15_2); (try clear hcz20_0); (try clear hcz20_1); (try clear hcz20_2); (try clear hcz23_0); (try clear hcz23_1); (try clear hcz23_2); (try clear hcz27_0); (try clear hcz27_1); (try clear hcz27_2); (try clear hfz12_0); (try clear hfz12_1); (try clear hfz12_2); (try clear hfz15_0); (try clear hfz15_1); (try clear hfz15_2); (try clear hfz20_0); (try clear hfz20_1); (try clear hfz20_2); (try clear hfz23_0); (try clear hfz23_1); (try clear hfz23_2); (try clear hfz27_0); (try clear hfz27_1); (try clear hfz27_2); (try clear hx1069_0); (try clear hx1069_1); (try clear p1069); (try clear q1069); obtain ⟨kq, x93_25, rfl, HA, HJ25, HO_1062002, BK1061, HB⟩ := hcut
        cases kq with
        | zero => exact absurd HA.out (by simp [laws_FnNextOwn.j1])
        | succ kj25 =>
         have H := HA.out; clear HA; simp only [laws_FnNextOwn.j1] at H
         by_cases c30 : x93_25 = true
         ·subst c30; replace H := i1_ H; obtain rfl := Option.some.inj H; exact absurd hr_ (by decide)
         ·replace c30 := Bool.eq_false_iff.mpr c30; subst c30; replace H := i0_ H; have H' := Aside0.mk H; clear H; go_wp2
          go_loopg [15] kj25 (fun kq v15 w' => ∃ (x15_3 : Int), v15 = .int .i64 x15_3 ∧ Aside0 (laws_FnNextOwn.l0 kq l0 t1059 t1060 t1062 t1063 t1071 x15_3 t1054 t1055 t1056 = some r) ∧ Aside0 (kq ≤ kj25) ∧ Aside0 (Kd.R k42 42 w' w.heap.size (fun _ => True) (.slice Ao13 t1056.length co13) t1056) ∧ Aside0 (w'.heap[gb1061]? = some (.cells #[.int .i64 t1054, .int .i64 t1055, (.slice Ao13 t1056.length co13)] 30 (0, 0))) ∧ Aside0 (Below w.heap.size w w'))
          case atStart => exact ⟨(0), (by first | rfl | (simp; done) | (simp [*]; done)), H', ⟨Nat.le_refl _⟩, ⟨by (with_reducible repeat (first | apply Kd.R_alloc | apply Kd.R_drewN | apply Kd.R_drew)); exact HO_1062002.out⟩, ⟨bk_ BK1061.out⟩, ⟨hb1_ HB.out GE1061.out⟩⟩
          case round =>
           clear H'; (try clear c3); (try clear c7); (try clear c7b0); (try clear c7b1); (try clear c7b2); (try clear c8); (try clear c17); (try clear c17b0); (try clear c18); (try clear c18b0); (try clear c19); (try clear c19b0); (try clear c21); (try clear c21b0); (try clear c22); (try clear c22b0); (try clear c24); (try clear c29); (try clear c30); (try clear hcz12_0); (try clear hcz12_1); (try clear hcz12_2); (try clear hcz15_0); (try clear hcz15_1); (try clear hcz15_2); (try clear hcz20_0); (try clear hcz20_1); (try clear hcz20_2); (try clear hcz23_0); (try clear hcz23_1); (try clear hcz23_2); (try clear hcz27_0); (try clear hcz27_1); (try clear hcz27_2); (try clear hfz12_0); (try clear hfz12_1); (try clear hfz12_2); (try clear hfz15_0); (try clear hfz15_1); (try clear hfz15_2); (try clear hfz20_0); (try clear hfz20_1); (try clear hfz20_2); (try clear hfz23_0); (try clear hfz23_1); (try clear hfz23_2); (try clear hfz27_0); (try clear hfz27_1); (try clear hfz27_2); (try clear hx1069_0); (try clear hx1069_1); (try clear p1069); (try clear q1069); obtain ⟨x15_3, rfl, HA, HK3, HO_1062002, BK1061, HB⟩ := hrel
           cases gk with
           | zero => exact absurd HA.out (by simp [laws_FnNextOwn.l0])
           | succ k3 =>
            have H := HA.out; clear HA; simp only [laws_FnNextOwn.l0] at H
            by_cases c31 : x15_3 < (wrap64 (2 * (t1056.length : Int)))
            ·rw [if_pos c31] at H; have c31b0 : decide (x15_3 < (wrap64 (2 * (t1056.length : Int)))) = true := decide_eq_true c31; clear c31; by_cases c32 : (t1056.length : Int) = 0
             ·rw [if_pos c32] at H; exact absurd H (by simp)
             ·rw [if_neg c32] at H; have c32b0 : ((t1056.length : Int) == 0) = false := beq_eq_false_iff_ne.mpr c32; have c32b1 : ((t1056.length : Int) != 0) = true := bne_iff_ne.mpr c32; have c32b2 : ¬ (t1056 = []) := fun h_ => c32 (by rw [h_]; rfl)
              obtain ⟨⟨t1073, t1074, t1075⟩, A33, H⟩ := ab_ H; (try dsimp only at H); by_cases c34 : t1075 = true
              ·subst c34; replace H := i1_ H; obtain ⟨ji35, hji35⟩ : ∃ j_ : Int, (Int.tmod x15_3 (t1056.length : Int)) = j_ := ⟨_, rfl⟩; replace H : (if 0 ≤ (ji35) then (if (ji35) < (t1056.length : Int) then (if ((rd_T42 t1056 (ji35)).f0) = t1059 then (if t1073 ≥ t1060 then (if t1073 < t1063 then (some false) else (laws_FnNextOwn.l0 k3 l0 t1059 t1060 t1062 t1063 t1071 (wrap64 (x15_3 + 1)) t1054 t1055 t1056)) else (laws_FnNextOwn.l0 k3 l0 t1059 t1060 t1062 t1063 t1071 (wrap64 (x15_3 + 1)) t1054 t1055 t1056)) else (laws_FnNextOwn.l0 k3 l0 t1059 t1060 t1062 t1063 t1071 (wrap64 (x15_3 + 1)) t1054 t1055 t1056)) else (none)) else (none)) = some r := by first | (rw [hji35] at H; exact H) | (simp only [hji35] at H ⊢; exact H)
               (try rw [hji35] at A33); by_cases c36 : 0 ≤ (ji35)
               ·rw [if_pos c36] at H; have c36b0 : decide (0 ≤ (ji35)) = true := decide_eq_true c36; clear c36; by_cases c37 : (ji35) < (t1056.length : Int)
                ·rw [if_pos c37] at H; have c37b0 : decide ((ji35) < (t1056.length : Int)) = true := decide_eq_true c37; clear c37; by_cases c38 : ((rd_T42 t1056 (ji35)).f0) = t1059
                 ·rw [if_pos c38] at H; have c38b0 : (((rd_T42 t1056 (ji35)).f0) == t1059) = true := beq_iff_eq.mpr c38; have c38b1 : (((rd_T42 t1056 (ji35)).f0) != t1059) = false := bne_eq_false_iff_eq.mpr c38; clear c38; by_cases c39 : t1073 ≥ t1060
                  ·rw [if_pos c39] at H; have c39b0 : decide (t1060 ≤ t1073) = true := decide_eq_true c39; clear c39; by_cases c40 : t1073 < t1063
                   ·rw [if_pos c40] at H; have c40b0 : decide (t1073 < t1063) = true := decide_eq_true c40; clear c40; obtain rfl := Option.some.inj H; exact absurd hr_ (by decide)
                   ·rw [if_neg c40] at H; have c40b0 : decide (t1073 < t1063) = false := decide_eq_false c40; clear c40; have H' := Aside0.mk H; clear H; have hcz41_0 := bc_ BK1061.out 0 (.int .i64 t1054) rfl; have hcz41_1 := bc_ BK1061.out 1 (.int .i64 t1055) rfl; have hcz41_2 := bc_ BK1061.out 2 (.slice Ao13 t1056.length co13) rfl; have hfz41_0 := blk_frozen BK1061.out 0; have hfz41_1 := blk_frozen BK1061.out 1; have hfz41_2 := blk_frozen BK1061.out 2; try go_wp2
                    have n0_ := am_ (Kd.R_drew HO_1062002.out); have n1_ := am_ (blk_drew BK1061.out); have n2_ := am_ (below_drew1 HB.out); clear HO_1062002; clear BK1061; clear HB; have HO_1062002 := n0_; have BK1061 := n1_; have HB := n2_; clear n0_ n1_ n2_; refine start_ (n := 20) (S := fun w' => w'.cell? ⟨gb1061, 0, none⟩ = some (.int .i64 t1054) ∧ w'.cell? ⟨gb1061, 1, none⟩ = some (.int .i64 t1055) ∧ w'.cell? ⟨gb1061, 2, none⟩ = some (.slice Ao13 t1056.length co13)) (ds := []) #[false, false, false, false, false, false, false, false, false, false, false, false, false, false, false, false, false, false, false, false] (by kernel_rfl) rfl rfl ⟨(blk_cell BK1061.out 0).trans rfl, (blk_cell BK1061.out 1).trans rfl, (blk_cell BK1061.out 2).trans rfl⟩ (fun hHeld => ?_); refine with_tabW laws_FnNextOwn.tab18 laws_FnNextOwn.bits18 (fun HT_ HW_ => ?_)
                    generalize wr.drew = w42 at HO_1062002 BK1061 HB hHeld ⊢
                    refine pure_ (i := 1) (N := some 104) (v := ?_) (a' := ?_) #[false, true, false, false, false, false, false, false, false, false, false, false, false, false, false, false, false, false, false, false] rfl rfl (any_of HT_.out (by kernel_rfl)) (fun _ _ _ h => h) (Or.inl ⟨by rfl, ?_⟩) ?_ ?_
                    rotate_left
                    ·intro w'; go_simp
                     with_reducible rfl
                    rotate_left
                    ·simp only [Act.put, List.setIfInBounds_toArray, List.set_cons_zero, List.set_cons_succ, i64_w, i32_w]
                     rfl
                    refine pure_ (i := 2) (N := some 105) (v := ?_) (a' := ?_) #[false, true, true, false, false, false, false, false, false, false, false, false, false, false, false, false, false, false, false, false] rfl rfl (any_of HT_.out (by kernel_rfl)) (fun _ _ _ h => h) (Or.inl ⟨by rfl, ?_⟩) ?_ ?_
                    rotate_left
                    ·intro w'; go_simp
                     with_reducible rfl
                    rotate_left
                    ·simp only [Act.put, List.setIfInBounds_toArray, List.set_cons_zero, List.set_cons_succ, i64_w, i32_w]
                     rfl
                    refine pure_ (i := 6) (N := some 109) (v := ?_) (a' := ?_) #[false, true, true, false, false, false, true, false, false, false, false, false, false, false, false, false, false, false, false, false] rfl rfl (any_of HT_.out (by kernel_rfl)) (fun _ _ _ h => h) (Or.inl ⟨by rfl, ?_⟩) ?_ ?_
                    rotate_left
                    ·intro w'; go_simp
                     with_reducible rfl
                    rotate_left
                    ·simp only [Act.put, List.setIfInBounds_toArray, List.set_cons_zero, List.set_cons_succ, i64_w, i32_w]
                     rfl
                    refine pure_ (i := 7) (N := some 110) (v := ?_) (a' := ?_) #[false, true, true, false, false, false, true, true, false, false, false, false, false, false, false, false, false, false, false, false] rfl rfl (any_of HT_.out (by kernel_rfl)) (fun _ _ _ h => h) (Or.inl ⟨by rfl, ?_⟩) ?_ ?_
                    rotate_left
                    ·intro w'; go_simp
                     with_reducible rfl
                    rotate_left
                    ·simp only [Act.put, List.setIfInBounds_toArray, List.set_cons_zero, List.set_cons_succ, i64_w, i32_w]
                     rfl
                    refine pure_ (i := 8) (N := some 111) (v := ?_) (a' := ?_) #[false, true, true, false, false, false, true, true, true, false, false, false, false, false, false, false, false, false, false, false] rfl rfl (any_of HT_.out (by kernel_rfl)) (fun _ _ _ h => h) (Or.inl ⟨by rfl, ?_⟩) ?_ ?_
                    rotate_left
                    ·intro w'; go_simp
                     with_reducible rfl
                    rotate_left
                    ·simp only [Act.put, List.setIfInBounds_toArray, List.set_cons_zero, List.set_cons_succ, i64_w, i32_w]
                     rfl
                    refine take_ (i := 0) (N := some 103) (v := ?_) (a' := ?_) #[true, true, true, false, false, false, true, true, true, false, false, false, false, false, false, false, false, false, false, false] rfl rfl (take_ofW HT_.out HW_.out (by kernel_rfl)) (fun _ _ _ h => h) (Or.inl ⟨by rfl, ?_⟩) hHeld ?_ ?_
                    rotate_left
                    ·rintro w' ⟨s0, s1, s2⟩; go_simp
                     with_reducible rfl
                    rotate_left
                    ·simp only [Act.put, List.setIfInBounds_toArray, List.set_cons_zero, List.set_cons_succ, i64_w, i32_w]
                     rfl
                    refine take_ (i := 3) (N := some 106) (v := ?_) (a' := ?_) #[true, true, true, true, false, false, true, true, true, false, false, false, false, false, false, false, false, false, false, false] rfl rfl (take_ofW HT_.out HW_.out (by kernel_rfl)) (fun _ _ _ h => h) (Or.inl ⟨by rfl, ?_⟩) hHeld ?_ ?_
                    rotate_left
                    ·rintro w' ⟨s0, s1, s2⟩; go_simp
                     with_reducible rfl
                    rotate_left
                    ·simp only [Act.put, List.setIfInBounds_toArray, List.set_cons_zero, List.set_cons_succ, i64_w, i32_w]
                     rfl
                    refine pure_ (i := 4) (N := some 107) (v := ?_) (a' := ?_) #[true, true, true, true, true, false, true, true, true, false, false, false, false, false, false, false, false, false, false, false] rfl rfl (any_of HT_.out (by kernel_rfl)) (fun _ _ _ h => h) (Or.inl ⟨by rfl, ?_⟩) ?_ ?_
                    rotate_left
                    ·intro w'; go_simp
                     with_reducible rfl
                    rotate_left
                    ·simp only [Act.put, List.setIfInBounds_toArray, List.set_cons_zero, List.set_cons_succ, i64_w, i32_w]
                     rfl
                    refine pure_ (i := 5) (N := some 108) (v := ?_) (a' := ?_) #[true, true, true, true, true, true, true, true, true, false, false, false, false, false, false, false, false, false, false, false] rfl rfl (any_of HT_.out (by kernel_rfl)) (fun _ _ _ h => h) (Or.inl ⟨by rfl, ?_⟩) ?_ ?_
                    rotate_left
                    ·intro w'; go_simp
                     with_reducible rfl
                    rotate_left
                    ·simp only [Act.put, List.setIfInBounds_toArray, List.set_cons_zero, List.set_cons_succ, i64_w, i32_w]
                     rfl
                    refine take_ (i := 9) (N := some 112) (v := ?_) (a' := ?_) #[true, true, true, true, true, true, true, true, true, true, false, false, false, false, false, false, false, false, false, false] rfl rfl (take_ofW HT_.out HW_.out (by kernel_rfl)) (fun _ _ _ h => h) (Or.inl ⟨by rfl, ?_⟩) hHeld ?_ ?_
                    rotate_left
                    ·rintro w' ⟨s0, s1, s2⟩; go_simp
                     with_reducible rfl
                    rotate_left
                    ·simp only [Act.put, List.setIfInBounds_toArray, List.set_cons_zero, List.set_cons_succ, i64_w, i32_w]
                     rfl
                    refine pure_ (i := 10) (N := some 113) (v := ?_) (a' := ?_) #[true, true, true, true, true, true, true, true, true, true, true, false, false, false, false, false, false, false, false, false] rfl rfl (any_of HT_.out (by kernel_rfl)) (fun _ _ _ h => h) (Or.inl ⟨by rfl, ?_⟩) ?_ ?_
                    rotate_left
                    ·intro w'; go_simp
                     with_reducible rfl
                    rotate_left
                    ·simp only [Act.put, List.setIfInBounds_toArray, List.set_cons_zero, List.set_cons_succ, i64_w, i32_w]
                     rfl
                    refine pure_ (i := 11) (N := some 114) (v := ?_) (a' := ?_) #[true, true, true, true, true, true, true, true, true, true, true, true, false, false, false, false, false, false, false, false] rfl rfl (any_of HT_.out (by kernel_rfl)) (fun _ _ _ h => h) (Or.inl ⟨by rfl, ?_⟩) ?_ ?_
                    rotate_left
                    ·intro w'; go_simp
                     with_reducible rfl
                    rotate_left
                    ·simp only [Act.put, List.setIfInBounds_toArray, List.set_cons_zero, List.set_cons_succ, i64_w, i32_w]
                     rfl
                    refine pure_ (i := 12) (N := some 115) (v := ?_) (a' := ?_) #[true, true, true, true, true, true, true, true, true, true, true, true, true, false, false, false, false, false, false, false] rfl rfl (any_of HT_.out (by kernel_rfl)) (fun _ _ _ h => h) (Or.inl ⟨by rfl, ?_⟩) ?_ ?_
                    rotate_left
                    ·intro w'; go_simp
                     with_reducible rfl
                    rotate_left
                    ·simp only [Act.put, List.setIfInBounds_toArray, List.set_cons_zero, List.set_cons_succ, i64_w, i32_w]
                     rfl
                    refine join_ (σ := Nat) 2 #[true, true, true, true, true, true, true, true, true, true, true, true, true, true, true, true, true, true, false, false] (fun s_ => [(116, .tuple #[.agg #[.int .i64 t1073, .int .i64 t1074], .bool true]), (16, .pointer (some ⟨s_, 0, none⟩)), (102, .tuple #[.agg #[.int .i64 t1073, .int .i64 t1074], .bool true]), (117, .agg #[.int .i64 t1073, .int .i64 t1074]), (118, .bool true)]) (fun s_ w' => (w'.cell? ⟨gb1061, 0, none⟩ = some (.int .i64 t1054) ∧ w'.cell? ⟨gb1061, 1, none⟩ = some (.int .i64 t1055) ∧ w'.cell? ⟨gb1061, 2, none⟩ = some (.slice Ao13 t1056.length co13)) ∧ (Kd.R k42 42 w' w.heap.size (fun _ => True) (.slice Ao13 t1056.length co13) t1056) ∧ (w'.heap[gb1061]? = some (.cells #[.int .i64 t1054, .int .i64 t1055, .slice Ao13 t1056.length co13] 30 (0, 0))) ∧ (w'.heap[s_]? = some (.cells #[.int .i64 0, .int .i64 0] 25 (0, 0))) ∧ (w.heap.size ≤ s_) ∧ (w.heap.size ≤ s_) ∧ (gb1061 ≠ s_) ∧ (s_ ≠ gb1061) ∧ (Below w.heap.size w w')) ?_ ?_
                    rotate_left
                    ·intro hCont; refine two_ (i := 13) (j := 17) (Ni := some 116) (Nj := some 16) #[true, true, true, true, true, true, true, true, true, true, true, true, true, true, false, false, false, false, false, false] #[true, true, true, true, true, true, true, true, true, true, true, true, true, false, false, false, false, true, false, false] rfl rfl rfl rfl (two_of HT_.out (by kernel_rfl)) (by decide) (by decide) (fun K hK => ?_) (fun K hK => ?_)
                     ·skip
                      refine goes_ Try.func12 (by kernel_rfl) rfl #[.agg #[.int .i64 t1054, .int .i64 t1055, .slice Ao13 t1056.length co13], .int .i64 ji35, .int .i64 (wrap64 (t1071 - (wrap64 (Int.tdiv x15_3 (t1056.length : Int)))))] (by rfl) rfl rfl (by (try simp only [List.map_toArray, List.map_cons, List.map_nil]); first | done | (simp only [hji35]; rfl) | rfl | (simp only [List.length_drop, List.length_take]; rfl)) ?_
                      with_reducible refine (impl_Occurrence.calls k3 t1054 t1055 _ _ t1056 ji35 (wrap64 (t1071 - (wrap64 (Int.tdiv x15_3 (t1056.length : Int))))) t1073 t1074 true _ ?side1 ?side2 A33.out).mono ?_
                      (case side1 => repeat (first | exact (Kd.R_reads' HO_1062002.out).2.2 | (with_reducible refine Kd.C_alloc ?_ _) | (with_reducible refine Kd.C_drewN ?_ _) | (with_reducible refine Kd.C_drew ?_)))
                      (case side2 => exact (Kd.R_reads' HO_1062002.out).2.1)
                      rintro e w43 ⟨rfl, hb⟩; refine ⟨_, rfl, ?_⟩
                      have n0_ := am_ (Kd.R_below (by (with_reducible repeat (first | apply Kd.R_alloc | apply Kd.R_drewN | apply Kd.R_drew)); exact HO_1062002.out) hb); have n1_ := am_ (bb_ BK1061.out hb); have n2_ := am_ (below_step (hb1_ HB.out GE1061.out) hb); clear HO_1062002; clear BK1061; clear HB; have HO_1062002 := n0_; have BK1061 := n1_; have HB := n2_; clear n0_ n1_ n2_; (try clear hb); (try clear hb2); (try clear hk); (try clear hi); refine hK.out _ _ ⟨(blk_cell BK1061.out 0).trans rfl, (blk_cell BK1061.out 1).trans rfl, (blk_cell BK1061.out 2).trans rfl⟩ (fun hHeld => ?_)
                      clear hK K; refine norm_ (a' := ?_) ?_ ?_
                      rotate_left
                      ·show Act.put _ (some 116) _ = _
                       simp only [Act.put, List.setIfInBounds_toArray, List.set_cons_zero, List.set_cons_succ, i64_w, i32_w]
                       rfl
                      refine pure_ (i := 14) (N := some 102) (v := ?_) (a' := ?_) #[true, true, true, true, true, true, true, true, true, true, true, true, true, true, true, false, false, false, false, false] rfl rfl (any_of HT_.out (by kernel_rfl)) (fun _ _ _ h => h) (Or.inl ⟨by rfl, ?_⟩) ?_ ?_
                      rotate_left
                      ·intro w'; go_simp
                       with_reducible rfl
                      rotate_left
                      ·simp only [Act.put, List.setIfInBounds_toArray, List.set_cons_zero, List.set_cons_succ, i64_w, i32_w]
                       rfl
                      refine pure_ (i := 15) (N := some 117) (v := ?_) (a' := ?_) #[true, true, true, true, true, true, true, true, true, true, true, true, true, true, true, true, false, false, false, false] rfl rfl (any_of HT_.out (by kernel_rfl)) (fun _ _ _ h => h) (Or.inl ⟨by rfl, ?_⟩) ?_ ?_
                      rotate_left
                      ·intro w'; go_simp
                       with_reducible rfl
                      rotate_left
                      ·simp only [Act.put, List.setIfInBounds_toArray, List.set_cons_zero, List.set_cons_succ, i64_w, i32_w]
                       rfl
                      refine pure_ (i := 16) (N := some 118) (v := ?_) (a' := ?_) #[true, true, true, true, true, true, true, true, true, true, true, true, true, true, true, true, true, false, false, false] rfl rfl (any_of HT_.out (by kernel_rfl)) (fun _ _ _ h => h) (Or.inl ⟨by rfl, ?_⟩) ?_ ?_
                      rotate_left
                      ·intro w'; go_simp
                       with_reducible rfl
                      rotate_left
                      ·simp only [Act.put, List.setIfInBounds_toArray, List.set_cons_zero, List.set_cons_succ, i64_w, i32_w]
                       rfl
                      refine one_ (i := 17) (N := some 16) #[true, true, true, true, true, true, true, true, true, true, true, true, true, true, true, true, true, true, false, false] rfl rfl (one_of HT_.out (by kernel_rfl)) (by decide) (fun K hK => ?_)
                      refine box_step ?hg (N := 16) ?hd (cs := #[.int .i64 0, .int .i64 0]) (t := 25) ?hr ?_; (case hd => rfl); (case hg => rfl); (case hr => first|(go_simp;done)|(go_simp;rfl))
                      intro gb1076 hg w44 hbox hb; have n0_ := am_ (Kd.R_below (by (with_reducible repeat (first | apply Kd.R_alloc | apply Kd.R_drewN | apply Kd.R_drew)); exact HO_1062002.out) hb); have n1_ := am_ (bb_ BK1061.out hb); have n2_ := am_ (below_step (hb1_ HB.out GE1061.out) hb); have n3_ := am_ (hbox); have n4_ := am_ (hy_ hg (hb1_ HB.out GE1061.out) : w.heap.size ≤ gb1076); have n5_ := am_ (hy_ hg (hb1_ HB.out GE1061.out) : w.heap.size ≤ gb1076); have n6_ := am_ ((bl_ hg BK1061.out : gb1061 ≠ gb1076)); have n7_ := am_ ((bg_ hg BK1061.out : gb1076 ≠ gb1061)); clear HO_1062002; clear BK1061; clear HB; have HO_1062002 := n0_; have BK1061 := n1_; have HB := n2_; have BK1076 := n3_; have GW1076 := n4_; have GE1076 := n5_; have NB1061_1076 := n6_; have NB1076_1061 := n7_; clear n0_ n1_ n2_ n3_ n4_ n5_ n6_ n7_; clear hb hbox hg; refine hK.out _ _ ⟨(blk_cell BK1061.out 0).trans rfl, (blk_cell BK1061.out 1).trans rfl, (blk_cell BK1061.out 2).trans rfl⟩ (fun hHeld => ?_)
                      clear hK K; refine norm_ (a' := ?_) ?_ ?_
                      rotate_left
                      ·show Act.put _ (some 16) _ = _
                       simp only [Act.put, List.setIfInBounds_toArray, List.set_cons_zero, List.set_cons_succ, i64_w, i32_w]
                       rfl
                      exact norm_ (by simp only [putAll, Act.put, List.setIfInBounds_toArray, List.set_cons_zero, List.set_cons_succ]) (hCont (gb1076) _ ⟨hHeld, (by (with_reducible repeat (first | apply Kd.R_alloc | apply Kd.R_drewN | apply Kd.R_drew)); exact HO_1062002.out), (bk_ BK1061.out), (bk_ BK1076.out), GW1076.out, GE1076.out, NB1061_1076.out, NB1076_1061.out, (hb2_ HB.out GE1061.out GE1076.out)⟩)
                     ·skip
                      refine box_step ?hg (N := 16) ?hd (cs := #[.int .i64 0, .int .i64 0]) (t := 25) ?hr ?_; (case hd => rfl); (case hg => rfl); (case hr => first|(go_simp;done)|(go_simp;rfl))
                      intro gb1076 hg w43 hbox hb; have n0_ := am_ (Kd.R_below (by (with_reducible repeat (first | apply Kd.R_alloc | apply Kd.R_drewN | apply Kd.R_drew)); exact HO_1062002.out) hb); have n1_ := am_ (bb_ BK1061.out hb); have n2_ := am_ (below_step (hb1_ HB.out GE1061.out) hb); have n3_ := am_ (hbox); have n4_ := am_ (hy_ hg (hb1_ HB.out GE1061.out) : w.heap.size ≤ gb1076); have n5_ := am_ (hy_ hg (hb1_ HB.out GE1061.out) : w.heap.size ≤ gb1076); have n6_ := am_ ((bl_ hg BK1061.out : gb1061 ≠ gb1076)); have n7_ := am_ ((bg_ hg BK1061.out : gb1076 ≠ gb1061)); clear HO_1062002; clear BK1061; clear HB; have HO_1062002 := n0_; have BK1061 := n1_; have HB := n2_; have BK1076 := n3_; have GW1076 := n4_; have GE1076 := n5_; have NB1061_1076 := n6_; have NB1076_1061 := n7_; clear n0_ n1_ n2_ n3_ n4_ n5_ n6_ n7_; clear hb hbox hg; refine hK.out _ _ ⟨(blk_cell BK1061.out 0).trans rfl, (blk_cell BK1061.out 1).trans rfl, (blk_cell BK1061.out 2).trans rfl⟩ (fun hHeld => ?_)
                      clear hK K; refine norm_ (a' := ?_) ?_ ?_
                      rotate_left
                      ·show Act.put _ (some 16) _ = _
                       simp only [Act.put, List.setIfInBounds_toArray, List.set_cons_zero, List.set_cons_succ, i64_w, i32_w]
                       rfl
                      refine one_ (i := 13) (N := some 116) #[true, true, true, true, true, true, true, true, true, true, true, true, true, true, false, false, false, true, false, false] rfl rfl (one_of HT_.out (by kernel_rfl)) (by decide) (fun K hK => ?_)
                      refine goes_ Try.func12 (by kernel_rfl) rfl #[.agg #[.int .i64 t1054, .int .i64 t1055, .slice Ao13 t1056.length co13], .int .i64 ji35, .int .i64 (wrap64 (t1071 - (wrap64 (Int.tdiv x15_3 (t1056.length : Int)))))] (by rfl) rfl rfl (by (try simp only [List.map_toArray, List.map_cons, List.map_nil]); first | done | (simp only [hji35]; rfl) | rfl | (simp only [List.length_drop, List.length_take]; rfl)) ?_
                      with_reducible refine (impl_Occurrence.calls k3 t1054 t1055 _ _ t1056 ji35 (wrap64 (t1071 - (wrap64 (Int.tdiv x15_3 (t1056.length : Int))))) t1073 t1074 true _ ?side1 ?side2 A33.out).mono ?_
                      (case side1 => repeat (first | exact (Kd.R_reads' HO_1062002.out).2.2 | (with_reducible refine Kd.C_alloc ?_ _) | (with_reducible refine Kd.C_drewN ?_ _) | (with_reducible refine Kd.C_drew ?_)))
                      (case side2 => exact (Kd.R_reads' HO_1062002.out).2.1)
                      rintro e w44 ⟨rfl, hb⟩; refine ⟨_, rfl, ?_⟩
                      have n0_ := am_ (Kd.R_below (by (with_reducible repeat (first | apply Kd.R_alloc | apply Kd.R_drewN | apply Kd.R_drew)); exact HO_1062002.out) hb); have n1_ := am_ (bb_ BK1061.out hb); have n2_ := am_ (bb_ BK1076.out hb); have n3_ := am_ (below_step (hb2_ HB.out GE1061.out GE1076.out) hb); clear HO_1062002; clear BK1061; clear BK1076; clear HB; have HO_1062002 := n0_; have BK1061 := n1_; have BK1076 := n2_; have HB := n3_; clear n0_ n1_ n2_ n3_; (try clear hb); (try clear hb2); (try clear hk); (try clear hi); refine hK.out _ _ ⟨(blk_cell BK1061.out 0).trans rfl, (blk_cell BK1061.out 1).trans rfl, (blk_cell BK1061.out 2).trans rfl⟩ (fun hHeld => ?_)
                      clear hK K; refine norm_ (a' := ?_) ?_ ?_
                      rotate_left
                      ·show Act.put _ (some 116) _ = _
                       simp only [Act.put, List.setIfInBounds_toArray, List.set_cons_zero, List.set_cons_succ, i64_w, i32_w]
                       rfl
                      refine pure_ (i := 14) (N := some 102) (v := ?_) (a' := ?_) #[true, true, true, true, true, true, true, true, true, true, true, true, true, true, true, false, false, true, false, false] rfl rfl (any_of HT_.out (by kernel_rfl)) (fun _ _ _ h => h) (Or.inl ⟨by rfl, ?_⟩) ?_ ?_
                      rotate_left
                      ·intro w'; go_simp
                       with_reducible rfl
                      rotate_left
                      ·simp only [Act.put, List.setIfInBounds_toArray, List.set_cons_zero, List.set_cons_succ, i64_w, i32_w]
                       rfl
                      refine pure_ (i := 15) (N := some 117) (v := ?_) (a' := ?_) #[true, true, true, true, true, true, true, true, true, true, true, true, true, true, true, true, false, true, false, false] rfl rfl (any_of HT_.out (by kernel_rfl)) (fun _ _ _ h => h) (Or.inl ⟨by rfl, ?_⟩) ?_ ?_
                      rotate_left
                      ·intro w'; go_simp
                       with_reducible rfl
                      rotate_left
                      ·simp only [Act.put, List.setIfInBounds_toArray, List.set_cons_zero, List.set_cons_succ, i64_w, i32_w]
                       rfl
                      refine pure_ (i := 16) (N := some 118) (v := ?_) (a' := ?_) #[true, true, true, true, true, true, true, true, true, true, true, true, true, true, true, true, true, true, false, false] rfl rfl (any_of HT_.out (by kernel_rfl)) (fun _ _ _ h => h) (Or.inl ⟨by rfl, ?_⟩) ?_ ?_
                      rotate_left
                      ·intro w'; go_simp
                       with_reducible rfl
                      rotate_left
                      ·simp only [Act.put, List.setIfInBounds_toArray, List.set_cons_zero, List.set_cons_succ, i64_w, i32_w]
                       rfl
                      exact norm_ (by simp only [putAll, Act.put, List.setIfInBounds_toArray, List.set_cons_zero, List.set_cons_succ]) (hCont (gb1076) _ ⟨hHeld, (by (with_reducible repeat (first | apply Kd.R_alloc | apply Kd.R_drewN | apply Kd.R_drew)); exact HO_1062002.out), (bk_ BK1061.out), (bk_ BK1076.out), GW1076.out, GE1076.out, NB1061_1076.out, NB1076_1061.out, (hb2_ HB.out GE1061.out GE1076.out)⟩)
                    rintro gb1076 w45 ⟨hS_, h0_, h1_, h2_, h3_, h4_, h5_, h6_, h7_⟩; have n0_ : Aside0 (Kd.R k42 42 w45 w.heap.size (fun _ => True) (.slice Ao13 t1056.length co13) t1056) := ⟨h0_⟩; have n1_ : Aside0 (w45.heap[gb1061]? = some (.cells #[.int .i64 t1054, .int .i64 t1055, .slice Ao13 t1056.length co13] 30 (0, 0))) := ⟨h1_⟩; have n2_ : Aside0 (w45.heap[gb1076]? = some (.cells #[.int .i64 0, .int .i64 0] 25 (0, 0))) := ⟨h2_⟩; have n3_ : Aside0 (w.heap.size ≤ gb1076) := ⟨h3_⟩; have n4_ : Aside0 (w.heap.size ≤ gb1076) := ⟨h4_⟩; have n5_ : Aside0 (gb1061 ≠ gb1076) := ⟨h5_⟩; have n6_ : Aside0 (gb1076 ≠ gb1061) := ⟨h6_⟩; have n7_ : Aside0 (Below w.heap.size w w45) := ⟨h7_⟩; clear HO_1062002; clear BK1061; clear HB; clear h0_ h1_ h2_ h3_ h4_ h5_ h6_ h7_; have HO_1062002 := n0_; have BK1061 := n1_; have BK1076 := n2_; have GW1076 := n3_; have GE1076 := n4_; have NB1061_1076 := n5_; have NB1076_1061 := n6_; have HB := n7_; clear n0_ n1_ n2_ n3_ n4_ n5_ n6_ n7_; have hHeld : w45.cell? ⟨gb1061, 0, none⟩ = some (.int .i64 t1054) ∧ w45.cell? ⟨gb1061, 1, none⟩ = some (.int .i64 t1055) ∧ w45.cell? ⟨gb1061, 2, none⟩ = some (.slice Ao13 t1056.length co13) := hS_; refine norm_ (a' := ?_) ?_ ?_
                    rotate_left
                    ·simp only [putAll, Act.put, List.setIfInBounds_toArray, List.set_cons_zero, List.set_cons_succ]
                     rfl
                    refine one_ (i := 18) (N := none) #[true, true, true, true, true, true, true, true, true, true, true, true, true, true, true, true, true, true, true, false] rfl rfl (one_of HT_.out (by kernel_rfl)) (by decide) (fun K hK => ?_)
                    have hs46 : w45.cell? ⟨gb1076, 0, none⟩ = some (.int .i64 0) := (blk_cell BK1076.out 0).trans rfl; have hfs46 := blk_frozen BK1076.out 0; have hns46_0 := NB1061_1076.out; have hms46_0 := NB1076_1061.out; have hs47 : w45.cell? ⟨gb1076, 1, none⟩ = some (.int .i64 0) := (blk_cell BK1076.out 1).trans rfl; have hfs47 := blk_frozen BK1076.out 1; have hns47_0 := NB1061_1076.out; have hms47_0 := NB1076_1061.out; refine skip_ (w1 := ?_) (by rfl) rfl ?_ ?_
                    rotate_left
                    ·go_simp
                     rfl
                    refine hK.out _ _ ⟨(ct_ NB1061_1076.out ((ct_ NB1061_1076.out (hHeld.1)))), (ct_ NB1061_1076.out ((ct_ NB1061_1076.out (hHeld.2.1)))), (ct_ NB1061_1076.out ((ct_ NB1061_1076.out (hHeld.2.2))))⟩ (fun hHeld => ?_)
                    clear hK K; refine pure_ (i := 19) (N := some 17) (v := ?_) (a' := ?_) #[true, true, true, true, true, true, true, true, true, true, true, true, true, true, true, true, true, true, true, true] rfl rfl (any_of HT_.out (by kernel_rfl)) (fun _ _ _ h => h) (Or.inl ⟨by rfl, ?_⟩) ?_ ?_
                    rotate_left
                    ·intro w'; go_simp
                     with_reducible rfl
                    rotate_left
                    ·simp only [Act.put, List.setIfInBounds_toArray, List.set_cons_zero, List.set_cons_succ, i64_w, i32_w]
                     rfl
                    refine done_ (done_of HT_.out (by kernel_rfl)) ?_
                    try go_wp2
                    have n0_ : Aside0 (Kd.R k42 42 ((w45.setCell ⟨gb1076, 0, none⟩ (.int .i64 t1073)).setCell ⟨gb1076, 1, none⟩ (.int .i64 t1074)) w.heap.size (fun _ => True) (.slice Ao13 t1056.length co13) t1056) := ⟨by (with_reducible repeat (first | apply Kd.R_alloc | apply Kd.R_drewN | apply Kd.R_drew)); exact Kd.R_mono (Kd.R_far (p := ⟨gb1076, 1, none⟩) (Kd.R_far (p := ⟨gb1076, 0, none⟩) (Kd.R_types HO_1062002.out BK1076.out (by decide)) (fun _ hk => hk.2) (.int .i64 t1073)) (fun _ hk => hk.2) (.int .i64 t1074)) (fun _ hk => trivial)⟩; have n1_ : Aside0 (((w45.setCell ⟨gb1076, 0, none⟩ (.int .i64 t1073)).setCell ⟨gb1076, 1, none⟩ (.int .i64 t1074)).heap[gb1061]? = some (.cells #[.int .i64 t1054, .int .i64 t1055, .slice Ao13 t1056.length co13] 30 (0, 0))) := ⟨by (with_reducible repeat (first | refine blk_drewN ?_ _ | refine blk_drew ?_ | refine blk_alloc ?_ _)); refine blk_far ?_ NB1061_1076.out _; (with_reducible repeat (first | refine blk_drewN ?_ _ | refine blk_drew ?_ | refine blk_alloc ?_ _)); refine blk_far ?_ NB1061_1076.out _; (with_reducible repeat (first | refine blk_drewN ?_ _ | refine blk_drew ?_ | refine blk_alloc ?_ _)); exact BK1061.out⟩
                    have n2_ : Aside0 (((w45.setCell ⟨gb1076, 0, none⟩ (.int .i64 t1073)).setCell ⟨gb1076, 1, none⟩ (.int .i64 t1074)).heap[gb1076]? = some (.cells #[.int .i64 t1073, .int .i64 t1074] 25 (0, 0))) := ⟨by (with_reducible repeat (first | refine blk_drewN ?_ _ | refine blk_drew ?_ | refine blk_alloc ?_ _)); refine blk_put (cs := #[.int .i64 t1073, .int .i64 0]) ?_ 1 _ rfl; (with_reducible repeat (first | refine blk_drewN ?_ _ | refine blk_drew ?_ | refine blk_alloc ?_ _)); refine blk_put (cs := #[.int .i64 0, .int .i64 0]) ?_ 0 _ rfl; (with_reducible repeat (first | refine blk_drewN ?_ _ | refine blk_drew ?_ | refine blk_alloc ?_ _)); exact BK1076.out⟩; have n3_ : Aside0 (Below w.heap.size w ((w45.setCell ⟨gb1076, 0, none⟩ (.int .i64 t1073)).setCell ⟨gb1076, 1, none⟩ (.int .i64 t1074))) := ⟨hb2_ HB.out GE1061.out GE1076.out⟩; (try clear HO_1062002); (try clear BK1061); (try clear BK1076); (try clear HB); generalize ((w45.setCell ⟨gb1076, 0, none⟩ (.int .i64 t1073)).setCell ⟨gb1076, 1, none⟩ (.int .i64 t1074)) = w48 at n0_ n1_ n2_ n3_ ⊢
                    have HO_1062002 := n0_; have BK1061 := n1_; have BK1076 := n2_; have HB := n3_; clear n0_ n1_ n2_ n3_; have n0_ := am_ (Kd.R_drew HO_1062002.out); have n1_ := am_ (blk_drew BK1061.out); have n2_ := am_ (blk_drew BK1076.out); have n3_ := am_ (below_drew1 HB.out); clear HO_1062002; clear BK1061; clear BK1076; clear HB; have HO_1062002 := n0_; have BK1061 := n1_; have BK1076 := n2_; have HB := n3_; clear n0_ n1_ n2_ n3_; have p1077 : 0 ≤ ((ji35) : Int) := of_decide_eq_true (by first | (with_reducible assumption) | assumption); have q1077 : (ji35) < (t1056.length : Int) := of_decide_eq_true (by first | (with_reducible assumption) | assumption); obtain ⟨ad1077, e1077, hx1077_0, hx1077_1⟩ := at_T42 (Kd.R_reads' HO_1062002.out).2.2 (ji35) p1077 q1077
                    cases e1077
                    replace p1077 := eq_true p1077; replace q1077 := eq_true q1077; refine start_ (n := 27) (S := fun w' => w'.cell? ⟨gb1061, 0, none⟩ = some (.int .i64 t1054) ∧ w'.cell? ⟨gb1061, 1, none⟩ = some (.int .i64 t1055) ∧ w'.cell? ⟨gb1061, 2, none⟩ = some (.slice (some ad1077) t1056.length co13) ∧ w'.cell? ⟨gb1076, 0, none⟩ = some (.int .i64 t1073) ∧ w'.cell? ⟨gb1076, 1, none⟩ = some (.int .i64 t1074) ∧ w'.cell? (ad1077.add (((ji35)).toNat * 2)) = some (.int .i64 ((rd_T42 t1056 (ji35)).f0)) ∧ w'.cell? ⟨(ad1077.add (((ji35)).toNat * 2)).block, (ad1077.add (((ji35)).toNat * 2)).off + 1, none⟩ = some (.int .i64 ((rd_T42 t1056 (ji35)).f1))) (ds := []) #[false, false, false, false, false, false, false, false, false, false, false, false, false, false, false, false, false, false, false, false, false, false, false, false, false, false, false] (by kernel_rfl) rfl rfl ⟨(blk_cell BK1061.out 0).trans rfl, (blk_cell BK1061.out 1).trans rfl, (blk_cell BK1061.out 2).trans rfl, (blk_cell BK1076.out 0).trans rfl, (blk_cell BK1076.out 1).trans rfl, hx1077_0, hx1077_1⟩ (fun hHeld => ?_); refine with_tabW laws_FnNextOwn.tab19 laws_FnNextOwn.bits19 (fun HT_ HW_ => ?_)
                    generalize w48.drew = w49 at HO_1062002 BK1061 BK1076 HB hx1077_0 hx1077_1 hHeld ⊢
                    refine pure_ (i := 0) (N := some 119) (v := ?_) (a' := ?_) #[true, false, false, false, false, false, false, false, false, false, false, false, false, false, false, false, false, false, false, false, false, false, false, false, false, false, false] rfl rfl (any_of HT_.out (by kernel_rfl)) (fun _ _ _ h => h) (Or.inl ⟨by rfl, ?_⟩) ?_ ?_
                    rotate_left
                    ·intro w'; go_simp
                     with_reducible rfl
                    rotate_left
                    ·simp only [Act.put, List.setIfInBounds_toArray, List.set_cons_zero, List.set_cons_succ, i64_w, i32_w]
                     rfl
                    refine pure_ (i := 1) (N := some 120) (v := ?_) (a' := ?_) #[true, true, false, false, false, false, false, false, false, false, false, false, false, false, false, false, false, false, false, false, false, false, false, false, false, false, false] rfl rfl (any_of HT_.out (by kernel_rfl)) (fun _ _ _ h => h) (Or.inl ⟨by rfl, ?_⟩) ?_ ?_
                    rotate_left
                    ·intro w'; go_simp
                     with_reducible rfl
                    rotate_left
                    ·simp only [Act.put, List.setIfInBounds_toArray, List.set_cons_zero, List.set_cons_succ, i64_w, i32_w]
                     rfl
                    refine pure_ (i := 2) (N := some 121) (v := ?_) (a' := ?_) #[true, true, true, false, false, false, false, false, false, false, false, false, false, false, false, false, false, false, false, false, false, false, false, false, false, false, false] rfl rfl (any_of HT_.out (by kernel_rfl)) (fun _ _ _ h => h) (Or.inl ⟨by rfl, ?_⟩) ?_ ?_
                    rotate_left
                    ·intro w'; go_simp
                     with_reducible rfl
                    rotate_left
                    ·simp only [Act.put, List.setIfInBounds_toArray, List.set_cons_zero, List.set_cons_succ, i64_w, i32_w]
                     rfl
                    refine pure_ (i := 4) (N := some 123) (v := ?_) (a' := ?_) #[true, true, true, false, true, false, false, false, false, false, false, false, false, false, false, false, false, false, false, false, false, false, false, false, false, false, false] rfl rfl (any_of HT_.out (by kernel_rfl)) (fun _ _ _ h => h) (Or.inl ⟨by rfl, ?_⟩) ?_ ?_
                    rotate_left
                    ·intro w'; go_simp
                     with_reducible rfl
                    rotate_left
                    ·simp only [Act.put, List.setIfInBounds_toArray, List.set_cons_zero, List.set_cons_succ, i64_w, i32_w]
                     rfl
                    refine pure_ (i := 5) (N := some 124) (v := ?_) (a' := ?_) #[true, true, true, false, true, true, false, false, false, false, false, false, false, false, false, false, false, false, false, false, false, false, false, false, false, false, false] rfl rfl (any_of HT_.out (by kernel_rfl)) (fun _ _ _ h => h) (Or.inl ⟨by rfl, ?_⟩) ?_ ?_
                    rotate_left
                    ·intro w'; go_simp
                     with_reducible rfl
                    rotate_left
                    ·simp only [Act.put, List.setIfInBounds_toArray, List.set_cons_zero, List.set_cons_succ, i64_w, i32_w]
                     rfl
                    refine pure_ (i := 12) (N := some 131) (v := ?_) (a' := ?_) #[true, true, true, false, true, true, false, false, false, false, false, false, true, false, false, false, false, false, false, false, false, false, false, false, false, false, false] rfl rfl (any_of HT_.out (by kernel_rfl)) (fun _ _ _ h => h) (Or.inl ⟨by rfl, ?_⟩) ?_ ?_
                    rotate_left
                    ·intro w'; go_simp
                     with_reducible rfl
                    rotate_left
                    ·simp only [Act.put, List.setIfInBounds_toArray, List.set_cons_zero, List.set_cons_succ, i64_w, i32_w]
                     rfl
                    refine take_ (i := 3) (N := some 122) (v := ?_) (a' := ?_) #[true, true, true, true, true, true, false, false, false, false, false, false, true, false, false, false, false, false, false, false, false, false, false, false, false, false, false] rfl rfl (take_ofW HT_.out HW_.out (by kernel_rfl)) (fun _ _ _ h => h) (Or.inl ⟨by rfl, ?_⟩) hHeld ?_ ?_
                    rotate_left
                    ·rintro w' ⟨s0, s1, s2, s3, s4, s5, s6⟩; go_simp
                     with_reducible rfl
                    rotate_left
                    ·simp only [Act.put, List.setIfInBounds_toArray, List.set_cons_zero, List.set_cons_succ, i64_w, i32_w]
                     rfl
                    refine take_ (i := 6) (N := some 125) (v := ?_) (a' := ?_) #[true, true, true, true, true, true, true, false, false, false, false, false, true, false, false, false, false, false, false, false, false, false, false, false, false, false, false] rfl rfl (take_ofW HT_.out HW_.out (by kernel_rfl)) (fun _ _ _ h => h) (Or.inl ⟨by rfl, ?_⟩) hHeld ?_ ?_
                    rotate_left
                    ·rintro w' ⟨s0, s1, s2, s3, s4, s5, s6⟩; go_simp
                     with_reducible rfl
                    rotate_left
                    ·simp only [Act.put, List.setIfInBounds_toArray, List.set_cons_zero, List.set_cons_succ, i64_w, i32_w]
                     rfl
                    refine pure_ (i := 7) (N := some 126) (v := ?_) (a' := ?_) #[true, true, true, true, true, true, true, true, false, false, false, false, true, false, false, false, false, false, false, false, false, false, false, false, false, false, false] rfl rfl (any_of HT_.out (by kernel_rfl)) (fun _ _ _ h => h) (Or.inl ⟨by rfl, ?_⟩) ?_ ?_
                    rotate_left
                    ·intro w'; go_simp
                     with_reducible rfl
                    rotate_left
                    ·simp only [Act.put, List.setIfInBounds_toArray, List.set_cons_zero, List.set_cons_succ, i64_w, i32_w]
                     rfl
                    refine pure_ (i := 8) (N := some 127) (v := ?_) (a' := ?_) #[true, true, true, true, true, true, true, true, true, false, false, false, true, false, false, false, false, false, false, false, false, false, false, false, false, false, false] rfl rfl (any_of HT_.out (by kernel_rfl)) (fun _ _ _ h => h) (Or.inl ⟨by rfl, ?_⟩) ?_ ?_
                    rotate_left
                    ·intro w'; go_simp
                     with_reducible rfl
                    rotate_left
                    ·simp only [Act.put, List.setIfInBounds_toArray, List.set_cons_zero, List.set_cons_succ, i64_w, i32_w]
                     rfl
                    refine pure_ (i := 9) (N := some 128) (v := ?_) (a' := ?_) #[true, true, true, true, true, true, true, true, true, true, false, false, true, false, false, false, false, false, false, false, false, false, false, false, false, false, false] rfl rfl (any_of HT_.out (by kernel_rfl)) (fun _ _ _ h => h) (Or.inl ⟨by rfl, ?_⟩) ?_ ?_
                    rotate_left
                    ·intro w'; go_simp
                     with_reducible rfl
                    rotate_left
                    ·simp only [Act.put, List.setIfInBounds_toArray, List.set_cons_zero, List.set_cons_succ, i64_w, i32_w]
                     rfl
                    refine pure_ (i := 10) (N := some 129) (v := ?_) (a' := ?_) #[true, true, true, true, true, true, true, true, true, true, true, false, true, false, false, false, false, false, false, false, false, false, false, false, false, false, false] rfl rfl (any_of HT_.out (by kernel_rfl)) (fun _ _ _ h => h) (Or.inl ⟨by rfl, ?_⟩) ?_ ?_
                    rotate_left
                    ·intro w'; go_simp
                     with_reducible rfl
                    rotate_left
                    ·simp only [Act.put, List.setIfInBounds_toArray, List.set_cons_zero, List.set_cons_succ, i64_w, i32_w]
                     rfl
                    refine take_ (i := 11) (N := some 130) (v := ?_) (a' := ?_) #[true, true, true, true, true, true, true, true, true, true, true, true, true, false, false, false, false, false, false, false, false, false, false, false, false, false, false] rfl rfl (take_ofW HT_.out HW_.out (by kernel_rfl)) (fun _ _ _ h => h) (Or.inl ⟨by rfl, ?_⟩) hHeld ?_ ?_
                    rotate_left
                    ·rintro w' ⟨s0, s1, s2, s3, s4, s5, s6⟩; go_simp
                     with_reducible rfl
                    rotate_left
                    ·simp only [Act.put, List.setIfInBounds_toArray, List.set_cons_zero, List.set_cons_succ, i64_w, i32_w]
                     rfl
                    refine pure_ (i := 13) (N := some 132) (v := ?_) (a' := ?_) #[true, true, true, true, true, true, true, true, true, true, true, true, true, true, false, false, false, false, false, false, false, false, false, false, false, false, false] rfl rfl (any_of HT_.out (by kernel_rfl)) (fun _ _ _ h => h) (Or.inl ⟨by rfl, ?_⟩) ?_ ?_
                    rotate_left
                    ·intro w'; go_simp
                     with_reducible rfl
                    rotate_left
                    ·simp only [Act.put, List.setIfInBounds_toArray, List.set_cons_zero, List.set_cons_succ, i64_w, i32_w]
                     rfl
                    refine pure_ (i := 14) (N := some 133) (v := ?_) (a' := ?_) #[true, true, true, true, true, true, true, true, true, true, true, true, true, true, true, false, false, false, false, false, false, false, false, false, false, false, false] rfl rfl (any_of HT_.out (by kernel_rfl)) (fun _ _ _ h => h) (Or.inl ⟨by rfl, ?_⟩) ?_ ?_
                    rotate_left
                    ·intro w'; go_simp
                     with_reducible rfl
                    rotate_left
                    ·simp only [Act.put, List.setIfInBounds_toArray, List.set_cons_zero, List.set_cons_succ, i64_w, i32_w]
                     rfl
                    refine pure_ (i := 15) (N := some 134) (v := ?_) (a' := ?_) #[true, true, true, true, true, true, true, true, true, true, true, true, true, true, true, true, false, false, false, false, false, false, false, false, false, false, false] rfl rfl (any_of HT_.out (by kernel_rfl)) (fun _ _ _ h => h) (Or.inl ⟨by rfl, ?_⟩) ?_ ?_
                    rotate_left
                    ·intro w'; go_simp
                     with_reducible rfl
                    rotate_left
                    ·simp only [Act.put, List.setIfInBounds_toArray, List.set_cons_zero, List.set_cons_succ, i64_w, i32_w]
                     rfl
                    refine pure_ (i := 16) (N := some 135) (v := ?_) (a' := ?_) #[true, true, true, true, true, true, true, true, true, true, true, true, true, true, true, true, true, false, false, false, false, false, false, false, false, false, false] rfl rfl (any_of HT_.out (by kernel_rfl)) (fun _ _ _ h => h) (Or.inl ⟨by rfl, ?_⟩) ?_ ?_
                    rotate_left
                    ·intro w'; go_simp
                     with_reducible rfl
                    rotate_left
                    ·simp only [Act.put, List.setIfInBounds_toArray, List.set_cons_zero, List.set_cons_succ, i64_w, i32_w]
                     rfl
                    refine pure_ (i := 18) (N := some 137) (v := ?_) (a' := ?_) #[true, true, true, true, true, true, true, true, true, true, true, true, true, true, true, true, true, false, true, false, false, false, false, false, false, false, false] rfl rfl (any_of HT_.out (by kernel_rfl)) (fun _ _ _ h => h) (Or.inl ⟨by rfl, ?_⟩) ?_ ?_
                    rotate_left
                    ·intro w'; go_simp
                     with_reducible rfl
                    rotate_left
                    ·simp only [Act.put, List.setIfInBounds_toArray, List.set_cons_zero, List.set_cons_succ, i64_w, i32_w]
                     rfl
                    refine take_ (i := 17) (N := some 136) (v := ?_) (a' := ?_) #[true, true, true, true, true, true, true, true, true, true, true, true, true, true, true, true, true, true, true, false, false, false, false, false, false, false, false] rfl rfl (take_ofW HT_.out HW_.out (by kernel_rfl)) (fun _ _ _ h => h) (Or.inl ⟨by rfl, ?_⟩) hHeld ?_ ?_
                    rotate_left
                    ·rintro w' ⟨s0, s1, s2, s3, s4, s5, s6⟩; go_simp
                     with_reducible rfl
                    rotate_left
                    ·simp only [Act.put, List.setIfInBounds_toArray, List.set_cons_zero, List.set_cons_succ, i64_w, i32_w]
                     rfl
                    refine pure_ (i := 19) (N := some 138) (v := ?_) (a' := ?_) #[true, true, true, true, true, true, true, true, true, true, true, true, true, true, true, true, true, true, true, true, false, false, false, false, false, false, false] rfl rfl (any_of HT_.out (by kernel_rfl)) (fun _ _ _ h => h) (Or.inl ⟨by rfl, ?_⟩) ?_ ?_
                    rotate_left
                    ·intro w'; go_simp
                     with_reducible rfl
                    rotate_left
                    ·simp only [Act.put, List.setIfInBounds_toArray, List.set_cons_zero, List.set_cons_succ, i64_w, i32_w]
                     rfl
                    refine pure_ (i := 20) (N := some 139) (v := ?_) (a' := ?_) #[true, true, true, true, true, true, true, true, true, true, true, true, true, true, true, true, true, true, true, true, true, false, false, false, false, false, false] rfl rfl (any_of HT_.out (by kernel_rfl)) (fun _ _ _ h => h) (Or.inl ⟨by rfl, ?_⟩) ?_ ?_
                    rotate_left
                    ·intro w'; go_simp
                     with_reducible rfl
                    rotate_left
                    ·simp only [Act.put, List.setIfInBounds_toArray, List.set_cons_zero, List.set_cons_succ, i64_w, i32_w]
                     rfl
                    refine pure_ (i := 21) (N := some 140) (v := ?_) (a' := ?_) #[true, true, true, true, true, true, true, true, true, true, true, true, true, true, true, true, true, true, true, true, true, true, false, false, false, false, false] rfl rfl (any_of HT_.out (by kernel_rfl)) (fun _ _ _ h => h) (Or.inl ⟨by rfl, ?_⟩) ?_ ?_
                    rotate_left
                    ·intro w'; go_simp
                     with_reducible rfl
                    rotate_left
                    ·simp only [Act.put, List.setIfInBounds_toArray, List.set_cons_zero, List.set_cons_succ, i64_w, i32_w]
                     rfl
                    refine pure_ (i := 22) (N := some 141) (v := ?_) (a' := ?_) #[true, true, true, true, true, true, true, true, true, true, true, true, true, true, true, true, true, true, true, true, true, true, true, false, false, false, false] rfl rfl (any_of HT_.out (by kernel_rfl)) (fun _ _ _ h => h) (Or.inl ⟨by rfl, ?_⟩) ?_ ?_
                    rotate_left
                    ·intro w'; go_simp
                     with_reducible rfl
                    rotate_left
                    ·simp only [Act.put, List.setIfInBounds_toArray, List.set_cons_zero, List.set_cons_succ, i64_w, i32_w]
                     rfl
                    refine pure_ (i := 24) (N := some 143) (v := ?_) (a' := ?_) #[true, true, true, true, true, true, true, true, true, true, true, true, true, true, true, true, true, true, true, true, true, true, true, false, true, false, false] rfl rfl (any_of HT_.out (by kernel_rfl)) (fun _ _ _ h => h) (Or.inl ⟨by rfl, ?_⟩) ?_ ?_
                    rotate_left
                    ·intro w'; go_simp
                     with_reducible rfl
                    rotate_left
                    ·simp only [Act.put, List.setIfInBounds_toArray, List.set_cons_zero, List.set_cons_succ, i64_w, i32_w]
                     rfl
                    refine take_ (i := 23) (N := some 142) (v := ?_) (a' := ?_) #[true, true, true, true, true, true, true, true, true, true, true, true, true, true, true, true, true, true, true, true, true, true, true, true, true, false, false] rfl rfl (take_ofW HT_.out HW_.out (by kernel_rfl)) (fun _ _ _ h => h) (Or.inl ⟨by rfl, ?_⟩) hHeld ?_ ?_
                    rotate_left
                    ·rintro w' ⟨s0, s1, s2, s3, s4, s5, s6⟩; go_simp
                     with_reducible rfl
                    rotate_left
                    ·simp only [Act.put, List.setIfInBounds_toArray, List.set_cons_zero, List.set_cons_succ, i64_w, i32_w]
                     rfl
                    refine pure_ (i := 25) (N := some 144) (v := ?_) (a' := ?_) #[true, true, true, true, true, true, true, true, true, true, true, true, true, true, true, true, true, true, true, true, true, true, true, true, true, true, false] rfl rfl (any_of HT_.out (by kernel_rfl)) (fun _ _ _ h => h) (Or.inl ⟨by rfl, ?_⟩) ?_ ?_
                    rotate_left
                    ·intro w'; go_simp
                     with_reducible rfl
                    rotate_left
                    ·simp only [Act.put, List.setIfInBounds_toArray, List.set_cons_zero, List.set_cons_succ, i64_w, i32_w]
                     rfl
                    refine pure_ (i := 26) (N := some 145) (v := ?_) (a' := ?_) #[true, true, true, true, true, true, true, true, true, true, true, true, true, true, true, true, true, true, true, true, true, true, true, true, true, true, true] rfl rfl (any_of HT_.out (by kernel_rfl)) (fun _ _ _ h => h) (Or.inl ⟨by rfl, ?_⟩) ?_ ?_
                    rotate_left
                    ·intro w'; go_simp
                     with_reducible rfl
                    rotate_left
                    ·simp only [Act.put, List.setIfInBounds_toArray, List.set_cons_zero, List.set_cons_succ, i64_w, i32_w]
                     rfl
                    refine done_ (done_of HT_.out (by kernel_rfl)) ?_
                    try go_wp2
                    go_roundg k3
                    case measure => have := HJ8.out; have := HJ25.out; have := HK3.out; omega
                    case rel => exact ⟨(wrap64 (x15_3 + 1)), (by first | rfl | (simp; done) | (simp [*]; done)), H', ⟨by have := HJ8.out; have := HJ25.out; have := HK3.out; omega⟩, ⟨by (with_reducible repeat (first | apply Kd.R_alloc | apply Kd.R_drewN | apply Kd.R_drew)); exact HO_1062002.out⟩, ⟨bk_ BK1061.out⟩, ⟨hb2_ HB.out GE1061.out GE1076.out⟩⟩
                  ·rw [if_neg c39] at H; have c39b0 : decide (t1060 ≤ t1073) = false := decide_eq_false c39; clear c39; have H' := Aside0.mk H; clear H; have hcz50_0 := bc_ BK1061.out 0 (.int .i64 t1054) rfl; have hcz50_1 := bc_ BK1061.out 1 (.int .i64 t1055) rfl; have hcz50_2 := bc_ BK1061.out 2 (.slice Ao13 t1056.length co13) rfl; have hfz50_0 := blk_frozen BK1061.out 0; have hfz50_1 := blk_frozen BK1061.out 1; have hfz50_2 := blk_frozen BK1061.out 2; try go_wp2
                   have n0_ := am_ (Kd.R_drew HO_1062002.out); have n1_ := am_ (blk_drew BK1061.out); have n2_ := am_ (below_drew1 HB.out); clear HO_1062002; clear BK1061; clear HB; have HO_1062002 := n0_; have BK1061 := n1_; have HB := n2_; clear n0_ n1_ n2_; refine start_ (n := 20) (S := fun w' => w'.cell? ⟨gb1061, 0, none⟩ = some (.int .i64 t1054) ∧ w'.cell? ⟨gb1061, 1, none⟩ = some (.int .i64 t1055) ∧ w'.cell? ⟨gb1061, 2, none⟩ = some (.slice Ao13 t1056.length co13)) (ds := []) #[false, false, false, false, false, false, false, false, false, false, false, false, false, false, false, false, false, false, false, false] (by kernel_rfl) rfl rfl ⟨(blk_cell BK1061.out 0).trans rfl, (blk_cell BK1061.out 1).trans rfl, (blk_cell BK1061.out 2).trans rfl⟩ (fun hHeld => ?_); refine with_tabW laws_FnNextOwn.tab18 laws_FnNextOwn.bits18 (fun HT_ HW_ => ?_)
                   generalize wr.drew = w51 at HO_1062002 BK1061 HB hHeld ⊢
                   refine pure_ (i := 1) (N := some 104) (v := ?_) (a' := ?_) #[false, true, false, false, false, false, false, false, false, false, false, false, false, false, false, false, false, false, false, false] rfl rfl (any_of HT_.out (by kernel_rfl)) (fun _ _ _ h => h) (Or.inl ⟨by rfl, ?_⟩) ?_ ?_
                   rotate_left
                   ·intro w'; go_simp
                    with_reducible rfl
                   rotate_left
                   ·simp only [Act.put, List.setIfInBounds_toArray, List.set_cons_zero, List.set_cons_succ, i64_w, i32_w]
                    rfl
                   refine pure_ (i := 2) (N := some 105) (v := ?_) (a' := ?_) #[false, true, true, false, false, false, false, false, false, false, false, false, false, false, false, false, false, false, false, false] rfl rfl (any_of HT_.out (by kernel_rfl)) (fun _ _ _ h => h) (Or.inl ⟨by rfl, ?_⟩) ?_ ?_
                   rotate_left
                   ·intro w'; go_simp
                    with_reducible rfl
                   rotate_left
                   ·simp only [Act.put, List.setIfInBounds_toArray, List.set_cons_zero, List.set_cons_succ, i64_w, i32_w]
                    rfl
                   refine pure_ (i := 6) (N := some 109) (v := ?_) (a' := ?_) #[false, true, true, false, false, false, true, false, false, false, false, false, false, false, false, false, false, false, false, false] rfl rfl (any_of HT_.out (by kernel_rfl)) (fun _ _ _ h => h) (Or.inl ⟨by rfl, ?_⟩) ?_ ?_
                   rotate_left
                   ·intro w'; go_simp
                    with_reducible rfl
                   rotate_left
                   ·simp only [Act.put, List.setIfInBounds_toArray, List.set_cons_zero, List.set_cons_succ, i64_w, i32_w]
                    rfl
                   refine pure_ (i := 7) (N := some 110) (v := ?_) (a' := ?_) #[false, true, true, false, false, false, true, true, false, false, false, false, false, false, false, false, false, false, false, false] rfl rfl (any_of HT_.out (by kernel_rfl)) (fun _ _ _ h => h) (Or.inl ⟨by rfl, ?_⟩) ?_ ?_
                   rotate_left
                   ·intro w'; go_simp
                    with_reducible rfl
                   rotate_left
                   ·simp only [Act.put, List.setIfInBounds_toArray, List.set_cons_zero, List.set_cons_succ, i64_w, i32_w]
                    rfl
                   refine pure_ (i := 8) (N := some 111) (v := ?_) (a' := ?_) #[false, true, true, false, false, false, true, true, true, false, false, false, false, false, false, false, false, false, false, false] rfl rfl (any_of HT_.out (by kernel_rfl)) (fun _ _ _ h => h) (Or.inl ⟨by rfl, ?_⟩) ?_ ?_
                   rotate_left
                   ·intro w'; go_simp
                    with_reducible rfl
                   rotate_left
                   ·simp only [Act.put, List.setIfInBounds_toArray, List.set_cons_zero, List.set_cons_succ, i64_w, i32_w]
                    rfl
                   refine take_ (i := 0) (N := some 103) (v := ?_) (a' := ?_) #[true, true, true, false, false, false, true, true, true, false, false, false, false, false, false, false, false, false, false, false] rfl rfl (take_ofW HT_.out HW_.out (by kernel_rfl)) (fun _ _ _ h => h) (Or.inl ⟨by rfl, ?_⟩) hHeld ?_ ?_
                   rotate_left
                   ·rintro w' ⟨s0, s1, s2⟩; go_simp
                    with_reducible rfl
                   rotate_left
                   ·simp only [Act.put, List.setIfInBounds_toArray, List.set_cons_zero, List.set_cons_succ, i64_w, i32_w]
                    rfl
                   refine take_ (i := 3) (N := some 106) (v := ?_) (a' := ?_) #[true, true, true, true, false, false, true, true, true, false, false, false, false, false, false, false, false, false, false, false] rfl rfl (take_ofW HT_.out HW_.out (by kernel_rfl)) (fun _ _ _ h => h) (Or.inl ⟨by rfl, ?_⟩) hHeld ?_ ?_
                   rotate_left
                   ·rintro w' ⟨s0, s1, s2⟩; go_simp
                    with_reducible rfl
                   rotate_left
                   ·simp only [Act.put, List.setIfInBounds_toArray, List.set_cons_zero, List.set_cons_succ, i64_w, i32_w]
                    rfl
                   refine pure_ (i := 4) (N := some 107) (v := ?_) (a' := ?_) #[true, true, true, true, true, false, true, true, true, false, false, false, false, false, false, false, false, false, false, false] rfl rfl (any_of HT_.out (by kernel_rfl)) (fun _ _ _ h => h) (Or.inl ⟨by rfl, ?_⟩) ?_ ?_
                   rotate_left
                   ·intro w'; go_simp
                    with_reducible rfl
                   rotate_left
                   ·simp only [Act.put, List.setIfInBounds_toArray, List.set_cons_zero, List.set_cons_succ, i64_w, i32_w]
                    rfl
                   refine pure_ (i := 5) (N := some 108) (v := ?_) (a' := ?_) #[true, true, true, true, true, true, true, true, true, false, false, false, false, false, false, false, false, false, false, false] rfl rfl (any_of HT_.out (by kernel_rfl)) (fun _ _ _ h => h) (Or.inl ⟨by rfl, ?_⟩) ?_ ?_
                   rotate_left
                   ·intro w'; go_simp
                    with_reducible rfl
                   rotate_left
                   ·simp only [Act.put, List.setIfInBounds_toArray, List.set_cons_zero, List.set_cons_succ, i64_w, i32_w]
                    rfl
                   refine take_ (i := 9) (N := some 112) (v := ?_) (a' := ?_) #[true, true, true, true, true, true, true, true, true, true, false, false, false, false, false, false, false, false, false, false] rfl rfl (take_ofW HT_.out HW_.out (by kernel_rfl)) (fun _ _ _ h => h) (Or.inl ⟨by rfl, ?_⟩) hHeld ?_ ?_
                   rotate_left
                   ·rintro w' ⟨s0, s1, s2⟩; go_simp
                    with_reducible rfl
                   rotate_left
                   ·simp only [Act.put, List.setIfInBounds_toArray, List.set_cons_zero, List.set_cons_succ, i64_w, i32_w]
                    rfl
                   refine pure_ (i := 10) (N := some 113) (v := ?_) (a' := ?_) #[true, true, true, true, true, true, true, true, true, true, true, false, false, false, false, false, false, false, false, false] rfl rfl (any_of HT_.out (by kernel_rfl)) (fun _ _ _ h => h) (Or.inl ⟨by rfl, ?_⟩) ?_ ?_
                   rotate_left
                   ·intro w'; go_simp
                    with_reducible rfl
                   rotate_left
                   ·simp only [Act.put, List.setIfInBounds_toArray, List.set_cons_zero, List.set_cons_succ, i64_w, i32_w]
                    rfl
                   refine pure_ (i := 11) (N := some 114) (v := ?_) (a' := ?_) #[true, true, true, true, true, true, true, true, true, true, true, true, false, false, false, false, false, false, false, false] rfl rfl (any_of HT_.out (by kernel_rfl)) (fun _ _ _ h => h) (Or.inl ⟨by rfl, ?_⟩) ?_ ?_
                   rotate_left
                   ·intro w'; go_simp
                    with_reducible rfl
                   rotate_left
                   ·simp only [Act.put, List.setIfInBounds_toArray, List.set_cons_zero, List.set_cons_succ, i64_w, i32_w]
                    rfl
                   refine pure_ (i := 12) (N := some 115) (v := ?_) (a' := ?_) #[true, true, true, true, true, true, true, true, true, true, true, true, true, false, false, false, false, false, false, false] rfl rfl (any_of HT_.out (by kernel_rfl)) (fun _ _ _ h => h) (Or.inl ⟨by rfl, ?_⟩) ?_ ?_
                   rotate_left
                   ·intro w'; go_simp
                    with_reducible rfl
                   rotate_left
                   ·simp only [Act.put, List.setIfInBounds_toArray, List.set_cons_zero, List.set_cons_succ, i64_w, i32_w]
                    rfl
                   refine join_ (σ := Nat) 2 #[true, true, true, true, true, true, true, true, true, true, true, true, true, true, true, true, true, true, false, false] (fun s_ => [(116, .tuple #[.agg #[.int .i64 t1073, .int .i64 t1074], .bool true]), (16, .pointer (some ⟨s_, 0, none⟩)), (102, .tuple #[.agg #[.int .i64 t1073, .int .i64 t1074], .bool true]), (117, .agg #[.int .i64 t1073, .int .i64 t1074]), (118, .bool true)]) (fun s_ w' => (w'.cell? ⟨gb1061, 0, none⟩ = some (.int .i64 t1054) ∧ w'.cell? ⟨gb1061, 1, none⟩ = some (.int .i64 t1055) ∧ w'.cell? ⟨gb1061, 2, none⟩ = some (.slice Ao13 t1056.length co13)) ∧ (Kd.R k42 42 w' w.heap.size (fun _ => True) (.slice Ao13 t1056.length co13) t1056) ∧ (w'.heap[gb1061]? = some (.cells #[.int .i64 t1054, .int .i64 t1055, .slice Ao13 t1056.length co13] 30 (0, 0))) ∧ (w'.heap[s_]? = some (.cells #[.int .i64 0, .int .i64 0] 25 (0, 0))) ∧ (w.heap.size ≤ s_) ∧ (w.heap.size ≤ s_) ∧ (gb1061 ≠ s_) ∧ (s_ ≠ gb1061) ∧ (Below w.heap.size w w')) ?_ ?_
                   rotate_left
                   ·intro hCont; refine two_ (i := 13) (j := 17) (Ni := some 116) (Nj := some 16) #[true, true, true, true, true, true, true, true, true, true, true, true, true, true, false, false, false, false, false, false] #[true, true, true, true, true, true, true, true, true, true, true, true, true, false, false, false, false, true, false, false] rfl rfl rfl rfl (two_of HT_.out (by kernel_rfl)) (by decide) (by decide) (fun K hK => ?_) (fun K hK => ?_)
                    ·skip
                     refine goes_ Try.func12 (by kernel_rfl) rfl #[.agg #[.int .i64 t1054, .int .i64 t1055, .slice Ao13 t1056.length co13], .int .i64 ji35, .int .i64 (wrap64 (t1071 - (wrap64 (Int.tdiv x15_3 (t1056.length : Int)))))] (by rfl) rfl rfl (by (try simp only [List.map_toArray, List.map_cons, List.map_nil]); first | done | (simp only [hji35]; rfl) | rfl | (simp only [List.length_drop, List.length_take]; rfl)) ?_
                     with_reducible refine (impl_Occurrence.calls k3 t1054 t1055 _ _ t1056 ji35 (wrap64 (t1071 - (wrap64 (Int.tdiv x15_3 (t1056.length : Int))))) t1073 t1074 true _ ?side1 ?side2 A33.out).mono ?_
                     (case side1 => repeat (first | exact (Kd.R_reads' HO_1062002.out).2.2 | (with_reducible refine Kd.C_alloc ?_ _) | (with_reducible refine Kd.C_drewN ?_ _) | (with_reducible refine Kd.C_drew ?_)))
                     (case side2 => exact (Kd.R_reads' HO_1062002.out).2.1)
                     rintro e w52 ⟨rfl, hb⟩; refine ⟨_, rfl, ?_⟩
                     have n0_ := am_ (Kd.R_below (by (with_reducible repeat (first | apply Kd.R_alloc | apply Kd.R_drewN | apply Kd.R_drew)); exact HO_1062002.out) hb); have n1_ := am_ (bb_ BK1061.out hb); have n2_ := am_ (below_step (hb1_ HB.out GE1061.out) hb); clear HO_1062002; clear BK1061; clear HB; have HO_1062002 := n0_; have BK1061 := n1_; have HB := n2_; clear n0_ n1_ n2_; (try clear hb); (try clear hb2); (try clear hk); (try clear hi); refine hK.out _ _ ⟨(blk_cell BK1061.out 0).trans rfl, (blk_cell BK1061.out 1).trans rfl, (blk_cell BK1061.out 2).trans rfl⟩ (fun hHeld => ?_)
                     clear hK K; refine norm_ (a' := ?_) ?_ ?_
                     rotate_left
                     ·show Act.put _ (some 116) _ = _
                      simp only [Act.put, List.setIfInBounds_toArray, List.set_cons_zero, List.set_cons_succ, i64_w, i32_w]
                      rfl
                     refine pure_ (i := 14) (N := some 102) (v := ?_) (a' := ?_) #[true, true, true, true, true, true, true, true, true, true, true, true, true, true, true, false, false, false, false, false] rfl rfl (any_of HT_.out (by kernel_rfl)) (fun _ _ _ h => h) (Or.inl ⟨by rfl, ?_⟩) ?_ ?_
                     rotate_left
                     ·intro w'; go_simp
                      with_reducible rfl
                     rotate_left
                     ·simp only [Act.put, List.setIfInBounds_toArray, List.set_cons_zero, List.set_cons_succ, i64_w, i32_w]
                      rfl
                     refine pure_ (i := 15) (N := some 117) (v := ?_) (a' := ?_) #[true, true, true, true, true, true, true, true, true, true, true, true, true, true, true, true, false, false, false, false] rfl rfl (any_of HT_.out (by kernel_rfl)) (fun _ _ _ h => h) (Or.inl ⟨by rfl, ?_⟩) ?_ ?_
                     rotate_left
                     ·intro w'; go_simp
                      with_reducible rfl
                     rotate_left
                     ·simp only [Act.put, List.setIfInBounds_toArray, List.set_cons_zero, List.set_cons_succ, i64_w, i32_w]
                      rfl
                     refine pure_ (i := 16) (N := some 118) (v := ?_) (a' := ?_) #[true, true, true, true, true, true, true, true, true, true, true, true, true, true, true, true, true, false, false, false] rfl rfl (any_of HT_.out (by kernel_rfl)) (fun _ _ _ h => h) (Or.inl ⟨by rfl, ?_⟩) ?_ ?_
                     rotate_left
                     ·intro w'; go_simp
                      with_reducible rfl
                     rotate_left
                     ·simp only [Act.put, List.setIfInBounds_toArray, List.set_cons_zero, List.set_cons_succ, i64_w, i32_w]
                      rfl
                     refine one_ (i := 17) (N := some 16) #[true, true, true, true, true, true, true, true, true, true, true, true, true, true, true, true, true, true, false, false] rfl rfl (one_of HT_.out (by kernel_rfl)) (by decide) (fun K hK => ?_)
                     refine box_step ?hg (N := 16) ?hd (cs := #[.int .i64 0, .int .i64 0]) (t := 25) ?hr ?_; (case hd => rfl); (case hg => rfl); (case hr => first|(go_simp;done)|(go_simp;rfl))
                     intro gb1076 hg w53 hbox hb; have n0_ := am_ (Kd.R_below (by (with_reducible repeat (first | apply Kd.R_alloc | apply Kd.R_drewN | apply Kd.R_drew)); exact HO_1062002.out) hb); have n1_ := am_ (bb_ BK1061.out hb); have n2_ := am_ (below_step (hb1_ HB.out GE1061.out) hb); have n3_ := am_ (hbox); have n4_ := am_ (hy_ hg (hb1_ HB.out GE1061.out) : w.heap.size ≤ gb1076); have n5_ := am_ (hy_ hg (hb1_ HB.out GE1061.out) : w.heap.size ≤ gb1076); have n6_ := am_ ((bl_ hg BK1061.out : gb1061 ≠ gb1076)); have n7_ := am_ ((bg_ hg BK1061.out : gb1076 ≠ gb1061)); clear HO_1062002; clear BK1061; clear HB; have HO_1062002 := n0_; have BK1061 := n1_; have HB := n2_; have BK1076 := n3_; have GW1076 := n4_; have GE1076 := n5_; have NB1061_1076 := n6_; have NB1076_1061 := n7_; clear n0_ n1_ n2_ n3_ n4_ n5_ n6_ n7_; clear hb hbox hg; refine hK.out _ _ ⟨(blk_cell BK1061.out 0).trans rfl, (blk_cell BK1061.out 1).trans rfl, (blk_cell BK1061.out 2).trans rfl⟩ (fun hHeld => ?_)
                     clear hK K; refine norm_ (a' := ?_) ?_ ?_
                     rotate_left
                     ·show Act.put _ (some 16) _ = _
                      simp only [Act.put, List.setIfInBounds_toArray, List.set_cons_zero, List.set_cons_succ, i64_w, i32_w]
                      rfl
                     exact norm_ (by simp only [putAll, Act.put, List.setIfInBounds_toArray, List.set_cons_zero, List.set_cons_succ]) (hCont (gb1076) _ ⟨hHeld, (by (with_reducible repeat (first | apply Kd.R_alloc | apply Kd.R_drewN | apply Kd.R_drew)); exact HO_1062002.out), (bk_ BK1061.out), (bk_ BK1076.out), GW1076.out, GE1076.out, NB1061_1076.out, NB1076_1061.out, (hb2_ HB.out GE1061.out GE1076.out)⟩)
                    ·skip
                     refine box_step ?hg (N := 16) ?hd (cs := #[.int .i64 0, .int .i64 0]) (t := 25) ?hr ?_; (case hd => rfl); (case hg => rfl); (case hr => first|(go_simp;done)|(go_simp;rfl))
                     intro gb1076 hg w52 hbox hb; have n0_ := am_ (Kd.R_below (by (with_reducible repeat (first | apply Kd.R_alloc | apply Kd.R_drewN | apply Kd.R_drew)); exact HO_1062002.out) hb); have n1_ := am_ (bb_ BK1061.out hb); have n2_ := am_ (below_step (hb1_ HB.out GE1061.out) hb); have n3_ := am_ (hbox); have n4_ := am_ (hy_ hg (hb1_ HB.out GE1061.out) : w.heap.size ≤ gb1076); have n5_ := am_ (hy_ hg (hb1_ HB.out GE1061.out) : w.heap.size ≤ gb1076); have n6_ := am_ ((bl_ hg BK1061.out : gb1061 ≠ gb1076)); have n7_ := am_ ((bg_ hg BK1061.out : gb1076 ≠ gb1061)); clear HO_1062002; clear BK1061; clear HB; have HO_1062002 := n0_; have BK1061 := n1_; have HB := n2_; have BK1076 := n3_; have GW1076 := n4_; have GE1076 := n5_; have NB1061_1076 := n6_; have NB1076_1061 := n7_; clear n0_ n1_ n2_ n3_ n4_ n5_ n6_ n7_; clear hb hbox hg; refine hK.out _ _ ⟨(blk_cell BK1061.out 0).trans rfl, (blk_cell BK1061.out 1).trans rfl, (blk_cell BK1061.out 2).trans rfl⟩ (fun hHeld => ?_)
                     clear hK K; refine norm_ (a' := ?_) ?_ ?_
                     rotate_left
                     ·show Act.put _ (some 16) _ = _
                      simp only [Act.put, List.setIfInBounds_toArray, List.set_cons_zero, List.set_cons_succ, i64_w, i32_w]
                      rfl
                     refine one_ (i := 13) (N := some 116) #[true, true, true, true, true, true, true, true, true, true, true, true, true, true, false, false, false, true, false, false] rfl rfl (one_of HT_.out (by kernel_rfl)) (by decide) (fun K hK => ?_)
                     refine goes_ Try.func12 (by kernel_rfl) rfl #[.agg #[.int .i64 t1054, .int .i64 t1055, .slice Ao13 t1056.length co13], .int .i64 ji35, .int .i64 (wrap64 (t1071 - (wrap64 (Int.tdiv x15_3 (t1056.length : Int)))))] (by rfl) rfl rfl (by (try simp only [List.map_toArray, List.map_cons, List.map_nil]); first | done | (simp only [hji35]; rfl) | rfl | (simp only [List.length_drop, List.length_take]; rfl)) ?_
                     with_reducible refine (impl_Occurrence.calls k3 t1054 t1055 _ _ t1056 ji35 (wrap64 (t1071 - (wrap64 (Int.tdiv x15_3 (t1056.length : Int))))) t1073 t1074 true _ ?side1 ?side2 A33.out).mono ?_
                     (case side1 => repeat (first | exact (Kd.R_reads' HO_1062002.out).2.2 | (with_reducible refine Kd.C_alloc ?_ _) | (with_reducible refine Kd.C_drewN ?_ _) | (with_reducible refine Kd.C_drew ?_)))
                     (case side2 => exact (Kd.R_reads' HO_1062002.out).2.1)
                     rintro e w53 ⟨rfl, hb⟩; refine ⟨_, rfl, ?_⟩
                     have n0_ := am_ (Kd.R_below (by (with_reducible repeat (first | apply Kd.R_alloc | apply Kd.R_drewN | apply Kd.R_drew)); exact HO_1062002.out) hb); have n1_ := am_ (bb_ BK1061.out hb); have n2_ := am_ (bb_ BK1076.out hb); have n3_ := am_ (below_step (hb2_ HB.out GE1061.out GE1076.out) hb); clear HO_1062002; clear BK1061; clear BK1076; clear HB; have HO_1062002 := n0_; have BK1061 := n1_; have BK1076 := n2_; have HB := n3_; clear n0_ n1_ n2_ n3_; (try clear hb); (try clear hb2); (try clear hk); (try clear hi); refine hK.out _ _ ⟨(blk_cell BK1061.out 0).trans rfl, (blk_cell BK1061.out 1).trans rfl, (blk_cell BK1061.out 2).trans rfl⟩ (fun hHeld => ?_)
                     clear hK K; refine norm_ (a' := ?_) ?_ ?_
                     rotate_left
                     ·show Act.put _ (some 116) _ = _
                      simp only [Act.put, List.setIfInBounds_toArray, List.set_cons_zero, List.set_cons_succ, i64_w, i32_w]
                      rfl
                     refine pure_ (i := 14) (N := some 102) (v := ?_) (a' := ?_) #[true, true, true, true, true, true, true, true, true, true, true, true, true, true, true, false, false, true, false, false] rfl rfl (any_of HT_.out (by kernel_rfl)) (fun _ _ _ h => h) (Or.inl ⟨by rfl, ?_⟩) ?_ ?_
                     rotate_left
                     ·intro w'; go_simp
                      with_reducible rfl
                     rotate_left
                     ·simp only [Act.put, List.setIfInBounds_toArray, List.set_cons_zero, List.set_cons_succ, i64_w, i32_w]
                      rfl
                     refine pure_ (i := 15) (N := some 117) (v := ?_) (a' := ?_) #[true, true, true, true, true, true, true, true, true, true, true, true, true, true, true, true, false, true, false, false] rfl rfl (any_of HT_.out (by kernel_rfl)) (fun _ _ _ h => h) (Or.inl ⟨by rfl, ?_⟩) ?_ ?_
                     rotate_left
                     ·intro w'; go_simp
                      with_reducible rfl
                     rotate_left
                     ·simp only [Act.put, List.setIfInBounds_toArray, List.set_cons_zero, List.set_cons_succ, i64_w, i32_w]
                      rfl
                     refine pure_ (i := 16) (N := some 118) (v := ?_) (a' := ?_) #[true, true, true, true, true, true, true, true, true, true, true, true, true, true, true, true, true, true, false, false] rfl rfl (any_of HT_.out (by kernel_rfl)) (fun _ _ _ h => h) (Or.inl ⟨by rfl, ?_⟩) ?_ ?_
                     rotate_left
                     ·intro w'; go_simp
                      with_reducible rfl
                     rotate_left
                     ·simp only [Act.put, List.setIfInBounds_toArray, List.set_cons_zero, List.set_cons_succ, i64_w, i32_w]
                      rfl
                     exact norm_ (by simp only [putAll, Act.put, List.setIfInBounds_toArray, List.set_cons_zero, List.set_cons_succ]) (hCont (gb1076) _ ⟨hHeld, (by (with_reducible repeat (first | apply Kd.R_alloc | apply Kd.R_drewN | apply Kd.R_drew)); exact HO_1062002.out), (bk_ BK1061.out), (bk_ BK1076.out), GW1076.out, GE1076.out, NB1061_1076.out, NB1076_1061.out, (hb2_ HB.out GE1061.out GE1076.out)⟩)
                   rintro gb1076 w54 ⟨hS_, h0_, h1_, h2_, h3_, h4_, h5_, h6_, h7_⟩; have n0_ : Aside0 (Kd.R k42 42 w54 w.heap.size (fun _ => True) (.slice Ao13 t1056.length co13) t1056) := ⟨h0_⟩; have n1_ : Aside0 (w54.heap[gb1061]? = some (.cells #[.int .i64 t1054, .int .i64 t1055, .slice Ao13 t1056.length co13] 30 (0, 0))) := ⟨h1_⟩; have n2_ : Aside0 (w54.heap[gb1076]? = some (.cells #[.int .i64 0, .int .i64 0] 25 (0, 0))) := ⟨h2_⟩; have n3_ : Aside0 (w.heap.size ≤ gb1076) := ⟨h3_⟩; have n4_ : Aside0 (w.heap.size ≤ gb1076) := ⟨h4_⟩; have n5_ : Aside0 (gb1061 ≠ gb1076) := ⟨h5_⟩; have n6_ : Aside0 (gb1076 ≠ gb1061) := ⟨h6_⟩; have n7_ : Aside0 (Below w.heap.size w w54) := ⟨h7_⟩; clear HO_1062002; clear BK1061; clear HB; clear h0_ h1_ h2_ h3_ h4_ h5_ h6_ h7_; have HO_1062002 := n0_; have BK1061 := n1_; have BK1076 := n2_; have GW1076 := n3_; have GE1076 := n4_; have NB1061_1076 := n5_; have NB1076_1061 := n6_; have HB := n7_; clear n0_ n1_ n2_ n3_ n4_ n5_ n6_ n7_; have hHeld : w54.cell? ⟨gb1061, 0, none⟩ = some (.int .i64 t1054) ∧ w54.cell? ⟨gb1061, 1, none⟩ = some (.int .i64 t1055) ∧ w54.cell? ⟨gb1061, 2, none⟩ = some (.slice Ao13 t1056.length co13) := hS_; refine norm_ (a' := ?_) ?_ ?_
                   rotate_left
                   ·simp only [putAll, Act.put, List.setIfInBounds_toArray, List.set_cons_zero, List.set_cons_succ]
                    rfl
                   refine one_ (i := 18) (N := none) #[true, true, true, true, true, true, true, true, true, true, true, true, true, true, true, true, true, true, true, false] rfl rfl (one_of HT_.out (by kernel_rfl)) (by decide) (fun K hK => ?_)
                   have hs55 : w54.cell? ⟨gb1076, 0, none⟩ = some (.int .i64 0) := (blk_cell BK1076.out 0).trans rfl; have hfs55 := blk_frozen BK1076.out 0; have hns55_0 := NB1061_1076.out; have hms55_0 := NB1076_1061.out; have hs56 : w54.cell? ⟨gb1076, 1, none⟩ = some (.int .i64 0) := (blk_cell BK1076.out 1).trans rfl; have hfs56 := blk_frozen BK1076.out 1; have hns56_0 := NB1061_1076.out; have hms56_0 := NB1076_1061.out; refine skip_ (w1 := ?_) (by rfl) rfl ?_ ?_
                   rotate_left
                   ·go_simp
                    rfl
                   refine hK.out _ _ ⟨(ct_ NB1061_1076.out ((ct_ NB1061_1076.out (hHeld.1)))), (ct_ NB1061_1076.out ((ct_ NB1061_1076.out (hHeld.2.1)))), (ct_ NB1061_1076.out ((ct_ NB1061_1076.out (hHeld.2.2))))⟩ (fun hHeld => ?_)
                   clear hK K; refine pure_ (i := 19) (N := some 17) (v := ?_) (a' := ?_) #[true, true, true, true, true, true, true, true, true, true, true, true, true, true, true, true, true, true, true, true] rfl rfl (any_of HT_.out (by kernel_rfl)) (fun _ _ _ h => h) (Or.inl ⟨by rfl, ?_⟩) ?_ ?_
                   rotate_left
                   ·intro w'; go_simp
                    with_reducible rfl
                   rotate_left
                   ·simp only [Act.put, List.setIfInBounds_toArray, List.set_cons_zero, List.set_cons_succ, i64_w, i32_w]
                    rfl
                   refine done_ (done_of HT_.out (by kernel_rfl)) ?_
                   try go_wp2
                   have n0_ : Aside0 (Kd.R k42 42 ((w54.setCell ⟨gb1076, 0, none⟩ (.int .i64 t1073)).setCell ⟨gb1076, 1, none⟩ (.int .i64 t1074)) w.heap.size (fun _ => True) (.slice Ao13 t1056.length co13) t1056) := ⟨by (with_reducible repeat (first | apply Kd.R_alloc | apply Kd.R_drewN | apply Kd.R_drew)); exact Kd.R_mono (Kd.R_far (p := ⟨gb1076, 1, none⟩) (Kd.R_far (p := ⟨gb1076, 0, none⟩) (Kd.R_types HO_1062002.out BK1076.out (by decide)) (fun _ hk => hk.2) (.int .i64 t1073)) (fun _ hk => hk.2) (.int .i64 t1074)) (fun _ hk => trivial)⟩; have n1_ : Aside0 (((w54.setCell ⟨gb1076, 0, none⟩ (.int .i64 t1073)).setCell ⟨gb1076, 1, none⟩ (.int .i64 t1074)).heap[gb1061]? = some (.cells #[.int .i64 t1054, .int .i64 t1055, .slice Ao13 t1056.length co13] 30 (0, 0))) := ⟨by (with_reducible repeat (first | refine blk_drewN ?_ _ | refine blk_drew ?_ | refine blk_alloc ?_ _)); refine blk_far ?_ NB1061_1076.out _; (with_reducible repeat (first | refine blk_drewN ?_ _ | refine blk_drew ?_ | refine blk_alloc ?_ _)); refine blk_far ?_ NB1061_1076.out _; (with_reducible repeat (first | refine blk_drewN ?_ _ | refine blk_drew ?_ | refine blk_alloc ?_ _)); exact BK1061.out⟩
                   have n2_ : Aside0 (((w54.setCell ⟨gb1076, 0, none⟩ (.int .i64 t1073)).setCell ⟨gb1076, 1, none⟩ (.int .i64 t1074)).heap[gb1076]? = some (.cells #[.int .i64 t1073, .int .i64 t1074] 25 (0, 0))) := ⟨by (with_reducible repeat (first | refine blk_drewN ?_ _ | refine blk_drew ?_ | refine blk_alloc ?_ _)); refine blk_put (cs := #[.int .i64 t1073, .int .i64 0]) ?_ 1 _ rfl; (with_reducible repeat (first | refine blk_drewN ?_ _ | refine blk_drew ?_ | refine blk_alloc ?_ _)); refine blk_put (cs := #[.int .i64 0, .int .i64 0]) ?_ 0 _ rfl; (with_reducible repeat (first | refine blk_drewN ?_ _ | refine blk_drew ?_ | refine blk_alloc ?_ _)); exact BK1076.out⟩; have n3_ : Aside0 (Below w.heap.size w ((w54.setCell ⟨gb1076, 0, none⟩ (.int .i64 t1073)).setCell ⟨gb1076, 1, none⟩ (.int .i64 t1074))) := ⟨hb2_ HB.out GE1061.out GE1076.out⟩; (try clear HO_1062002); (try clear BK1061); (try clear BK1076); (try clear HB); generalize ((w54.setCell ⟨gb1076, 0, none⟩ (.int .i64 t1073)).setCell ⟨gb1076, 1, none⟩ (.int .i64 t1074)) = w57 at n0_ n1_ n2_ n3_ ⊢
                   have HO_1062002 := n0_; have BK1061 := n1_; have BK1076 := n2_; have HB := n3_; clear n0_ n1_ n2_ n3_; have n0_ := am_ (Kd.R_drew HO_1062002.out); have n1_ := am_ (blk_drew BK1061.out); have n2_ := am_ (blk_drew BK1076.out); have n3_ := am_ (below_drew1 HB.out); clear HO_1062002; clear BK1061; clear BK1076; clear HB; have HO_1062002 := n0_; have BK1061 := n1_; have BK1076 := n2_; have HB := n3_; clear n0_ n1_ n2_ n3_; have p1077 : 0 ≤ ((ji35) : Int) := of_decide_eq_true (by first | (with_reducible assumption) | assumption); have q1077 : (ji35) < (t1056.length : Int) := of_decide_eq_true (by first | (with_reducible assumption) | assumption); obtain ⟨ad1077, e1077, hx1077_0, hx1077_1⟩ := at_T42 (Kd.R_reads' HO_1062002.out).2.2 (ji35) p1077 q1077
                   cases e1077
                   replace p1077 := eq_true p1077; replace q1077 := eq_true q1077; refine start_ (n := 27) (S := fun w' => w'.cell? ⟨gb1061, 0, none⟩ = some (.int .i64 t1054) ∧ w'.cell? ⟨gb1061, 1, none⟩ = some (.int .i64 t1055) ∧ w'.cell? ⟨gb1061, 2, none⟩ = some (.slice (some ad1077) t1056.length co13) ∧ w'.cell? ⟨gb1076, 0, none⟩ = some (.int .i64 t1073) ∧ w'.cell? ⟨gb1076, 1, none⟩ = some (.int .i64 t1074) ∧ w'.cell? (ad1077.add (((ji35)).toNat * 2)) = some (.int .i64 ((rd_T42 t1056 (ji35)).f0)) ∧ w'.cell? ⟨(ad1077.add (((ji35)).toNat * 2)).block, (ad1077.add (((ji35)).toNat * 2)).off + 1, none⟩ = some (.int .i64 ((rd_T42 t1056 (ji35)).f1))) (ds := []) #[false, false, false, false, false, false, false, false, false, false, false, false, false, false, false, false, false, false, false, false, false, false, false, false, false, false, false] (by kernel_rfl) rfl rfl ⟨(blk_cell BK1061.out 0).trans rfl, (blk_cell BK1061.out 1).trans rfl, (blk_cell BK1061.out 2).trans rfl, (blk_cell BK1076.out 0).trans rfl, (blk_cell BK1076.out 1).trans rfl, hx1077_0, hx1077_1⟩ (fun hHeld => ?_); refine with_tabW laws_FnNextOwn.tab19 laws_FnNextOwn.bits19 (fun HT_ HW_ => ?_)
                   generalize w57.drew = w58 at HO_1062002 BK1061 BK1076 HB hx1077_0 hx1077_1 hHeld ⊢
                   refine pure_ (i := 0) (N := some 119) (v := ?_) (a' := ?_) #[true, false, false, false, false, false, false, false, false, false, false, false, false, false, false, false, false, false, false, false, false, false, false, false, false, false, false] rfl rfl (any_of HT_.out (by kernel_rfl)) (fun _ _ _ h => h) (Or.inl ⟨by rfl, ?_⟩) ?_ ?_
                   rotate_left
                   ·intro w'; go_simp
                    with_reducible rfl
                   rotate_left
                   ·simp only [Act.put, List.setIfInBounds_toArray, List.set_cons_zero, List.set_cons_succ, i64_w, i32_w]
                    rfl
                   refine pure_ (i := 1) (N := some 120) (v := ?_) (a' := ?_) #[true, true, false, false, false, false, false, false, false, false, false, false, false, false, false, false, false, false, false, false, false, false, false, false, false, false, false] rfl rfl (any_of HT_.out (by kernel_rfl)) (fun _ _ _ h => h) (Or.inl ⟨by rfl, ?_⟩) ?_ ?_
                   rotate_left
                   ·intro w'; go_simp
                    with_reducible rfl
                   rotate_left
                   ·simp only [Act.put, List.setIfInBounds_toArray, List.set_cons_zero, List.set_cons_succ, i64_w, i32_w]
                    rfl
                   refine pure_ (i := 2) (N := some 121) (v := ?_) (a' := ?_) #[true, true, true, false, false, false, false, false, false, false, false, false, false, false, false, false, false, false, false, false, false, false, false, false, false, false, false] rfl rfl (any_of HT_.out (by kernel_rfl)) (fun _ _ _ h => h) (Or.inl ⟨by rfl, ?_⟩) ?_ ?_
                   rotate_left
                   ·intro w'; go_simp
                    with_reducible rfl
                   rotate_left
                   ·simp only [Act.put, List.setIfInBounds_toArray, List.set_cons_zero, List.set_cons_succ, i64_w, i32_w]
                    rfl
                   refine pure_ (i := 4) (N := some 123) (v := ?_) (a' := ?_) #[true, true, true, false, true, false, false, false, false, false, false, false, false, false, false, false, false, false, false, false, false, false, false, false, false, false, false] rfl rfl (any_of HT_.out (by kernel_rfl)) (fun _ _ _ h => h) (Or.inl ⟨by rfl, ?_⟩) ?_ ?_
                   rotate_left
                   ·intro w'; go_simp
                    with_reducible rfl
                   rotate_left
                   ·simp only [Act.put, List.setIfInBounds_toArray, List.set_cons_zero, List.set_cons_succ, i64_w, i32_w]
                    rfl
                   refine pure_ (i := 5) (N := some 124) (v := ?_) (a' := ?_) #[true, true, true, false, true, true, false, false, false, false, false, false, false, false, false, false, false, false, false, false, false, false, false, false, false, false, false] rfl rfl (any_of HT_.out (by kernel_rfl)) (fun _ _ _ h => h) (Or.inl ⟨by rfl, ?_⟩) ?_ ?_
                   rotate_left
                   ·intro w'; go_simp
                    with_reducible rfl
                   rotate_left
                   ·simp only [Act.put, List.setIfInBounds_toArray, List.set_cons_zero, List.set_cons_succ, i64_w, i32_w]
                    rfl
                   refine pure_ (i := 12) (N := some 131) (v := ?_) (a' := ?_) #[true, true, true, false, true, true, false, false, false, false, false, false, true, false, false, false, false, false, false, false, false, false, false, false, false, false, false] rfl rfl (any_of HT_.out (by kernel_rfl)) (fun _ _ _ h => h) (Or.inl ⟨by rfl, ?_⟩) ?_ ?_
                   rotate_left
                   ·intro w'; go_simp
                    with_reducible rfl
                   rotate_left
                   ·simp only [Act.put, List.setIfInBounds_toArray, List.set_cons_zero, List.set_cons_succ, i64_w, i32_w]
                    rfl
                   refine take_ (i := 3) (N := some 122) (v := ?_) (a' := ?_) #[true, true, true, true, true, true, false, false, false, false, false, false, true, false, false, false, false, false, false, false, false, false, false, false, false, false, false] rfl rfl (take_ofW HT_.out HW_.out (by kernel_rfl)) (fun _ _ _ h => h) (Or.inl ⟨by rfl, ?_⟩) hHeld ?_ ?_
                   rotate_left
                   ·rintro w' ⟨s0, s1, s2, s3, s4, s5, s6⟩; go_simp
                    with_reducible rfl
                   rotate_left
                   ·simp only [Act.put, List.setIfInBounds_toArray, List.set_cons_zero, List.set_cons_succ, i64_w, i32_w]
                    rfl
                   refine take_ (i := 6) (N := some 125) (v := ?_) (a' := ?_) #[true, true, true, true, true, true, true, false, false, false, false, false, true, false, false, false, false, false, false, false, false, false, false, false, false, false, false] rfl rfl (take_ofW HT_.out HW_.out (by kernel_rfl)) (fun _ _ _ h => h) (Or.inl ⟨by rfl, ?_⟩) hHeld ?_ ?_
                   rotate_left
                   ·rintro w' ⟨s0, s1, s2, s3, s4, s5, s6⟩; go_simp
                    with_reducible rfl
                   rotate_left
                   ·simp only [Act.put, List.setIfInBounds_toArray, List.set_cons_zero, List.set_cons_succ, i64_w, i32_w]
                    rfl
                   refine pure_ (i := 7) (N := some 126) (v := ?_) (a' := ?_) #[true, true, true, true, true, true, true, true, false, false, false, false, true, false, false, false, false, false, false, false, false, false, false, false, false, false, false] rfl rfl (any_of HT_.out (by kernel_rfl)) (fun _ _ _ h => h) (Or.inl ⟨by rfl, ?_⟩) ?_ ?_
                   rotate_left
                   ·intro w'; go_simp
                    with_reducible rfl
                   rotate_left
                   ·simp only [Act.put, List.setIfInBounds_toArray, List.set_cons_zero, List.set_cons_succ, i64_w, i32_w]
                    rfl
                   refine pure_ (i := 8) (N := some 127) (v := ?_) (a' := ?_) #[true, true, true, true, true, true, true, true, true, false, false, false, true, false, false, false, false, false, false, false, false, false, false, false, false, false, false] rfl rfl (any_of HT_.out (by kernel_rfl)) (fun _ _ _ h => h) (Or.inl ⟨by rfl, ?_⟩) ?_ ?_
                   rotate_left
                   ·intro w'; go_simp
                    with_reducible rfl
                   rotate_left
                   ·simp only [Act.put, List.setIfInBounds_toArray, List.set_cons_zero, List.set_cons_succ, i64_w, i32_w]
                    rfl
                   refine pure_ (i := 9) (N := some 128) (v := ?_) (a' := ?_) #[true, true, true, true, true, true, true, true, true, true, false, false, true, false, false, false, false, false, false, false, false, false, false, false, false, false, false] rfl rfl (any_of HT_.out (by kernel_rfl)) (fun _ _ _ h => h) (Or.inl ⟨by rfl, ?_⟩) ?_ ?_
                   rotate_left
                   ·intro w'; go_simp
                    with_reducible rfl
                   rotate_left
                   ·simp only [Act.put, List.setIfInBounds_toArray, List.set_cons_zero, List.set_cons_succ, i64_w, i32_w]
                    rfl
                   refine pure_ (i := 10) (N := some 129) (v := ?_) (a' := ?_) #[true, true, true, true, true, true, true, true, true, true, true, false, true, false, false, false, false, false, false, false, false, false, false, false, false, false, false] rfl rfl (any_of HT_.out (by kernel_rfl)) (fun _ _ _ h => h) (Or.inl ⟨by rfl, ?_⟩) ?_ ?_
                   rotate_left
                   ·intro w'; go_simp
                    with_reducible rfl
                   rotate_left
                   ·simp only [Act.put, List.setIfInBounds_toArray, List.set_cons_zero, List.set_cons_succ, i64_w, i32_w]
                    rfl
                   refine take_ (i := 11) (N := some 130) (v := ?_) (a' := ?_) #[true, true, true, true, true, true, true, true, true, true, true, true, true, false, false, false, false, false, false, false, false, false, false, false, false, false, false] rfl rfl (take_ofW HT_.out HW_.out (by kernel_rfl)) (fun _ _ _ h => h) (Or.inl ⟨by rfl, ?_⟩) hHeld ?_ ?_
                   rotate_left
                   ·rintro w' ⟨s0, s1, s2, s3, s4, s5, s6⟩; go_simp
                    with_reducible rfl
                   rotate_left
                   ·simp only [Act.put, List.setIfInBounds_toArray, List.set_cons_zero, List.set_cons_succ, i64_w, i32_w]
                    rfl
                   refine pure_ (i := 13) (N := some 132) (v := ?_) (a' := ?_) #[true, true, true, true, true, true, true, true, true, true, true, true, true, true, false, false, false, false, false, false, false, false, false, false, false, false, false] rfl rfl (any_of HT_.out (by kernel_rfl)) (fun _ _ _ h => h) (Or.inl ⟨by rfl, ?_⟩) ?_ ?_
                   rotate_left
                   ·intro w'; go_simp
                    with_reducible rfl
                   rotate_left
                   ·simp only [Act.put, List.setIfInBounds_toArray, List.set_cons_zero, List.set_cons_succ, i64_w, i32_w]
                    rfl
                   refine pure_ (i := 14) (N := some 133) (v := ?_) (a' := ?_) #[true, true, true, true, true, true, true, true, true, true, true, true, true, true, true, false, false, false, false, false, false, false, false, false, false, false, false] rfl rfl (any_of HT_.out (by kernel_rfl)) (fun _ _ _ h => h) (Or.inl ⟨by rfl, ?_⟩) ?_ ?_
                   rotate_left
                   ·intro w'; go_simp
                    with_reducible rfl
                   rotate_left
                   ·simp only [Act.put, List.setIfInBounds_toArray, List.set_cons_zero, List.set_cons_succ, i64_w, i32_w]
                    rfl
                   refine pure_ (i := 15) (N := some 134) (v := ?_) (a' := ?_) #[true, true, true, true, true, true, true, true, true, true, true, true, true, true, true, true, false, false, false, false, false, false, false, false, false, false, false] rfl rfl (any_of HT_.out (by kernel_rfl)) (fun _ _ _ h => h) (Or.inl ⟨by rfl, ?_⟩) ?_ ?_
                   rotate_left
                   ·intro w'; go_simp
                    with_reducible rfl
                   rotate_left
                   ·simp only [Act.put, List.setIfInBounds_toArray, List.set_cons_zero, List.set_cons_succ, i64_w, i32_w]
                    rfl
                   refine pure_ (i := 16) (N := some 135) (v := ?_) (a' := ?_) #[true, true, true, true, true, true, true, true, true, true, true, true, true, true, true, true, true, false, false, false, false, false, false, false, false, false, false] rfl rfl (any_of HT_.out (by kernel_rfl)) (fun _ _ _ h => h) (Or.inl ⟨by rfl, ?_⟩) ?_ ?_
                   rotate_left
                   ·intro w'; go_simp
                    with_reducible rfl
                   rotate_left
                   ·simp only [Act.put, List.setIfInBounds_toArray, List.set_cons_zero, List.set_cons_succ, i64_w, i32_w]
                    rfl
                   refine pure_ (i := 18) (N := some 137) (v := ?_) (a' := ?_) #[true, true, true, true, true, true, true, true, true, true, true, true, true, true, true, true, true, false, true, false, false, false, false, false, false, false, false] rfl rfl (any_of HT_.out (by kernel_rfl)) (fun _ _ _ h => h) (Or.inl ⟨by rfl, ?_⟩) ?_ ?_
                   rotate_left
                   ·intro w'; go_simp
                    with_reducible rfl
                   rotate_left
                   ·simp only [Act.put, List.setIfInBounds_toArray, List.set_cons_zero, List.set_cons_succ, i64_w, i32_w]
                    rfl
                   refine take_ (i := 17) (N := some 136) (v := ?_) (a' := ?_) #[true, true, true, true, true, true, true, true, true, true, true, true, true, true, true, true, true, true, true, false, false, false, false, false, false, false, false] rfl rfl (take_ofW HT_.out HW_.out (by kernel_rfl)) (fun _ _ _ h => h) (Or.inl ⟨by rfl, ?_⟩) hHeld ?_ ?_
                   rotate_left
                   ·rintro w' ⟨s0, s1, s2, s3, s4, s5, s6⟩; go_simp
                    with_reducible rfl
                   rotate_left
                   ·simp only [Act.put, List.setIfInBounds_toArray, List.set_cons_zero, List.set_cons_succ, i64_w, i32_w]
                    rfl
                   refine pure_ (i := 19) (N := some 138) (v := ?_) (a' := ?_) #[true, true, true, true, true, true, true, true, true, true, true, true, true, true, true, true, true, true, true, true, false, false, false, false, false, false, false] rfl rfl (any_of HT_.out (by kernel_rfl)) (fun _ _ _ h => h) (Or.inl ⟨by rfl, ?_⟩) ?_ ?_
                   rotate_left
                   ·intro w'; go_simp
                    with_reducible rfl
                   rotate_left
                   ·simp only [Act.put, List.setIfInBounds_toArray, List.set_cons_zero, List.set_cons_succ, i64_w, i32_w]
                    rfl
                   refine pure_ (i := 20) (N := some 139) (v := ?_) (a' := ?_) #[true, true, true, true, true, true, true, true, true, true, true, true, true, true, true, true, true, true, true, true, true, false, false, false, false, false, false] rfl rfl (any_of HT_.out (by kernel_rfl)) (fun _ _ _ h => h) (Or.inl ⟨by rfl, ?_⟩) ?_ ?_
                   rotate_left
                   ·intro w'; go_simp
                    with_reducible rfl
                   rotate_left
                   ·simp only [Act.put, List.setIfInBounds_toArray, List.set_cons_zero, List.set_cons_succ, i64_w, i32_w]
                    rfl
                   refine pure_ (i := 21) (N := some 140) (v := ?_) (a' := ?_) #[true, true, true, true, true, true, true, true, true, true, true, true, true, true, true, true, true, true, true, true, true, true, false, false, false, false, false] rfl rfl (any_of HT_.out (by kernel_rfl)) (fun _ _ _ h => h) (Or.inl ⟨by rfl, ?_⟩) ?_ ?_
                   rotate_left
                   ·intro w'; go_simp
                    with_reducible rfl
                   rotate_left
                   ·simp only [Act.put, List.setIfInBounds_toArray, List.set_cons_zero, List.set_cons_succ, i64_w, i32_w]
                    rfl
                   refine pure_ (i := 22) (N := some 141) (v := undef) (a' := ?_) #[true, true, true, true, true, true, true, true, true, true, true, true, true, true, true, true, true, true, true, true, true, true, true, false, false, false, false] rfl rfl (any_of HT_.out (by kernel_rfl)) (fun _ _ _ h => h) (Or.inr ⟨by rfl, rfl⟩) ?_ ?_
                   rotate_left
                   ·simp only [Act.put, List.setIfInBounds_toArray, List.set_cons_zero, List.set_cons_succ, i64_w, i32_w]
                    rfl
                   refine pure_ (i := 23) (N := some 142) (v := undef) (a' := ?_) #[true, true, true, true, true, true, true, true, true, true, true, true, true, true, true, true, true, true, true, true, true, true, true, true, false, false, false] rfl rfl (any_of HT_.out (by kernel_rfl)) (fun _ _ _ h => h) (Or.inr ⟨by rfl, rfl⟩) ?_ ?_
                   rotate_left
                   ·simp only [Act.put, List.setIfInBounds_toArray, List.set_cons_zero, List.set_cons_succ, i64_w, i32_w]
                    rfl
                   refine pure_ (i := 24) (N := some 143) (v := undef) (a' := ?_) #[true, true, true, true, true, true, true, true, true, true, true, true, true, true, true, true, true, true, true, true, true, true, true, true, true, false, false] rfl rfl (any_of HT_.out (by kernel_rfl)) (fun _ _ _ h => h) (Or.inr ⟨by rfl, rfl⟩) ?_ ?_
                   rotate_left
                   ·simp only [Act.put, List.setIfInBounds_toArray, List.set_cons_zero, List.set_cons_succ, i64_w, i32_w]
                    rfl
                   refine pure_ (i := 25) (N := some 144) (v := undef) (a' := ?_) #[true, true, true, true, true, true, true, true, true, true, true, true, true, true, true, true, true, true, true, true, true, true, true, true, true, true, false] rfl rfl (any_of HT_.out (by kernel_rfl)) (fun _ _ _ h => h) (Or.inr ⟨by rfl, rfl⟩) ?_ ?_
                   rotate_left
                   ·simp only [Act.put, List.setIfInBounds_toArray, List.set_cons_zero, List.set_cons_succ, i64_w, i32_w]
                    rfl
                   refine pure_ (i := 26) (N := some 145) (v := ?_) (a' := ?_) #[true, true, true, true, true, true, true, true, true, true, true, true, true, true, true, true, true, true, true, true, true, true, true, true, true, true, true] rfl rfl (any_of HT_.out (by kernel_rfl)) (fun _ _ _ h => h) (Or.inl ⟨by rfl, ?_⟩) ?_ ?_
                   rotate_left
                   ·intro w'; go_simp
                    with_reducible rfl
                   rotate_left
                   ·simp only [Act.put, List.setIfInBounds_toArray, List.set_cons_zero, List.set_cons_succ, i64_w, i32_w]
                    rfl
                   refine done_ (done_of HT_.out (by kernel_rfl)) ?_
                   try go_wp2
                   go_roundg k3
                   case measure => have := HJ8.out; have := HJ25.out; have := HK3.out; omega
                   case rel => exact ⟨(wrap64 (x15_3 + 1)), (by first | rfl | (simp; done) | (simp [*]; done)), H', ⟨by have := HJ8.out; have := HJ25.out; have := HK3.out; omega⟩, ⟨by (with_reducible repeat (first | apply Kd.R_alloc | apply Kd.R_drewN | apply Kd.R_drew)); exact HO_1062002.out⟩, ⟨bk_ BK1061.out⟩, ⟨hb2_ HB.out GE1061.out GE1076.out⟩⟩
                 ·rw [if_neg c38] at H; have c38b0 : (((rd_T42 t1056 (ji35)).f0) == t1059) = false := beq_eq_false_iff_ne.mpr c38; have c38b1 : (((rd_T42 t1056 (ji35)).f0) != t1059) = true := bne_iff_ne.mpr c38; have H' := Aside0.mk H; clear H; have hcz59_0 := bc_ BK1061.out 0 (.int .i64 t1054) rfl; have hcz59_1 := bc_ BK1061.out 1 (.int .i64 t1055) rfl; have hcz59_2 := bc_ BK1061.out 2 (.slice Ao13 t1056.length co13) rfl; have hfz59_0 := blk_frozen BK1061.out 0; have hfz59_1 := blk_frozen BK1061.out 1; have hfz59_2 := blk_frozen BK1061.out 2; try go_wp2
                  have n0_ := am_ (Kd.R_drew HO_1062002.out); have n1_ := am_ (blk_drew BK1061.out); have n2_ := am_ (below_drew1 HB.out); clear HO_1062002; clear BK1061; clear HB; have HO_1062002 := n0_; have BK1061 := n1_; have HB := n2_; clear n0_ n1_ n2_; refine start_ (n := 20) (S := fun w' => w'.cell? ⟨gb1061, 0, none⟩ = some (.int .i64 t1054) ∧ w'.cell? ⟨gb1061, 1, none⟩ = some (.int .i64 t1055) ∧ w'.cell? ⟨gb1061, 2, none⟩ = some (.slice Ao13 t1056.length co13)) (ds := []) #[false, false, false, false, false, false, false, false, false, false, false, false, false, false, false, false, false, false, false, false] (by kernel_rfl) rfl rfl ⟨(blk_cell BK1061.out 0).trans rfl, (blk_cell BK1061.out 1).trans rfl, (blk_cell BK1061.out 2).trans rfl⟩ (fun hHeld => ?_); refine with_tabW laws_FnNextOwn.tab18 laws_FnNextOwn.bits18 (fun HT_ HW_ => ?_)
                  generalize wr.drew = w60 at HO_1062002 BK1061 HB hHeld ⊢
                  refine pure_ (i := 1) (N := some 104) (v := ?_) (a' := ?_) #[false, true, false, false, false, false, false, false, false, false, false, false, false, false, false, false, false, false, false, false] rfl rfl (any_of HT_.out (by kernel_rfl)) (fun _ _ _ h => h) (Or.inl ⟨by rfl, ?_⟩) ?_ ?_
                  rotate_left
                  ·intro w'; go_simp
                   with_reducible rfl
                  rotate_left
                  ·simp only [Act.put, List.setIfInBounds_toArray, List.set_cons_zero, List.set_cons_succ, i64_w, i32_w]
                   rfl
                  refine pure_ (i := 2) (N := some 105) (v := ?_) (a' := ?_) #[false, true, true, false, false, false, false, false, false, false, false, false, false, false, false, false, false, false, false, false] rfl rfl (any_of HT_.out (by kernel_rfl)) (fun _ _ _ h => h) (Or.inl ⟨by rfl, ?_⟩) ?_ ?_
                  rotate_left
                  ·intro w'; go_simp
                   with_reducible rfl
                  rotate_left
                  ·simp only [Act.put, List.setIfInBounds_toArray, List.set_cons_zero, List.set_cons_succ, i64_w, i32_w]
                   rfl
                  refine pure_ (i := 6) (N := some 109) (v := ?_) (a' := ?_) #[false, true, true, false, false, false, true, false, false, false, false, false, false, false, false, false, false, false, false, false] rfl rfl (any_of HT_.out (by kernel_rfl)) (fun _ _ _ h => h) (Or.inl ⟨by rfl, ?_⟩) ?_ ?_
                  rotate_left
                  ·intro w'; go_simp
                   with_reducible rfl
                  rotate_left
                  ·simp only [Act.put, List.setIfInBounds_toArray, List.set_cons_zero, List.set_cons_succ, i64_w, i32_w]
                   rfl
                  refine pure_ (i := 7) (N := some 110) (v := ?_) (a' := ?_) #[false, true, true, false, false, false, true, true, false, false, false, false, false, false, false, false, false, false, false, false] rfl rfl (any_of HT_.out (by kernel_rfl)) (fun _ _ _ h => h) (Or.inl ⟨by rfl, ?_⟩) ?_ ?_
                  rotate_left
                  ·intro w'; go_simp
                   with_reducible rfl
                  rotate_left
                  ·simp only [Act.put, List.setIfInBounds_toArray, List.set_cons_zero, List.set_cons_succ, i64_w, i32_w]
                   rfl
                  refine pure_ (i := 8) (N := some 111) (v := ?_) (a' := ?_) #[false, true, true, false, false, false, true, true, true, false, false, false, false, false, false, false, false, false, false, false] rfl rfl (any_of HT_.out (by kernel_rfl)) (fun _ _ _ h => h) (Or.inl ⟨by rfl, ?_⟩) ?_ ?_
                  rotate_left
                  ·intro w'; go_simp
                   with_reducible rfl
                  rotate_left
                  ·simp only [Act.put, List.setIfInBounds_toArray, List.set_cons_zero, List.set_cons_succ, i64_w, i32_w]
                   rfl
                  refine take_ (i := 0) (N := some 103) (v := ?_) (a' := ?_) #[true, true, true, false, false, false, true, true, true, false, false, false, false, false, false, false, false, false, false, false] rfl rfl (take_ofW HT_.out HW_.out (by kernel_rfl)) (fun _ _ _ h => h) (Or.inl ⟨by rfl, ?_⟩) hHeld ?_ ?_
                  rotate_left
                  ·rintro w' ⟨s0, s1, s2⟩; go_simp
                   with_reducible rfl
                  rotate_left
                  ·simp only [Act.put, List.setIfInBounds_toArray, List.set_cons_zero, List.set_cons_succ, i64_w, i32_w]
                   rfl
                  refine take_ (i := 3) (N := some 106) (v := ?_) (a' := ?_) #[true, true, true, true, false, false, true, true, true, false, false, false, false, false, false, false, false, false, false, false] rfl rfl (take_ofW HT_.out HW_.out (by kernel_rfl)) (fun _ _ _ h => h) (Or.inl ⟨by rfl, ?_⟩) hHeld ?_ ?_
                  rotate_left
                  ·rintro w' ⟨s0, s1, s2⟩; go_simp
                   with_reducible rfl
                  rotate_left
                  ·simp only [Act.put, List.setIfInBounds_toArray, List.set_cons_zero, List.set_cons_succ, i64_w, i32_w]
                   rfl
                  refine pure_ (i := 4) (N := some 107) (v := ?_) (a' := ?_) #[true, true, true, true, true, false, true, true, true, false, false, false, false, false, false, false, false, false, false, false] rfl rfl (any_of HT_.out (by kernel_rfl)) (fun _ _ _ h => h) (Or.inl ⟨by rfl, ?_⟩) ?_ ?_
                  rotate_left
                  ·intro w'; go_simp
                   with_reducible rfl
                  rotate_left
                  ·simp only [Act.put, List.setIfInBounds_toArray, List.set_cons_zero, List.set_cons_succ, i64_w, i32_w]
                   rfl
                  refine pure_ (i := 5) (N := some 108) (v := ?_) (a' := ?_) #[true, true, true, true, true, true, true, true, true, false, false, false, false, false, false, false, false, false, false, false] rfl rfl (any_of HT_.out (by kernel_rfl)) (fun _ _ _ h => h) (Or.inl ⟨by rfl, ?_⟩) ?_ ?_
                  rotate_left
                  ·intro w'; go_simp
                   with_reducible rfl
                  rotate_left
                  ·simp only [Act.put, List.setIfInBounds_toArray, List.set_cons_zero, List.set_cons_succ, i64_w, i32_w]
                   rfl
                  refine take_ (i := 9) (N := some 112) (v := ?_) (a' := ?_) #[true, true, true, true, true, true, true, true, true, true, false, false, false, false, false, false, false, false, false, false] rfl rfl (take_ofW HT_.out HW_.out (by kernel_rfl)) (fun _ _ _ h => h) (Or.inl ⟨by rfl, ?_⟩) hHeld ?_ ?_
                  rotate_left
                  ·rintro w' ⟨s0, s1, s2⟩; go_simp
                   with_reducible rfl
                  rotate_left
                  ·simp only [Act.put, List.setIfInBounds_toArray, List.set_cons_zero, List.set_cons_succ, i64_w, i32_w]
                   rfl
                  refine pure_ (i := 10) (N := some 113) (v := ?_) (a' := ?_) #[true, true, true, true, true, true, true, true, true, true, true, false, false, false, false, false, false, false, false, false] rfl rfl (any_of HT_.out (by kernel_rfl)) (fun _ _ _ h => h) (Or.inl ⟨by rfl, ?_⟩) ?_ ?_
                  rotate_left
                  ·intro w'; go_simp
                   with_reducible rfl
                  rotate_left
                  ·simp only [Act.put, List.setIfInBounds_toArray, List.set_cons_zero, List.set_cons_succ, i64_w, i32_w]
                   rfl
                  refine pure_ (i := 11) (N := some 114) (v := ?_) (a' := ?_) #[true, true, true, true, true, true, true, true, true, true, true, true, false, false, false, false, false, false, false, false] rfl rfl (any_of HT_.out (by kernel_rfl)) (fun _ _ _ h => h) (Or.inl ⟨by rfl, ?_⟩) ?_ ?_
                  rotate_left
                  ·intro w'; go_simp
                   with_reducible rfl
                  rotate_left
                  ·simp only [Act.put, List.setIfInBounds_toArray, List.set_cons_zero, List.set_cons_succ, i64_w, i32_w]
                   rfl
                  refine pure_ (i := 12) (N := some 115) (v := ?_) (a' := ?_) #[true, true, true, true, true, true, true, true, true, true, true, true, true, false, false, false, false, false, false, false] rfl rfl (any_of HT_.out (by kernel_rfl)) (fun _ _ _ h => h) (Or.inl ⟨by rfl, ?_⟩) ?_ ?_
                  rotate_left
                  ·intro w'; go_simp
                   with_reducible rfl
                  rotate_left
                  ·simp only [Act.put, List.setIfInBounds_toArray, List.set_cons_zero, List.set_cons_succ, i64_w, i32_w]
                   rfl
                  refine join_ (σ := Nat) 2 #[true, true, true, true, true, true, true, true, true, true, true, true, true, true, true, true, true, true, false, false] (fun s_ => [(116, .tuple #[.agg #[.int .i64 t1073, .int .i64 t1074], .bool true]), (16, .pointer (some ⟨s_, 0, none⟩)), (102, .tuple #[.agg #[.int .i64 t1073, .int .i64 t1074], .bool true]), (117, .agg #[.int .i64 t1073, .int .i64 t1074]), (118, .bool true)]) (fun s_ w' => (w'.cell? ⟨gb1061, 0, none⟩ = some (.int .i64 t1054) ∧ w'.cell? ⟨gb1061, 1, none⟩ = some (.int .i64 t1055) ∧ w'.cell? ⟨gb1061, 2, none⟩ = some (.slice Ao13 t1056.length co13)) ∧ (Kd.R k42 42 w' w.heap.size (fun _ => True) (.slice Ao13 t1056.length co13) t1056) ∧ (w'.heap[gb1061]? = some (.cells #[.int .i64 t1054, .int .i64 t1055, .slice Ao13 t1056.length co13] 30 (0, 0))) ∧ (w'.heap[s_]? = some (.cells #[.int .i64 0, .int .i64 0] 25 (0, 0))) ∧ (w.heap.size ≤ s_) ∧ (w.heap.size ≤ s_) ∧ (gb1061 ≠ s_) ∧ (s_ ≠ gb1061) ∧ (Below w.heap.size w w')) ?_ ?_
                  rotate_left
                  ·intro hCont; refine two_ (i := 13) (j := 17) (Ni := some 116) (Nj := some 16) #[true, true, true, true, true, true, true, true, true, true, true, true, true, true, false, false, false, false, false, false] #[true, true, true, true, true, true, true, true, true, true, true, true, true, false, false, false, false, true, false, false] rfl rfl rfl rfl (two_of HT_.out (by kernel_rfl)) (by decide) (by decide) (fun K hK => ?_) (fun K hK => ?_)
                   ·skip
                    refine goes_ Try.func12 (by kernel_rfl) rfl #[.agg #[.int .i64 t1054, .int .i64 t1055, .slice Ao13 t1056.length co13], .int .i64 ji35, .int .i64 (wrap64 (t1071 - (wrap64 (Int.tdiv x15_3 (t1056.length : Int)))))] (by rfl) rfl rfl (by (try simp only [List.map_toArray, List.map_cons, List.map_nil]); first | done | (simp only [hji35]; rfl) | rfl | (simp only [List.length_drop, List.length_take]; rfl)) ?_
                    with_reducible refine (impl_Occurrence.calls k3 t1054 t1055 _ _ t1056 ji35 (wrap64 (t1071 - (wrap64 (Int.tdiv x15_3 (t1056.length : Int))))) t1073 t1074 true _ ?side1 ?side2 A33.out).mono ?_
                    (case side1 => repeat (first | exact (Kd.R_reads' HO_1062002.out).2.2 | (with_reducible refine Kd.C_alloc ?_ _) | (with_reducible refine Kd.C_drewN ?_ _) | (with_reducible refine Kd.C_drew ?_)))
                    (case side2 => exact (Kd.R_reads' HO_1062002.out).2.1)
                    rintro e w61 ⟨rfl, hb⟩; refine ⟨_, rfl, ?_⟩
                    have n0_ := am_ (Kd.R_below (by (with_reducible repeat (first | apply Kd.R_alloc | apply Kd.R_drewN | apply Kd.R_drew)); exact HO_1062002.out) hb); have n1_ := am_ (bb_ BK1061.out hb); have n2_ := am_ (below_step (hb1_ HB.out GE1061.out) hb); clear HO_1062002; clear BK1061; clear HB; have HO_1062002 := n0_; have BK1061 := n1_; have HB := n2_; clear n0_ n1_ n2_; (try clear hb); (try clear hb2); (try clear hk); (try clear hi); refine hK.out _ _ ⟨(blk_cell BK1061.out 0).trans rfl, (blk_cell BK1061.out 1).trans rfl, (blk_cell BK1061.out 2).trans rfl⟩ (fun hHeld => ?_)
                    clear hK K; refine norm_ (a' := ?_) ?_ ?_
                    rotate_left
                    ·show Act.put _ (some 116) _ = _
                     simp only [Act.put, List.setIfInBounds_toArray, List.set_cons_zero, List.set_cons_succ, i64_w, i32_w]
                     rfl
                    refine pure_ (i := 14) (N := some 102) (v := ?_) (a' := ?_) #[true, true, true, true, true, true, true, true, true, true, true, true, true, true, true, false, false, false, false, false] rfl rfl (any_of HT_.out (by kernel_rfl)) (fun _ _ _ h => h) (Or.inl ⟨by rfl, ?_⟩) ?_ ?_
                    rotate_left
                    ·intro w'; go_simp
                     with_reducible rfl
                    rotate_left
                    ·simp only [Act.put, List.setIfInBounds_toArray, List.set_cons_zero, List.set_cons_succ, i64_w, i32_w]
                     rfl
                    refine pure_ (i := 15) (N := some 117) (v := ?_) (a' := ?_) #[true, true, true, true, true, true, true, true, true, true, true, true, true, true, true, true, false, false, false, false] rfl rfl (any_of HT_.out (by kernel_rfl)) (fun _ _ _ h => h) (Or.inl ⟨by rfl, ?_⟩) ?_ ?_
                    rotate_left
                    ·intro w'; go_simp
                     with_reducible rfl
                    rotate_left
                    ·simp only [Act.put, List.setIfInBounds_toArray, List.set_cons_zero, List.set_cons_succ, i64_w, i32_w]
                     rfl
                    refine pure_ (i := 16) (N := some 118) (v := ?_) (a' := ?_) #[true, true, true, true, true, true, true, true, true, true, true, true, true, true, true, true, true, false, false, false] rfl rfl (any_of HT_.out (by kernel_rfl)) (fun _ _ _ h => h) (Or.inl ⟨by rfl, ?_⟩) ?_ ?_
                    rotate_left
                    ·intro w'; go_simp
                     with_reducible rfl
                    rotate_left
                    ·simp only [Act.put, List.setIfInBounds_toArray, List.set_cons_zero, List.set_cons_succ, i64_w, i32_w]
                     rfl
                    refine one_ (i := 17) (N := some 16) #[true, true, true, true, true, true, true, true, true, true, true, true, true, true, true, true, true, true, false, false] rfl rfl (one_of HT_.out (by kernel_rfl)) (by decide) (fun K hK => ?_)
                    refine box_step ?hg (N := 16) ?hd (cs := #[.int .i64 0, .int .i64 0]) (t := 25) ?hr ?_; (case hd => rfl); (case hg => rfl); (case hr => first|(go_simp;done)|(go_simp;rfl))
                    intro gb1076 hg w62 hbox hb; have n0_ := am_ (Kd.R_below (by (with_reducible repeat (first | apply Kd.R_alloc | apply Kd.R_drewN | apply Kd.R_drew)); exact HO_1062002.out) hb); have n1_ := am_ (bb_ BK1061.out hb); have n2_ := am_ (below_step (hb1_ HB.out GE1061.out) hb); have n3_ := am_ (hbox); have n4_ := am_ (hy_ hg (hb1_ HB.out GE1061.out) : w.heap.size ≤ gb1076); have n5_ := am_ (hy_ hg (hb1_ HB.out GE1061.out) : w.heap.size ≤ gb1076); have n6_ := am_ ((bl_ hg BK1061.out : gb1061 ≠ gb1076)); have n7_ := am_ ((bg_ hg BK1061.out : gb1076 ≠ gb1061)); clear HO_1062002; clear BK1061; clear HB; have HO_1062002 := n0_; have BK1061 := n1_; have HB := n2_; have BK1076 := n3_; have GW1076 := n4_; have GE1076 := n5_; have NB1061_1076 := n6_; have NB1076_1061 := n7_; clear n0_ n1_ n2_ n3_ n4_ n5_ n6_ n7_; clear hb hbox hg; refine hK.out _ _ ⟨(blk_cell BK1061.out 0).trans rfl, (blk_cell BK1061.out 1).trans rfl, (blk_cell BK1061.out 2).trans rfl⟩ (fun hHeld => ?_)
                    clear hK K; refine norm_ (a' := ?_) ?_ ?_
                    rotate_left
                    ·show Act.put _ (some 16) _ = _
                     simp only [Act.put, List.setIfInBounds_toArray, List.set_cons_zero, List.set_cons_succ, i64_w, i32_w]
                     rfl
                    exact norm_ (by simp only [putAll, Act.put, List.setIfInBounds_toArray, List.set_cons_zero, List.set_cons_succ]) (hCont (gb1076) _ ⟨hHeld, (by (with_reducible repeat (first | apply Kd.R_alloc | apply Kd.R_drewN | apply Kd.R_drew)); exact HO_1062002.out), (bk_ BK1061.out), (bk_ BK1076.out), GW1076.out, GE1076.out, NB1061_1076.out, NB1076_1061.out, (hb2_ HB.out GE1061.out GE1076.out)⟩)
                   ·skip
                    refine box_step ?hg (N := 16) ?hd (cs := #[.int .i64 0, .int .i64 0]) (t := 25) ?hr ?_; (case hd => rfl); (case hg => rfl); (case hr => first|(go_simp;done)|(go_simp;rfl))
                    intro gb1076 hg w61 hbox hb; have n0_ := am_ (Kd.R_below (by (with_reducible repeat (first | apply Kd.R_alloc | apply Kd.R_drewN | apply Kd.R_drew)); exact HO_1062002.out) hb); have n1_ := am_ (bb_ BK1061.out hb); have n2_ := am_ (below_step (hb1_ HB.out GE1061.out) hb); have n3_ := am_ (hbox); have n4_ := am_ (hy_ hg (hb1_ HB.out GE1061.out) : w.heap.size ≤ gb1076); have n5_ := am_ (hy_ hg (hb1_ HB.out GE1061.out) : w.heap.size ≤ gb1076); have n6_ := am_ ((bl_ hg BK1061.out : gb1061 ≠ gb1076)); have n7_ := am_ ((bg_ hg BK1061.out : gb1076 ≠ gb1061)); clear HO_1062002; clear BK1061; clear HB; have HO_1062002 := n0_; have BK1061 := n1_; have HB := n2_; have BK1076 := n3_; have GW1076 := n4_; have GE1076 := n5_; have NB1061_1076 := n6_; have NB1076_1061 := n7_; clear n0_ n1_ n2_ n3_ n4_ n5_ n6_ n7_; clear hb hbox hg; refine hK.out _ _ ⟨(blk_cell BK1061.out 0).trans rfl, (blk_cell BK1061.out 1).trans rfl, (blk_cell BK1061.out 2).trans rfl⟩ (fun hHeld => ?_)
                    clear hK K; refine norm_ (a' := ?_) ?_ ?_
                    rotate_left
                    ·show Act.put _ (some 16) _ = _
                     simp only [Act.put, List.setIfInBounds_toArray, List.set_cons_zero, List.set_cons_succ, i64_w, i32_w]
                     rfl
                    refine one_ (i := 13) (N := some 116) #[true, true, true, true, true, true, true, true, true, true, true, true, true, true, false, false, false, true, false, false] rfl rfl (one_of HT_.out (by kernel_rfl)) (by decide) (fun K hK => ?_)
                    refine goes_ Try.func12 (by kernel_rfl) rfl #[.agg #[.int .i64 t1054, .int .i64 t1055, .slice Ao13 t1056.length co13], .int .i64 ji35, .int .i64 (wrap64 (t1071 - (wrap64 (Int.tdiv x15_3 (t1056.length : Int)))))] (by rfl) rfl rfl (by (try simp only [List.map_toArray, List.map_cons, List.map_nil]); first | done | (simp only [hji35]; rfl) | rfl | (simp only [List.length_drop, List.length_take]; rfl)) ?_
                    with_reducible refine (impl_Occurrence.calls k3 t1054 t1055 _ _ t1056 ji35 (wrap64 (t1071 - (wrap64 (Int.tdiv x15_3 (t1056.length : Int))))) t1073 t1074 true _ ?side1 ?side2 A33.out).mono ?_
                    (case side1 => repeat (first | exact (Kd.R_reads' HO_1062002.out).2.2 | (with_reducible refine Kd.C_alloc ?_ _) | (with_reducible refine Kd.C_drewN ?_ _) | (with_reducible refine Kd.C_drew ?_)))
                    (case side2 => exact (Kd.R_reads' HO_1062002.out).2.1)
                    rintro e w62 ⟨rfl, hb⟩; refine ⟨_, rfl, ?_⟩
                    have n0_ := am_ (Kd.R_below (by (with_reducible repeat (first | apply Kd.R_alloc | apply Kd.R_drewN | apply Kd.R_drew)); exact HO_1062002.out) hb); have n1_ := am_ (bb_ BK1061.out hb); have n2_ := am_ (bb_ BK1076.out hb); have n3_ := am_ (below_step (hb2_ HB.out GE1061.out GE1076.out) hb); clear HO_1062002; clear BK1061; clear BK1076; clear HB; have HO_1062002 := n0_; have BK1061 := n1_; have BK1076 := n2_; have HB := n3_; clear n0_ n1_ n2_ n3_; (try clear hb); (try clear hb2); (try clear hk); (try clear hi); refine hK.out _ _ ⟨(blk_cell BK1061.out 0).trans rfl, (blk_cell BK1061.out 1).trans rfl, (blk_cell BK1061.out 2).trans rfl⟩ (fun hHeld => ?_)
                    clear hK K; refine norm_ (a' := ?_) ?_ ?_
                    rotate_left
                    ·show Act.put _ (some 116) _ = _
                     simp only [Act.put, List.setIfInBounds_toArray, List.set_cons_zero, List.set_cons_succ, i64_w, i32_w]
                     rfl
                    refine pure_ (i := 14) (N := some 102) (v := ?_) (a' := ?_) #[true, true, true, true, true, true, true, true, true, true, true, true, true, true, true, false, false, true, false, false] rfl rfl (any_of HT_.out (by kernel_rfl)) (fun _ _ _ h => h) (Or.inl ⟨by rfl, ?_⟩) ?_ ?_
                    rotate_left
                    ·intro w'; go_simp
                     with_reducible rfl
                    rotate_left
                    ·simp only [Act.put, List.setIfInBounds_toArray, List.set_cons_zero, List.set_cons_succ, i64_w, i32_w]
                     rfl
                    refine pure_ (i := 15) (N := some 117) (v := ?_) (a' := ?_) #[true, true, true, true, true, true, true, true, true, true, true, true, true, true, true, true, false, true, false, false] rfl rfl (any_of HT_.out (by kernel_rfl)) (fun _ _ _ h => h) (Or.inl ⟨by rfl, ?_⟩) ?_ ?_
                    rotate_left
                    ·intro w'; go_simp
                     with_reducible rfl
                    rotate_left
                    ·simp only [Act.put, List.setIfInBounds_toArray, List.set_cons_zero, List.set_cons_succ, i64_w, i32_w]
                     rfl
                    refine pure_ (i := 16) (N := some 118) (v := ?_) (a' := ?_) #[true, true, true, true, true, true, true, true, true, true, true, true, true, true, true, true, true, true, false, false] rfl rfl (any_of HT_.out (by kernel_rfl)) (fun _ _ _ h => h) (Or.inl ⟨by rfl, ?_⟩) ?_ ?_
                    rotate_left
                    ·intro w'; go_simp
                     with_reducible rfl
                    rotate_left
                    ·simp only [Act.put, List.setIfInBounds_toArray, List.set_cons_zero, List.set_cons_succ, i64_w, i32_w]
                     rfl
                    exact norm_ (by simp only [putAll, Act.put, List.setIfInBounds_toArray, List.set_cons_zero, List.set_cons_succ]) (hCont (gb1076) _ ⟨hHeld, (by (with_reducible repeat (first | apply Kd.R_alloc | apply Kd.R_drewN | apply Kd.R_drew)); exact HO_1062002.out), (bk_ BK1061.out), (bk_ BK1076.out), GW1076.out, GE1076.out, NB1061_1076.out, NB1076_1061.out, (hb2_ HB.out GE1061.out GE1076.out)⟩)
                  rintro gb1076 w63 ⟨hS_, h0_, h1_, h2_, h3_, h4_, h5_, h6_, h7_⟩; have n0_ : Aside0 (Kd.R k42 42 w63 w.heap.size (fun _ => True) (.slice Ao13 t1056.length co13) t1056) := ⟨h0_⟩; have n1_ : Aside0 (w63.heap[gb1061]? = some (.cells #[.int .i64 t1054, .int .i64 t1055, .slice Ao13 t1056.length co13] 30 (0, 0))) := ⟨h1_⟩; have n2_ : Aside0 (w63.heap[gb1076]? = some (.cells #[.int .i64 0, .int .i64 0] 25 (0, 0))) := ⟨h2_⟩; have n3_ : Aside0 (w.heap.size ≤ gb1076) := ⟨h3_⟩; have n4_ : Aside0 (w.heap.size ≤ gb1076) := ⟨h4_⟩; have n5_ : Aside0 (gb1061 ≠ gb1076) := ⟨h5_⟩; have n6_ : Aside0 (gb1076 ≠ gb1061) := ⟨h6_⟩; have n7_ : Aside0 (Below w.heap.size w w63) := ⟨h7_⟩; clear HO_1062002; clear BK1061; clear HB; clear h0_ h1_ h2_ h3_ h4_ h5_ h6_ h7_; have HO_1062002 := n0_; have BK1061 := n1_; have BK1076 := n2_; have GW1076 := n3_; have GE1076 := n4_; have NB1061_1076 := n5_; have NB1076_1061 := n6_; have HB := n7_; clear n0_ n1_ n2_ n3_ n4_ n5_ n6_ n7_; have hHeld : w63.cell? ⟨gb1061, 0, none⟩ = some (.int .i64 t1054) ∧ w63.cell? ⟨gb1061, 1, none⟩ = some (.int .i64 t1055) ∧ w63.cell? ⟨gb1061, 2, none⟩ = some (.slice Ao13 t1056.length co13) := hS_; refine norm_ (a' := ?_) ?_ ?_
                  rotate_left
                  ·simp only [putAll, Act.put, List.setIfInBounds_toArray, List.set_cons_zero, List.set_cons_succ]
                   rfl
                  refine one_ (i := 18) (N := none) #[true, true, true, true, true, true, true, true, true, true, true, true, true, true, true, true, true, true, true, false] rfl rfl (one_of HT_.out (by kernel_rfl)) (by decide) (fun K hK => ?_)
                  have hs64 : w63.cell? ⟨gb1076, 0, none⟩ = some (.int .i64 0) := (blk_cell BK1076.out 0).trans rfl; have hfs64 := blk_frozen BK1076.out 0; have hns64_0 := NB1061_1076.out; have hms64_0 := NB1076_1061.out; have hs65 : w63.cell? ⟨gb1076, 1, none⟩ = some (.int .i64 0) := (blk_cell BK1076.out 1).trans rfl; have hfs65 := blk_frozen BK1076.out 1; have hns65_0 := NB1061_1076.out; have hms65_0 := NB1076_1061.out; refine skip_ (w1 := ?_) (by rfl) rfl ?_ ?_
                  rotate_left
                  ·go_simp
                   rfl
                  refine hK.out _ _ ⟨(ct_ NB1061_1076.out ((ct_ NB1061_1076.out (hHeld.1)))), (ct_ NB1061_1076.out ((ct_ NB1061_1076.out (hHeld.2.1)))), (ct_ NB1061_1076.out ((ct_ NB1061_1076.out (hHeld.2.2))))⟩ (fun hHeld => ?_)
                  clear hK K; refine pure_ (i := 19) (N := some 17) (v := ?_) (a' := ?_) #[true, true, true, true, true, true, true, true, true, true, true, true, true, true, true, true, true, true, true, true] rfl rfl (any_of HT_.out (by kernel_rfl)) (fun _ _ _ h => h) (Or.inl ⟨by rfl, ?_⟩) ?_ ?_
                  rotate_left
                  ·intro w'; go_simp
                   with_reducible rfl
                  rotate_left
                  ·simp only [Act.put, List.setIfInBounds_toArray, List.set_cons_zero, List.set_cons_succ, i64_w, i32_w]
                   rfl
                  refine done_ (done_of HT_.out (by kernel_rfl)) ?_
                  try go_wp2
                  have n0_ : Aside0 (Kd.R k42 42 ((w63.setCell ⟨gb1076, 0, none⟩ (.int .i64 t1073)).setCell ⟨gb1076, 1, none⟩ (.int .i64 t1074)) w.heap.size (fun _ => True) (.slice Ao13 t1056.length co13) t1056) := ⟨by (with_reducible repeat (first | apply Kd.R_alloc | apply Kd.R_drewN | apply Kd.R_drew)); exact Kd.R_mono (Kd.R_far (p := ⟨gb1076, 1, none⟩) (Kd.R_far (p := ⟨gb1076, 0, none⟩) (Kd.R_types HO_1062002.out BK1076.out (by decide)) (fun _ hk => hk.2) (.int .i64 t1073)) (fun _ hk => hk.2) (.int .i64 t1074)) (fun _ hk => trivial)⟩; have n1_ : Aside0 (((w63.setCell ⟨gb1076, 0, none⟩ (.int .i64 t1073)).setCell ⟨gb1076, 1, none⟩ (.int .i64 t1074)).heap[gb1061]? = some (.cells #[.int .i64 t1054, .int .i64 t1055, .slice Ao13 t1056.length co13] 30 (0, 0))) := ⟨by (with_reducible repeat (first | refine blk_drewN ?_ _ | refine blk_drew ?_ | refine blk_alloc ?_ _)); refine blk_far ?_ NB1061_1076.out _; (with_reducible repeat (first | refine blk_drewN ?_ _ | refine blk_drew ?_ | refine blk_alloc ?_ _)); refine blk_far ?_ NB1061_1076.out _; (with_reducible repeat (first | refine blk_drewN ?_ _ | refine blk_drew ?_ | refine blk_alloc ?_ _)); exact BK1061.out⟩
                  have n2_ : Aside0 (((w63.setCell ⟨gb1076, 0, none⟩ (.int .i64 t1073)).setCell ⟨gb1076, 1, none⟩ (.int .i64 t1074)).heap[gb1076]? = some (.cells #[.int .i64 t1073, .int .i64 t1074] 25 (0, 0))) := ⟨by (with_reducible repeat (first | refine blk_drewN ?_ _ | refine blk_drew ?_ | refine blk_alloc ?_ _)); refine blk_put (cs := #[.int .i64 t1073, .int .i64 0]) ?_ 1 _ rfl; (with_reducible repeat (first | refine blk_drewN ?_ _ | refine blk_drew ?_ | refine blk_alloc ?_ _)); refine blk_put (cs := #[.int .i64 0, .int .i64 0]) ?_ 0 _ rfl; (with_reducible repeat (first | refine blk_drewN ?_ _ | refine blk_drew ?_ | refine blk_alloc ?_ _)); exact BK1076.out⟩; have n3_ : Aside0 (Below w.heap.size w ((w63.setCell ⟨gb1076, 0, none⟩ (.int .i64 t1073)).setCell ⟨gb1076, 1, none⟩ (.int .i64 t1074))) := ⟨hb2_ HB.out GE1061.out GE1076.out⟩; (try clear HO_1062002); (try clear BK1061); (try clear BK1076); (try clear HB); generalize ((w63.setCell ⟨gb1076, 0, none⟩ (.int .i64 t1073)).setCell ⟨gb1076, 1, none⟩ (.int .i64 t1074)) = w66 at n0_ n1_ n2_ n3_ ⊢
                  have HO_1062002 := n0_; have BK1061 := n1_; have BK1076 := n2_; have HB := n3_; clear n0_ n1_ n2_ n3_; have n0_ := am_ (Kd.R_drew HO_1062002.out); have n1_ := am_ (blk_drew BK1061.out); have n2_ := am_ (blk_drew BK1076.out); have n3_ := am_ (below_drew1 HB.out); clear HO_1062002; clear BK1061; clear BK1076; clear HB; have HO_1062002 := n0_; have BK1061 := n1_; have BK1076 := n2_; have HB := n3_; clear n0_ n1_ n2_ n3_; have p1077 : 0 ≤ ((ji35) : Int) := of_decide_eq_true (by first | (with_reducible assumption) | assumption); have q1077 : (ji35) < (t1056.length : Int) := of_decide_eq_true (by first | (with_reducible assumption) | assumption); obtain ⟨ad1077, e1077, hx1077_0, hx1077_1⟩ := at_T42 (Kd.R_reads' HO_1062002.out).2.2 (ji35) p1077 q1077
                  cases e1077
                  replace p1077 := eq_true p1077; replace q1077 := eq_true q1077; refine start_ (n := 27) (S := fun w' => w'.cell? ⟨gb1061, 0, none⟩ = some (.int .i64 t1054) ∧ w'.cell? ⟨gb1061, 1, none⟩ = some (.int .i64 t1055) ∧ w'.cell? ⟨gb1061, 2, none⟩ = some (.slice (some ad1077) t1056.length co13) ∧ w'.cell? (ad1077.add (((ji35)).toNat * 2)) = some (.int .i64 ((rd_T42 t1056 (ji35)).f0)) ∧ w'.cell? ⟨(ad1077.add (((ji35)).toNat * 2)).block, (ad1077.add (((ji35)).toNat * 2)).off + 1, none⟩ = some (.int .i64 ((rd_T42 t1056 (ji35)).f1))) (ds := []) #[false, false, false, false, false, false, false, false, false, false, false, false, false, false, false, false, false, false, false, false, false, false, false, false, false, false, false] (by kernel_rfl) rfl rfl ⟨(blk_cell BK1061.out 0).trans rfl, (blk_cell BK1061.out 1).trans rfl, (blk_cell BK1061.out 2).trans rfl, hx1077_0, hx1077_1⟩ (fun hHeld => ?_); refine with_tabW laws_FnNextOwn.tab19 laws_FnNextOwn.bits19 (fun HT_ HW_ => ?_)
                  generalize w66.drew = w67 at HO_1062002 BK1061 BK1076 HB hx1077_0 hx1077_1 hHeld ⊢
                  refine pure_ (i := 0) (N := some 119) (v := ?_) (a' := ?_) #[true, false, false, false, false, false, false, false, false, false, false, false, false, false, false, false, false, false, false, false, false, false, false, false, false, false, false] rfl rfl (any_of HT_.out (by kernel_rfl)) (fun _ _ _ h => h) (Or.inl ⟨by rfl, ?_⟩) ?_ ?_
                  rotate_left
                  ·intro w'; go_simp
                   with_reducible rfl
                  rotate_left
                  ·simp only [Act.put, List.setIfInBounds_toArray, List.set_cons_zero, List.set_cons_succ, i64_w, i32_w]
                   rfl
                  refine pure_ (i := 1) (N := some 120) (v := ?_) (a' := ?_) #[true, true, false, false, false, false, false, false, false, false, false, false, false, false, false, false, false, false, false, false, false, false, false, false, false, false, false] rfl rfl (any_of HT_.out (by kernel_rfl)) (fun _ _ _ h => h) (Or.inl ⟨by rfl, ?_⟩) ?_ ?_
                  rotate_left
                  ·intro w'; go_simp
                   with_reducible rfl
                  rotate_left
                  ·simp only [Act.put, List.setIfInBounds_toArray, List.set_cons_zero, List.set_cons_succ, i64_w, i32_w]
                   rfl
                  refine pure_ (i := 2) (N := some 121) (v := ?_) (a' := ?_) #[true, true, true, false, false, false, false, false, false, false, false, false, false, false, false, false, false, false, false, false, false, false, false, false, false, false, false] rfl rfl (any_of HT_.out (by kernel_rfl)) (fun _ _ _ h => h) (Or.inl ⟨by rfl, ?_⟩) ?_ ?_
                  rotate_left
                  ·intro w'; go_simp
                   with_reducible rfl
                  rotate_left
                  ·simp only [Act.put, List.setIfInBounds_toArray, List.set_cons_zero, List.set_cons_succ, i64_w, i32_w]
                   rfl
                  refine pure_ (i := 4) (N := some 123) (v := ?_) (a' := ?_) #[true, true, true, false, true, false, false, false, false, false, false, false, false, false, false, false, false, false, false, false, false, false, false, false, false, false, false] rfl rfl (any_of HT_.out (by kernel_rfl)) (fun _ _ _ h => h) (Or.inl ⟨by rfl, ?_⟩) ?_ ?_
                  rotate_left
                  ·intro w'; go_simp
                   with_reducible rfl
                  rotate_left
                  ·simp only [Act.put, List.setIfInBounds_toArray, List.set_cons_zero, List.set_cons_succ, i64_w, i32_w]
                   rfl
                  refine pure_ (i := 5) (N := some 124) (v := ?_) (a' := ?_) #[true, true, true, false, true, true, false, false, false, false, false, false, false, false, false, false, false, false, false, false, false, false, false, false, false, false, false] rfl rfl (any_of HT_.out (by kernel_rfl)) (fun _ _ _ h => h) (Or.inl ⟨by rfl, ?_⟩) ?_ ?_
                  rotate_left
                  ·intro w'; go_simp
                   with_reducible rfl
                  rotate_left
                  ·simp only [Act.put, List.setIfInBounds_toArray, List.set_cons_zero, List.set_cons_succ, i64_w, i32_w]
                   rfl
                  refine pure_ (i := 12) (N := some 131) (v := ?_) (a' := ?_) #[true, true, true, false, true, true, false, false, false, false, false, false, true, false, false, false, false, false, false, false, false, false, false, false, false, false, false] rfl rfl (any_of HT_.out (by kernel_rfl)) (fun _ _ _ h => h) (Or.inl ⟨by rfl, ?_⟩) ?_ ?_
                  rotate_left
                  ·intro w'; go_simp
                   with_reducible rfl
                  rotate_left
                  ·simp only [Act.put, List.setIfInBounds_toArray, List.set_cons_zero, List.set_cons_succ, i64_w, i32_w]
                   rfl
                  refine take_ (i := 3) (N := some 122) (v := ?_) (a' := ?_) #[true, true, true, true, true, true, false, false, false, false, false, false, true, false, false, false, false, false, false, false, false, false, false, false, false, false, false] rfl rfl (take_ofW HT_.out HW_.out (by kernel_rfl)) (fun _ _ _ h => h) (Or.inl ⟨by rfl, ?_⟩) hHeld ?_ ?_
                  rotate_left
                  ·rintro w' ⟨s0, s1, s2, s3, s4⟩; go_simp
                   with_reducible rfl
                  rotate_left
                  ·simp only [Act.put, List.setIfInBounds_toArray, List.set_cons_zero, List.set_cons_succ, i64_w, i32_w]
                   rfl
                  refine take_ (i := 6) (N := some 125) (v := ?_) (a' := ?_) #[true, true, true, true, true, true, true, false, false, false, false, false, true, false, false, false, false, false, false, false, false, false, false, false, false, false, false] rfl rfl (take_ofW HT_.out HW_.out (by kernel_rfl)) (fun _ _ _ h => h) (Or.inl ⟨by rfl, ?_⟩) hHeld ?_ ?_
                  rotate_left
                  ·rintro w' ⟨s0, s1, s2, s3, s4⟩; go_simp
                   with_reducible rfl
                  rotate_left
                  ·simp only [Act.put, List.setIfInBounds_toArray, List.set_cons_zero, List.set_cons_succ, i64_w, i32_w]
                   rfl
                  refine pure_ (i := 7) (N := some 126) (v := ?_) (a' := ?_) #[true, true, true, true, true, true, true, true, false, false, false, false, true, false, false, false, false, false, false, false, false, false, false, false, false, false, false] rfl rfl (any_of HT_.out (by kernel_rfl)) (fun _ _ _ h => h) (Or.inl ⟨by rfl, ?_⟩) ?_ ?_
                  rotate_left
                  ·intro w'; go_simp
                   with_reducible rfl
                  rotate_left
                  ·simp only [Act.put, List.setIfInBounds_toArray, List.set_cons_zero, List.set_cons_succ, i64_w, i32_w]
                   rfl
                  refine pure_ (i := 8) (N := some 127) (v := ?_) (a' := ?_) #[true, true, true, true, true, true, true, true, true, false, false, false, true, false, false, false, false, false, false, false, false, false, false, false, false, false, false] rfl rfl (any_of HT_.out (by kernel_rfl)) (fun _ _ _ h => h) (Or.inl ⟨by rfl, ?_⟩) ?_ ?_
                  rotate_left
                  ·intro w'; go_simp
                   with_reducible rfl
                  rotate_left
                  ·simp only [Act.put, List.setIfInBounds_toArray, List.set_cons_zero, List.set_cons_succ, i64_w, i32_w]
                   rfl
                  refine pure_ (i := 9) (N := some 128) (v := ?_) (a' := ?_) #[true, true, true, true, true, true, true, true, true, true, false, false, true, false, false, false, false, false, false, false, false, false, false, false, false, false, false] rfl rfl (any_of HT_.out (by kernel_rfl)) (fun _ _ _ h => h) (Or.inl ⟨by rfl, ?_⟩) ?_ ?_
                  rotate_left
                  ·intro w'; go_simp
                   with_reducible rfl
                  rotate_left
                  ·simp only [Act.put, List.setIfInBounds_toArray, List.set_cons_zero, List.set_cons_succ, i64_w, i32_w]
                   rfl
                  refine pure_ (i := 10) (N := some 129) (v := ?_) (a' := ?_) #[true, true, true, true, true, true, true, true, true, true, true, false, true, false, false, false, false, false, false, false, false, false, false, false, false, false, false] rfl rfl (any_of HT_.out (by kernel_rfl)) (fun _ _ _ h => h) (Or.inl ⟨by rfl, ?_⟩) ?_ ?_
                  rotate_left
                  ·intro w'; go_simp
                   with_reducible rfl
                  rotate_left
                  ·simp only [Act.put, List.setIfInBounds_toArray, List.set_cons_zero, List.set_cons_succ, i64_w, i32_w]
                   rfl
                  refine take_ (i := 11) (N := some 130) (v := ?_) (a' := ?_) #[true, true, true, true, true, true, true, true, true, true, true, true, true, false, false, false, false, false, false, false, false, false, false, false, false, false, false] rfl rfl (take_ofW HT_.out HW_.out (by kernel_rfl)) (fun _ _ _ h => h) (Or.inl ⟨by rfl, ?_⟩) hHeld ?_ ?_
                  rotate_left
                  ·rintro w' ⟨s0, s1, s2, s3, s4⟩; go_simp
                   with_reducible rfl
                  rotate_left
                  ·simp only [Act.put, List.setIfInBounds_toArray, List.set_cons_zero, List.set_cons_succ, i64_w, i32_w]
                   rfl
                  refine pure_ (i := 13) (N := some 132) (v := ?_) (a' := ?_) #[true, true, true, true, true, true, true, true, true, true, true, true, true, true, false, false, false, false, false, false, false, false, false, false, false, false, false] rfl rfl (any_of HT_.out (by kernel_rfl)) (fun _ _ _ h => h) (Or.inl ⟨by rfl, ?_⟩) ?_ ?_
                  rotate_left
                  ·intro w'; go_simp
                   with_reducible rfl
                  rotate_left
                  ·simp only [Act.put, List.setIfInBounds_toArray, List.set_cons_zero, List.set_cons_succ, i64_w, i32_w]
                   rfl
                  refine pure_ (i := 14) (N := some 133) (v := ?_) (a' := ?_) #[true, true, true, true, true, true, true, true, true, true, true, true, true, true, true, false, false, false, false, false, false, false, false, false, false, false, false] rfl rfl (any_of HT_.out (by kernel_rfl)) (fun _ _ _ h => h) (Or.inl ⟨by rfl, ?_⟩) ?_ ?_
                  rotate_left
                  ·intro w'; go_simp
                   with_reducible rfl
                  rotate_left
                  ·simp only [Act.put, List.setIfInBounds_toArray, List.set_cons_zero, List.set_cons_succ, i64_w, i32_w]
                   rfl
                  refine pure_ (i := 15) (N := some 134) (v := ?_) (a' := ?_) #[true, true, true, true, true, true, true, true, true, true, true, true, true, true, true, true, false, false, false, false, false, false, false, false, false, false, false] rfl rfl (any_of HT_.out (by kernel_rfl)) (fun _ _ _ h => h) (Or.inl ⟨by rfl, ?_⟩) ?_ ?_
                  rotate_left
                  ·intro w'; go_simp
                   with_reducible rfl
                  rotate_left
                  ·simp only [Act.put, List.setIfInBounds_toArray, List.set_cons_zero, List.set_cons_succ, i64_w, i32_w]
                   rfl
                  refine pure_ (i := 16) (N := some 135) (v := undef) (a' := ?_) #[true, true, true, true, true, true, true, true, true, true, true, true, true, true, true, true, true, false, false, false, false, false, false, false, false, false, false] rfl rfl (any_of HT_.out (by kernel_rfl)) (fun _ _ _ h => h) (Or.inr ⟨by rfl, rfl⟩) ?_ ?_
                  rotate_left
                  ·simp only [Act.put, List.setIfInBounds_toArray, List.set_cons_zero, List.set_cons_succ, i64_w, i32_w]
                   rfl
                  refine pure_ (i := 17) (N := some 136) (v := undef) (a' := ?_) #[true, true, true, true, true, true, true, true, true, true, true, true, true, true, true, true, true, true, false, false, false, false, false, false, false, false, false] rfl rfl (any_of HT_.out (by kernel_rfl)) (fun _ _ _ h => h) (Or.inr ⟨by rfl, rfl⟩) ?_ ?_
                  rotate_left
                  ·simp only [Act.put, List.setIfInBounds_toArray, List.set_cons_zero, List.set_cons_succ, i64_w, i32_w]
                   rfl
                  refine pure_ (i := 18) (N := some 137) (v := undef) (a' := ?_) #[true, true, true, true, true, true, true, true, true, true, true, true, true, true, true, true, true, true, true, false, false, false, false, false, false, false, false] rfl rfl (any_of HT_.out (by kernel_rfl)) (fun _ _ _ h => h) (Or.inr ⟨by rfl, rfl⟩) ?_ ?_
                  rotate_left
                  ·simp only [Act.put, List.setIfInBounds_toArray, List.set_cons_zero, List.set_cons_succ, i64_w, i32_w]
                   rfl
                  refine pure_ (i := 19) (N := some 138) (v := undef) (a' := ?_) #[true, true, true, true, true, true, true, true, true, true, true, true, true, true, true, true, true, true, true, true, false, false, false, false, false, false, false] rfl rfl (any_of HT_.out (by kernel_rfl)) (fun _ _ _ h => h) (Or.inr ⟨by rfl, rfl⟩) ?_ ?_
                  rotate_left
                  ·simp only [Act.put, List.setIfInBounds_toArray, List.set_cons_zero, List.set_cons_succ, i64_w, i32_w]
                   rfl
                  refine pure_ (i := 20) (N := some 139) (v := ?_) (a' := ?_) #[true, true, true, true, true, true, true, true, true, true, true, true, true, true, true, true, true, true, true, true, true, false, false, false, false, false, false] rfl rfl (any_of HT_.out (by kernel_rfl)) (fun _ _ _ h => h) (Or.inl ⟨by rfl, ?_⟩) ?_ ?_
                  rotate_left
                  ·intro w'; go_simp
                   with_reducible rfl
                  rotate_left
                  ·simp only [Act.put, List.setIfInBounds_toArray, List.set_cons_zero, List.set_cons_succ, i64_w, i32_w]
                   rfl
                  refine pure_ (i := 21) (N := some 140) (v := ?_) (a' := ?_) #[true, true, true, true, true, true, true, true, true, true, true, true, true, true, true, true, true, true, true, true, true, true, false, false, false, false, false] rfl rfl (any_of HT_.out (by kernel_rfl)) (fun _ _ _ h => h) (Or.inl ⟨by rfl, ?_⟩) ?_ ?_
                  rotate_left
                  ·intro w'; go_simp
                   with_reducible rfl
                  rotate_left
                  ·simp only [Act.put, List.setIfInBounds_toArray, List.set_cons_zero, List.set_cons_succ, i64_w, i32_w]
                   rfl
                  refine pure_ (i := 22) (N := some 141) (v := undef) (a' := ?_) #[true, true, true, true, true, true, true, true, true, true, true, true, true, true, true, true, true, true, true, true, true, true, true, false, false, false, false] rfl rfl (any_of HT_.out (by kernel_rfl)) (fun _ _ _ h => h) (Or.inr ⟨by rfl, rfl⟩) ?_ ?_
                  rotate_left
                  ·simp only [Act.put, List.setIfInBounds_toArray, List.set_cons_zero, List.set_cons_succ, i64_w, i32_w]
                   rfl
                  refine pure_ (i := 23) (N := some 142) (v := undef) (a' := ?_) #[true, true, true, true, true, true, true, true, true, true, true, true, true, true, true, true, true, true, true, true, true, true, true, true, false, false, false] rfl rfl (any_of HT_.out (by kernel_rfl)) (fun _ _ _ h => h) (Or.inr ⟨by rfl, rfl⟩) ?_ ?_
                  rotate_left
                  ·simp only [Act.put, List.setIfInBounds_toArray, List.set_cons_zero, List.set_cons_succ, i64_w, i32_w]
                   rfl
                  refine pure_ (i := 24) (N := some 143) (v := undef) (a' := ?_) #[true, true, true, true, true, true, true, true, true, true, true, true, true, true, true, true, true, true, true, true, true, true, true, true, true, false, false] rfl rfl (any_of HT_.out (by kernel_rfl)) (fun _ _ _ h => h) (Or.inr ⟨by rfl, rfl⟩) ?_ ?_
                  rotate_left
                  ·simp only [Act.put, List.setIfInBounds_toArray, List.set_cons_zero, List.set_cons_succ, i64_w, i32_w]
                   rfl
                  refine pure_ (i := 25) (N := some 144) (v := undef) (a' := ?_) #[true, true, true, true, true, true, true, true, true, true, true, true, true, true, true, true, true, true, true, true, true, true, true, true, true, true, false] rfl rfl (any_of HT_.out (by kernel_rfl)) (fun _ _ _ h => h) (Or.inr ⟨by rfl, rfl⟩) ?_ ?_
                  rotate_left
                  ·simp only [Act.put, List.setIfInBounds_toArray, List.set_cons_zero, List.set_cons_succ, i64_w, i32_w]
                   rfl
                  refine pure_ (i := 26) (N := some 145) (v := ?_) (a' := ?_) #[true, true, true, true, true, true, true, true, true, true, true, true, true, true, true, true, true, true, true, true, true, true, true, true, true, true, true] rfl rfl (any_of HT_.out (by kernel_rfl)) (fun _ _ _ h => h) (Or.inl ⟨by rfl, ?_⟩) ?_ ?_
                  rotate_left
                  ·intro w'; go_simp
                   with_reducible rfl
                  rotate_left
                  ·simp only [Act.put, List.setIfInBounds_toArray, List.set_cons_zero, List.set_cons_succ, i64_w, i32_w]
                   rfl
                  refine done_ (done_of HT_.out (by kernel_rfl)) ?_
                  try go_wp2
                  go_roundg k3
                  case measure => have := HJ8.out; have := HJ25.out; have := HK3.out; omega
                  case rel => exact ⟨(wrap64 (x15_3 + 1)), (by first | rfl | (simp; done) | (simp [*]; done)), H', ⟨by have := HJ8.out; have := HJ25.out; have := HK3.out; omega⟩, ⟨by (with_reducible repeat (first | apply Kd.R_alloc | apply Kd.R_drewN | apply Kd.R_drew)); exact HO_1062002.out⟩, ⟨bk_ BK1061.out⟩, ⟨hb2_ HB.out GE1061.out GE1076.out⟩⟩
                ·rw [if_neg c37] at H; exact absurd H (by simp)
               ·rw [if_neg c36] at H; exact absurd H (by simp)
              ·replace c34 := Bool.eq_false_iff.mpr c34; subst c34; replace H := i0_ H; have H' := Aside0.mk H; clear H; have hcz68_0 := bc_ BK1061.out 0 (.int .i64 t1054) rfl; have hcz68_1 := bc_ BK1061.out 1 (.int .i64 t1055) rfl; have hcz68_2 := bc_ BK1061.out 2 (.slice Ao13 t1056.length co13) rfl; have hfz68_0 := blk_frozen BK1061.out 0; have hfz68_1 := blk_frozen BK1061.out 1; have hfz68_2 := blk_frozen BK1061.out 2; try go_wp2
               have n0_ := am_ (Kd.R_drew HO_1062002.out); have n1_ := am_ (blk_drew BK1061.out); have n2_ := am_ (below_drew1 HB.out); clear HO_1062002; clear BK1061; clear HB; have HO_1062002 := n0_; have BK1061 := n1_; have HB := n2_; clear n0_ n1_ n2_; refine start_ (n := 20) (S := fun w' => w'.cell? ⟨gb1061, 0, none⟩ = some (.int .i64 t1054) ∧ w'.cell? ⟨gb1061, 1, none⟩ = some (.int .i64 t1055) ∧ w'.cell? ⟨gb1061, 2, none⟩ = some (.slice Ao13 t1056.length co13)) (ds := []) #[false, false, false, false, false, false, false, false, false, false, false, false, false, false, false, false, false, false, false, false] (by kernel_rfl) rfl rfl ⟨(blk_cell BK1061.out 0).trans rfl, (blk_cell BK1061.out 1).trans rfl, (blk_cell BK1061.out 2).trans rfl⟩ (fun hHeld => ?_); refine with_tabW laws_FnNextOwn.tab18 laws_FnNextOwn.bits18 (fun HT_ HW_ => ?_)
               generalize wr.drew = w69 at HO_1062002 BK1061 HB hHeld ⊢
               refine pure_ (i := 1) (N := some 104) (v := ?_) (a' := ?_) #[false, true, false, false, false, false, false, false, false, false, false, false, false, false, false, false, false, false, false, false] rfl rfl (any_of HT_.out (by kernel_rfl)) (fun _ _ _ h => h) (Or.inl ⟨by rfl, ?_⟩) ?_ ?_
               rotate_left
               ·intro w'; go_simp
                with_reducible rfl
               rotate_left
               ·simp only [Act.put, List.setIfInBounds_toArray, List.set_cons_zero, List.set_cons_succ, i64_w, i32_w]
                rfl
               refine pure_ (i := 2) (N := some 105) (v := ?_) (a' := ?_) #[false, true, true, false, false, false, false, false, false, false, false, false, false, false, false, false, false, false, false, false] rfl rfl (any_of HT_.out (by kernel_rfl)) (fun _ _ _ h => h) (Or.inl ⟨by rfl, ?_⟩) ?_ ?_
               rotate_left
               ·intro w'; go_simp
                with_reducible rfl
               rotate_left
               ·simp only [Act.put, List.setIfInBounds_toArray, List.set_cons_zero, List.set_cons_succ, i64_w, i32_w]
                rfl
               refine pure_ (i := 6) (N := some 109) (v := ?_) (a' := ?_) #[false, true, true, false, false, false, true, false, false, false, false, false, false, false, false, false, false, false, false, false] rfl rfl (any_of HT_.out (by kernel_rfl)) (fun _ _ _ h => h) (Or.inl ⟨by rfl, ?_⟩) ?_ ?_
               rotate_left
               ·intro w'; go_simp
                with_reducible rfl
               rotate_left
               ·simp only [Act.put, List.setIfInBounds_toArray, List.set_cons_zero, List.set_cons_succ, i64_w, i32_w]
                rfl
               refine pure_ (i := 7) (N := some 110) (v := ?_) (a' := ?_) #[false, true, true, false, false, false, true, true, false, false, false, false, false, false, false, false, false, false, false, false] rfl rfl (any_of HT_.out (by kernel_rfl)) (fun _ _ _ h => h) (Or.inl ⟨by rfl, ?_⟩) ?_ ?_
               rotate_left
               ·intro w'; go_simp
                with_reducible rfl
               rotate_left
               ·simp only [Act.put, List.setIfInBounds_toArray, List.set_cons_zero, List.set_cons_succ, i64_w, i32_w]
                rfl
               refine pure_ (i := 8) (N := some 111) (v := ?_) (a' := ?_) #[false, true, true, false, false, false, true, true, true, false, false, false, false, false, false, false, false, false, false, false] rfl rfl (any_of HT_.out (by kernel_rfl)) (fun _ _ _ h => h) (Or.inl ⟨by rfl, ?_⟩) ?_ ?_
               rotate_left
               ·intro w'; go_simp
                with_reducible rfl
               rotate_left
               ·simp only [Act.put, List.setIfInBounds_toArray, List.set_cons_zero, List.set_cons_succ, i64_w, i32_w]
                rfl
               refine take_ (i := 0) (N := some 103) (v := ?_) (a' := ?_) #[true, true, true, false, false, false, true, true, true, false, false, false, false, false, false, false, false, false, false, false] rfl rfl (take_ofW HT_.out HW_.out (by kernel_rfl)) (fun _ _ _ h => h) (Or.inl ⟨by rfl, ?_⟩) hHeld ?_ ?_
               rotate_left
               ·rintro w' ⟨s0, s1, s2⟩; go_simp
                with_reducible rfl
               rotate_left
               ·simp only [Act.put, List.setIfInBounds_toArray, List.set_cons_zero, List.set_cons_succ, i64_w, i32_w]
                rfl
               refine take_ (i := 3) (N := some 106) (v := ?_) (a' := ?_) #[true, true, true, true, false, false, true, true, true, false, false, false, false, false, false, false, false, false, false, false] rfl rfl (take_ofW HT_.out HW_.out (by kernel_rfl)) (fun _ _ _ h => h) (Or.inl ⟨by rfl, ?_⟩) hHeld ?_ ?_
               rotate_left
               ·rintro w' ⟨s0, s1, s2⟩; go_simp
                with_reducible rfl
               rotate_left
               ·simp only [Act.put, List.setIfInBounds_toArray, List.set_cons_zero, List.set_cons_succ, i64_w, i32_w]
                rfl
               refine pure_ (i := 4) (N := some 107) (v := ?_) (a' := ?_) #[true, true, true, true, true, false, true, true, true, false, false, false, false, false, false, false, false, false, false, false] rfl rfl (any_of HT_.out (by kernel_rfl)) (fun _ _ _ h => h) (Or.inl ⟨by rfl, ?_⟩) ?_ ?_
               rotate_left
               ·intro w'; go_simp
                with_reducible rfl
               rotate_left
               ·simp only [Act.put, List.setIfInBounds_toArray, List.set_cons_zero, List.set_cons_succ, i64_w, i32_w]
                rfl
               refine pure_ (i := 5) (N := some 108) (v := ?_) (a' := ?_) #[true, true, true, true, true, true, true, true, true, false, false, false, false, false, false, false, false, false, false, false] rfl rfl (any_of HT_.out (by kernel_rfl)) (fun _ _ _ h => h) (Or.inl ⟨by rfl, ?_⟩) ?_ ?_
               rotate_left
               ·intro w'; go_simp
                with_reducible rfl
               rotate_left
               ·simp only [Act.put, List.setIfInBounds_toArray, List.set_cons_zero, List.set_cons_succ, i64_w, i32_w]
                rfl
               refine take_ (i := 9) (N := some 112) (v := ?_) (a' := ?_) #[true, true, true, true, true, true, true, true, true, true, false, false, false, false, false, false, false, false, false, false] rfl rfl (take_ofW HT_.out HW_.out (by kernel_rfl)) (fun _ _ _ h => h) (Or.inl ⟨by rfl, ?_⟩) hHeld ?_ ?_
               rotate_left
               ·rintro w' ⟨s0, s1, s2⟩; go_simp
                with_reducible rfl
               rotate_left
               ·simp only [Act.put, List.setIfInBounds_toArray, List.set_cons_zero, List.set_cons_succ, i64_w, i32_w]
                rfl
               refine pure_ (i := 10) (N := some 113) (v := ?_) (a' := ?_) #[true, true, true, true, true, true, true, true, true, true, true, false, false, false, false, false, false, false, false, false] rfl rfl (any_of HT_.out (by kernel_rfl)) (fun _ _ _ h => h) (Or.inl ⟨by rfl, ?_⟩) ?_ ?_
               rotate_left
               ·intro w'; go_simp
                with_reducible rfl
               rotate_left
               ·simp only [Act.put, List.setIfInBounds_toArray, List.set_cons_zero, List.set_cons_succ, i64_w, i32_w]
                rfl
               refine pure_ (i := 11) (N := some 114) (v := ?_) (a' := ?_) #[true, true, true, true, true, true, true, true, true, true, true, true, false, false, false, false, false, false, false, false] rfl rfl (any_of HT_.out (by kernel_rfl)) (fun _ _ _ h => h) (Or.inl ⟨by rfl, ?_⟩) ?_ ?_
               rotate_left
               ·intro w'; go_simp
                with_reducible rfl
               rotate_left
               ·simp only [Act.put, List.setIfInBounds_toArray, List.set_cons_zero, List.set_cons_succ, i64_w, i32_w]
                rfl
               refine pure_ (i := 12) (N := some 115) (v := ?_) (a' := ?_) #[true, true, true, true, true, true, true, true, true, true, true, true, true, false, false, false, false, false, false, false] rfl rfl (any_of HT_.out (by kernel_rfl)) (fun _ _ _ h => h) (Or.inl ⟨by rfl, ?_⟩) ?_ ?_
               rotate_left
               ·intro w'; go_simp
                with_reducible rfl
               rotate_left
               ·simp only [Act.put, List.setIfInBounds_toArray, List.set_cons_zero, List.set_cons_succ, i64_w, i32_w]
                rfl
               refine join_ (σ := Nat) 2 #[true, true, true, true, true, true, true, true, true, true, true, true, true, true, true, true, true, true, false, false] (fun s_ => [(116, .tuple #[.agg #[.int .i64 t1073, .int .i64 t1074], .bool false]), (16, .pointer (some ⟨s_, 0, none⟩)), (102, .tuple #[.agg #[.int .i64 t1073, .int .i64 t1074], .bool false]), (117, .agg #[.int .i64 t1073, .int .i64 t1074]), (118, .bool false)]) (fun s_ w' => (w'.cell? ⟨gb1061, 0, none⟩ = some (.int .i64 t1054) ∧ w'.cell? ⟨gb1061, 1, none⟩ = some (.int .i64 t1055) ∧ w'.cell? ⟨gb1061, 2, none⟩ = some (.slice Ao13 t1056.length co13)) ∧ (Kd.R k42 42 w' w.heap.size (fun _ => True) (.slice Ao13 t1056.length co13) t1056) ∧ (w'.heap[gb1061]? = some (.cells #[.int .i64 t1054, .int .i64 t1055, .slice Ao13 t1056.length co13] 30 (0, 0))) ∧ (w'.heap[s_]? = some (.cells #[.int .i64 0, .int .i64 0] 25 (0, 0))) ∧ (w.heap.size ≤ s_) ∧ (w.heap.size ≤ s_) ∧ (gb1061 ≠ s_) ∧ (s_ ≠ gb1061) ∧ (Below w.heap.size w w')) ?_ ?_
               rotate_left
               ·intro hCont; refine two_ (i := 13) (j := 17) (Ni := some 116) (Nj := some 16) #[true, true, true, true, true, true, true, true, true, true, true, true, true, true, false, false, false, false, false, false] #[true, true, true, true, true, true, true, true, true, true, true, true, true, false, false, false, false, true, false, false] rfl rfl rfl rfl (two_of HT_.out (by kernel_rfl)) (by decide) (by decide) (fun K hK => ?_) (fun K hK => ?_)
                ·skip
                 refine goes_ Try.func12 (by kernel_rfl) rfl #[.agg #[.int .i64 t1054, .int .i64 t1055, .slice Ao13 t1056.length co13], .int .i64 (Int.tmod x15_3 (t1056.length : Int)), .int .i64 (wrap64 (t1071 - (wrap64 (Int.tdiv x15_3 (t1056.length : Int)))))] (by rfl) rfl rfl arr_ ?_
                 with_reducible refine (impl_Occurrence.calls k3 t1054 t1055 _ _ t1056 (Int.tmod x15_3 (t1056.length : Int)) (wrap64 (t1071 - (wrap64 (Int.tdiv x15_3 (t1056.length : Int))))) t1073 t1074 false _ ?side1 ?side2 A33.out).mono ?_
                 (case side1 => repeat (first | exact (Kd.R_reads' HO_1062002.out).2.2 | (with_reducible refine Kd.C_alloc ?_ _) | (with_reducible refine Kd.C_drewN ?_ _) | (with_reducible refine Kd.C_drew ?_)))
                 (case side2 => exact (Kd.R_reads' HO_1062002.out).2.1)
                 rintro e w70 ⟨rfl, hb⟩; refine ⟨_, rfl, ?_⟩
                 have n0_ := am_ (Kd.R_below (by (with_reducible repeat (first | apply Kd.R_alloc | apply Kd.R_drewN | apply Kd.R_drew)); exact HO_1062002.out) hb); have n1_ := am_ (bb_ BK1061.out hb); have n2_ := am_ (below_step (hb1_ HB.out GE1061.out) hb); clear HO_1062002; clear BK1061; clear HB; have HO_1062002 := n0_; have BK1061 := n1_; have HB := n2_; clear n0_ n1_ n2_; (try clear hb); (try clear hb2); (try clear hk); (try clear hi); refine hK.out _ _ ⟨(blk_cell BK1061.out 0).trans rfl, (blk_cell BK1061.out 1).trans rfl, (blk_cell BK1061.out 2).trans rfl⟩ (fun hHeld => ?_)
                 clear hK K; refine norm_ (a' := ?_) ?_ ?_
                 rotate_left
                 ·show Act.put _ (some 116) _ = _
                  simp only [Act.put, List.setIfInBounds_toArray, List.set_cons_zero, List.set_cons_succ, i64_w, i32_w]
                  rfl
                 refine pure_ (i := 14) (N := some 102) (v := ?_) (a' := ?_) #[true, true, true, true, true, true, true, true, true, true, true, true, true, true, true, false, false, false, false, false] rfl rfl (any_of HT_.out (by kernel_rfl)) (fun _ _ _ h => h) (Or.inl ⟨by rfl, ?_⟩) ?_ ?_
                 rotate_left
                 ·intro w'; go_simp
                  with_reducible rfl
                 rotate_left
                 ·simp only [Act.put, List.setIfInBounds_toArray, List.set_cons_zero, List.set_cons_succ, i64_w, i32_w]
                  rfl
                 refine pure_ (i := 15) (N := some 117) (v := ?_) (a' := ?_) #[true, true, true, true, true, true, true, true, true, true, true, true, true, true, true, true, false, false, false, false] rfl rfl (any_of HT_.out (by kernel_rfl)) (fun _ _ _ h => h) (Or.inl ⟨by rfl, ?_⟩) ?_ ?_
                 rotate_left
                 ·intro w'; go_simp
                  with_reducible rfl
                 rotate_left
                 ·simp only [Act.put, List.setIfInBounds_toArray, List.set_cons_zero, List.set_cons_succ, i64_w, i32_w]
                  rfl
                 refine pure_ (i := 16) (N := some 118) (v := ?_) (a' := ?_) #[true, true, true, true, true, true, true, true, true, true, true, true, true, true, true, true, true, false, false, false] rfl rfl (any_of HT_.out (by kernel_rfl)) (fun _ _ _ h => h) (Or.inl ⟨by rfl, ?_⟩) ?_ ?_
                 rotate_left
                 ·intro w'; go_simp
                  with_reducible rfl
                 rotate_left
                 ·simp only [Act.put, List.setIfInBounds_toArray, List.set_cons_zero, List.set_cons_succ, i64_w, i32_w]
                  rfl
                 refine one_ (i := 17) (N := some 16) #[true, true, true, true, true, true, true, true, true, true, true, true, true, true, true, true, true, true, false, false] rfl rfl (one_of HT_.out (by kernel_rfl)) (by decide) (fun K hK => ?_)
                 refine box_step ?hg (N := 16) ?hd (cs := #[.int .i64 0, .int .i64 0]) (t := 25) ?hr ?_; (case hd => rfl); (case hg => rfl); (case hr => first|(go_simp;done)|(go_simp;rfl))
                 intro gb1076 hg w71 hbox hb; have n0_ := am_ (Kd.R_below (by (with_reducible repeat (first | apply Kd.R_alloc | apply Kd.R_drewN | apply Kd.R_drew)); exact HO_1062002.out) hb); have n1_ := am_ (bb_ BK1061.out hb); have n2_ := am_ (below_step (hb1_ HB.out GE1061.out) hb); have n3_ := am_ (hbox); have n4_ := am_ (hy_ hg (hb1_ HB.out GE1061.out) : w.heap.size ≤ gb1076); have n5_ := am_ (hy_ hg (hb1_ HB.out GE1061.out) : w.heap.size ≤ gb1076); have n6_ := am_ ((bl_ hg BK1061.out : gb1061 ≠ gb1076)); have n7_ := am_ ((bg_ hg BK1061.out : gb1076 ≠ gb1061)); clear HO_1062002; clear BK1061; clear HB; have HO_1062002 := n0_; have BK1061 := n1_; have HB := n2_; have BK1076 := n3_; have GW1076 := n4_; have GE1076 := n5_; have NB1061_1076 := n6_; have NB1076_1061 := n7_; clear n0_ n1_ n2_ n3_ n4_ n5_ n6_ n7_; clear hb hbox hg; refine hK.out _ _ ⟨(blk_cell BK1061.out 0).trans rfl, (blk_cell BK1061.out 1).trans rfl, (blk_cell BK1061.out 2).trans rfl⟩ (fun hHeld => ?_)
                 clear hK K; refine norm_ (a' := ?_) ?_ ?_
                 rotate_left
                 ·show Act.put _ (some 16) _ = _
                  simp only [Act.put, List.setIfInBounds_toArray, List.set_cons_zero, List.set_cons_succ, i64_w, i32_w]
                  rfl
                 exact norm_ (by simp only [putAll, Act.put, List.setIfInBounds_toArray, List.set_cons_zero, List.set_cons_succ]) (hCont (gb1076) _ ⟨hHeld, (by (with_reducible repeat (first | apply Kd.R_alloc | apply Kd.R_drewN | apply Kd.R_drew)); exact HO_1062002.out), (bk_ BK1061.out), (bk_ BK1076.out), GW1076.out, GE1076.out, NB1061_1076.out, NB1076_1061.out, (hb2_ HB.out GE1061.out GE1076.out)⟩)
                ·skip
                 refine box_step ?hg (N := 16) ?hd (cs := #[.int .i64 0, .int .i64 0]) (t := 25) ?hr ?_; (case hd => rfl); (case hg => rfl); (case hr => first|(go_simp;done)|(go_simp;rfl))
                 intro gb1076 hg w70 hbox hb; have n0_ := am_ (Kd.R_below (by (with_reducible repeat (first | apply Kd.R_alloc | apply Kd.R_drewN | apply Kd.R_drew)); exact HO_1062002.out) hb); have n1_ := am_ (bb_ BK1061.out hb); have n2_ := am_ (below_step (hb1_ HB.out GE1061.out) hb); have n3_ := am_ (hbox); have n4_ := am_ (hy_ hg (hb1_ HB.out GE1061.out) : w.heap.size ≤ gb1076); have n5_ := am_ (hy_ hg (hb1_ HB.out GE1061.out) : w.heap.size ≤ gb1076); have n6_ := am_ ((bl_ hg BK1061.out : gb1061 ≠ gb1076)); have n7_ := am_ ((bg_ hg BK1061.out : gb1076 ≠ gb1061)); clear HO_1062002; clear BK1061; clear HB; have HO_1062002 := n0_; have BK1061 := n1_; have HB := n2_; have BK1076 := n3_; have GW1076 := n4_; have GE1076 := n5_; have NB1061_1076 := n6_; have NB1076_1061 := n7_; clear n0_ n1_ n2_ n3_ n4_ n5_ n6_ n7_; clear hb hbox hg; refine hK.out _ _ ⟨(blk_cell BK1061.out 0).trans rfl, (blk_cell BK1061.out 1).trans rfl, (blk_cell BK1061.out 2).trans rfl⟩ (fun hHeld => ?_)
                 clear hK K; refine norm_ (a' := ?_) ?_ ?_
                 rotate_left
                 ·show Act.put _ (some 16) _ = _
                  simp only [Act.put, List.setIfInBounds_toArray, List.set_cons_zero, List.set_cons_succ, i64_w, i32_w]
                  rfl
                 refine one_ (i := 13) (N := some 116) #[true, true, true, true, true, true, true, true, true, true, true, true, true, true, false, false, false, true, false, false] rfl rfl (one_of HT_.out (by kernel_rfl)) (by decide) (fun K hK => ?_)
                 refine goes_ Try.func12 (by kernel_rfl) rfl #[.agg #[.int .i64 t1054, .int .i64 t1055, .slice Ao13 t1056.length co13], .int .i64 (Int.tmod x15_3 (t1056.length : Int)), .int .i64 (wrap64 (t1071 - (wrap64 (Int.tdiv x15_3 (t1056.length : Int)))))] (by rfl) rfl rfl arr_ ?_
                 with_reducible refine (impl_Occurrence.calls k3 t1054 t1055 _ _ t1056 (Int.tmod x15_3 (t1056.length : Int)) (wrap64 (t1071 - (wrap64 (Int.tdiv x15_3 (t1056.length : Int))))) t1073 t1074 false _ ?side1 ?side2 A33.out).mono ?_
                 (case side1 => repeat (first | exact (Kd.R_reads' HO_1062002.out).2.2 | (with_reducible refine Kd.C_alloc ?_ _) | (with_reducible refine Kd.C_drewN ?_ _) | (with_reducible refine Kd.C_drew ?_)))
                 (case side2 => exact (Kd.R_reads' HO_1062002.out).2.1)
                 rintro e w71 ⟨rfl, hb⟩; refine ⟨_, rfl, ?_⟩
                 have n0_ := am_ (Kd.R_below (by (with_reducible repeat (first | apply Kd.R_alloc | apply Kd.R_drewN | apply Kd.R_drew)); exact HO_1062002.out) hb); have n1_ := am_ (bb_ BK1061.out hb); have n2_ := am_ (bb_ BK1076.out hb); have n3_ := am_ (below_step (hb2_ HB.out GE1061.out GE1076.out) hb); clear HO_1062002; clear BK1061; clear BK1076; clear HB; have HO_1062002 := n0_; have BK1061 := n1_; have BK1076 := n2_; have HB := n3_; clear n0_ n1_ n2_ n3_; (try clear hb); (try clear hb2); (try clear hk); (try clear hi); refine hK.out _ _ ⟨(blk_cell BK1061.out 0).trans rfl, (blk_cell BK1061.out 1).trans rfl, (blk_cell BK1061.out 2).trans rfl⟩ (fun hHeld => ?_)
                 clear hK K; refine norm_ (a' := ?_) ?_ ?_
                 rotate_left
                 ·show Act.put _ (some 116) _ = _
                  simp only [Act.put, List.setIfInBounds_toArray, List.set_cons_zero, List.set_cons_succ, i64_w, i32_w]
                  rfl
                 refine pure_ (i := 14) (N := some 102) (v := ?_) (a' := ?_) #[true, true, true, true, true, true, true, true, true, true, true, true, true, true, true, false, false, true, false, false] rfl rfl (any_of HT_.out (by kernel_rfl)) (fun _ _ _ h => h) (Or.inl ⟨by rfl, ?_⟩) ?_ ?_
                 rotate_left
                 ·intro w'; go_simp
                  with_reducible rfl
                 rotate_left
                 ·simp only [Act.put, List.setIfInBounds_toArray, List.set_cons_zero, List.set_cons_succ, i64_w, i32_w]
                  rfl
                 refine pure_ (i := 15) (N := some 117) (v := ?_) (a' := ?_) #[true, true, true, true, true, true, true, true, true, true, true, true, true, true, true, true, false, true, false, false] rfl rfl (any_of HT_.out (by kernel_rfl)) (fun _ _ _ h => h) (Or.inl ⟨by rfl, ?_⟩) ?_ ?_
                 rotate_left
                 ·intro w'; go_simp
                  with_reducible rfl
                 rotate_left
                 ·simp only [Act.put, List.setIfInBounds_toArray, List.set_cons_zero, List.set_cons_succ, i64_w, i32_w]
                  rfl
                 refine pure_ (i := 16) (N := some 118) (v := ?_) (a' := ?_) #[true, true, true, true, true, true, true, true, true, true, true, true, true, true, true, true, true, true, false, false] rfl rfl (any_of HT_.out (by kernel_rfl)) (fun _ _ _ h => h) (Or.inl ⟨by rfl, ?_⟩) ?_ ?_
                 rotate_left
                 ·intro w'; go_simp
                  with_reducible rfl
                 rotate_left
                 ·simp only [Act.put, List.setIfInBounds_toArray, List.set_cons_zero, List.set_cons_succ, i64_w, i32_w]
                  rfl
                 exact norm_ (by simp only [putAll, Act.put, List.setIfInBounds_toArray, List.set_cons_zero, List.set_cons_succ]) (hCont (gb1076) _ ⟨hHeld, (by (with_reducible repeat (first | apply Kd.R_alloc | apply Kd.R_drewN | apply Kd.R_drew)); exact HO_1062002.out), (bk_ BK1061.out), (bk_ BK1076.out), GW1076.out, GE1076.out, NB1061_1076.out, NB1076_1061.out, (hb2_ HB.out GE1061.out GE1076.out)⟩)
               rintro gb1076 w72 ⟨hS_, h0_, h1_, h2_, h3_, h4_, h5_, h6_, h7_⟩; have n0_ : Aside0 (Kd.R k42 42 w72 w.heap.size (fun _ => True) (.slice Ao13 t1056.length co13) t1056) := ⟨h0_⟩; have n1_ : Aside0 (w72.heap[gb1061]? = some (.cells #[.int .i64 t1054, .int .i64 t1055, .slice Ao13 t1056.length co13] 30 (0, 0))) := ⟨h1_⟩; have n2_ : Aside0 (w72.heap[gb1076]? = some (.cells #[.int .i64 0, .int .i64 0] 25 (0, 0))) := ⟨h2_⟩; have n3_ : Aside0 (w.heap.size ≤ gb1076) := ⟨h3_⟩; have n4_ : Aside0 (w.heap.size ≤ gb1076) := ⟨h4_⟩; have n5_ : Aside0 (gb1061 ≠ gb1076) := ⟨h5_⟩; have n6_ : Aside0 (gb1076 ≠ gb1061) := ⟨h6_⟩; have n7_ : Aside0 (Below w.heap.size w w72) := ⟨h7_⟩; clear HO_1062002; clear BK1061; clear HB; clear h0_ h1_ h2_ h3_ h4_ h5_ h6_ h7_; have HO_1062002 := n0_; have BK1061 := n1_; have BK1076 := n2_; have GW1076 := n3_; have GE1076 := n4_; have NB1061_1076 := n5_; have NB1076_1061 := n6_; have HB := n7_; clear n0_ n1_ n2_ n3_ n4_ n5_ n6_ n7_; have hHeld : w72.cell? ⟨gb1061, 0, none⟩ = some (.int .i64 t1054) ∧ w72.cell? ⟨gb1061, 1, none⟩ = some (.int .i64 t1055) ∧ w72.cell? ⟨gb1061, 2, none⟩ = some (.slice Ao13 t1056.length co13) := hS_; refine norm_ (a' := ?_) ?_ ?_
               rotate_left
               ·simp only [putAll, Act.put, List.setIfInBounds_toArray, List.set_cons_zero, List.set_cons_succ]
                rfl
               refine one_ (i := 18) (N := none) #[true, true, true, true, true, true, true, true, true, true, true, true, true, true, true, true, true, true, true, false] rfl rfl (one_of HT_.out (by kernel_rfl)) (by decide) (fun K hK => ?_)
               have hs73 : w72.cell? ⟨gb1076, 0, none⟩ = some (.int .i64 0) := (blk_cell BK1076.out 0).trans rfl; have hfs73 := blk_frozen BK1076.out 0; have hns73_0 := NB1061_1076.out; have hms73_0 := NB1076_1061.out; have hs74 : w72.cell? ⟨gb1076, 1, none⟩ = some (.int .i64 0) := (blk_cell BK1076.out 1).trans rfl; have hfs74 := blk_frozen BK1076.out 1; have hns74_0 := NB1061_1076.out; have hms74_0 := NB1076_1061.out; refine skip_ (w1 := ?_) (by rfl) rfl ?_ ?_
               rotate_left
               ·go_simp
                rfl
               refine hK.out _ _ ⟨(ct_ NB1061_1076.out ((ct_ NB1061_1076.out (hHeld.1)))), (ct_ NB1061_1076.out ((ct_ NB1061_1076.out (hHeld.2.1)))), (ct_ NB1061_1076.out ((ct_ NB1061_1076.out (hHeld.2.2))))⟩ (fun hHeld => ?_)
               clear hK K; refine pure_ (i := 19) (N := some 17) (v := ?_) (a' := ?_) #[true, true, true, true, true, true, true, true, true, true, true, true, true, true, true, true, true, true, true, true] rfl rfl (any_of HT_.out (by kernel_rfl)) (fun _ _ _ h => h) (Or.inl ⟨by rfl, ?_⟩) ?_ ?_
               rotate_left
               ·intro w'; go_simp
                with_reducible rfl
               rotate_left
               ·simp only [Act.put, List.setIfInBounds_toArray, List.set_cons_zero, List.set_cons_succ, i64_w, i32_w]
                rfl
               refine done_ (done_of HT_.out (by kernel_rfl)) ?_
               try go_wp2
               have n0_ : Aside0 (Kd.R k42 42 ((w72.setCell ⟨gb1076, 0, none⟩ (.int .i64 t1073)).setCell ⟨gb1076, 1, none⟩ (.int .i64 t1074)) w.heap.size (fun _ => True) (.slice Ao13 t1056.length co13) t1056) := ⟨by (with_reducible repeat (first | apply Kd.R_alloc | apply Kd.R_drewN | apply Kd.R_drew)); exact Kd.R_mono (Kd.R_far (p := ⟨gb1076, 1, none⟩) (Kd.R_far (p := ⟨gb1076, 0, none⟩) (Kd.R_types HO_1062002.out BK1076.out (by decide)) (fun _ hk => hk.2) (.int .i64 t1073)) (fun _ hk => hk.2) (.int .i64 t1074)) (fun _ hk => trivial)⟩; have n1_ : Aside0 (((w72.setCell ⟨gb1076, 0, none⟩ (.int .i64 t1073)).setCell ⟨gb1076, 1, none⟩ (.int .i64 t1074)).heap[gb1061]? = some (.cells #[.int .i64 t1054, .int .i64 t1055, .slice Ao13 t1056.length co13] 30 (0, 0))) := ⟨by (with_reducible repeat (first | refine blk_drewN ?_ _ | refine blk_drew ?_ | refine blk_alloc ?_ _)); refine blk_far ?_ NB1061_1076.out _; (with_reducible repeat (first | refine blk_drewN ?_ _ | refine blk_drew ?_ | refine blk_alloc ?_ _)); refine blk_far ?_ NB1061_1076.out _; (with_reducible repeat (first | refine blk_drewN ?_ _ | refine blk_drew ?_ | refine blk_alloc ?_ _)); exact BK1061.out⟩
               have n2_ : Aside0 (((w72.setCell ⟨gb1076, 0, none⟩ (.int .i64 t1073)).setCell ⟨gb1076, 1, none⟩ (.int .i64 t1074)).heap[gb1076]? = some (.cells #[.int .i64 t1073, .int .i64 t1074] 25 (0, 0))) := ⟨by (with_reducible repeat (first | refine blk_drewN ?_ _ | refine blk_drew ?_ | refine blk_alloc ?_ _)); refine blk_put (cs := #[.int .i64 t1073, .int .i64 0]) ?_ 1 _ rfl; (with_reducible repeat (first | refine blk_drewN ?_ _ | refine blk_drew ?_ | refine blk_alloc ?_ _)); refine blk_put (cs := #[.int .i64 0, .int .i64 0]) ?_ 0 _ rfl; (with_reducible repeat (first | refine blk_drewN ?_ _ | refine blk_drew ?_ | refine blk_alloc ?_ _)); exact BK1076.out⟩; have n3_ : Aside0 (Below w.heap.size w ((w72.setCell ⟨gb1076, 0, none⟩ (.int .i64 t1073)).setCell ⟨gb1076, 1, none⟩ (.int .i64 t1074))) := ⟨hb2_ HB.out GE1061.out GE1076.out⟩; (try clear HO_1062002); (try clear BK1061); (try clear BK1076); (try clear HB); generalize ((w72.setCell ⟨gb1076, 0, none⟩ (.int .i64 t1073)).setCell ⟨gb1076, 1, none⟩ (.int .i64 t1074)) = w75 at n0_ n1_ n2_ n3_ ⊢
               have HO_1062002 := n0_; have BK1061 := n1_; have BK1076 := n2_; have HB := n3_; clear n0_ n1_ n2_ n3_; have n0_ := am_ (Kd.R_drew HO_1062002.out); have n1_ := am_ (blk_drew BK1061.out); have n2_ := am_ (blk_drew BK1076.out); have n3_ := am_ (below_drew1 HB.out); clear HO_1062002; clear BK1061; clear BK1076; clear HB; have HO_1062002 := n0_; have BK1061 := n1_; have BK1076 := n2_; have HB := n3_; clear n0_ n1_ n2_ n3_; refine start_ (n := 27) (S := fun w' => True) (ds := []) #[false, false, false, false, false, false, false, false, false, false, false, false, false, false, false, false, false, false, false, false, false, false, false, false, false, false, false] (by kernel_rfl) rfl rfl trivial (fun hHeld => ?_); refine with_tabW laws_FnNextOwn.tab19 laws_FnNextOwn.bits19 (fun HT_ HW_ => ?_)
               generalize w75.drew = w76 at HO_1062002 BK1061 BK1076 HB hHeld ⊢
               refine pure_ (i := 0) (N := some 119) (v := ?_) (a' := ?_) #[true, false, false, false, false, false, false, false, false, false, false, false, false, false, false, false, false, false, false, false, false, false, false, false, false, false, false] rfl rfl (any_of HT_.out (by kernel_rfl)) (fun _ _ _ h => h) (Or.inl ⟨by rfl, ?_⟩) ?_ ?_
               rotate_left
               ·intro w'; go_simp
                with_reducible rfl
               rotate_left
               ·simp only [Act.put, List.setIfInBounds_toArray, List.set_cons_zero, List.set_cons_succ, i64_w, i32_w]
                rfl
               refine pure_ (i := 1) (N := some 120) (v := ?_) (a' := ?_) #[true, true, false, false, false, false, false, false, false, false, false, false, false, false, false, false, false, false, false, false, false, false, false, false, false, false, false] rfl rfl (any_of HT_.out (by kernel_rfl)) (fun _ _ _ h => h) (Or.inl ⟨by rfl, ?_⟩) ?_ ?_
               rotate_left
               ·intro w'; go_simp
                with_reducible rfl
               rotate_left
               ·simp only [Act.put, List.setIfInBounds_toArray, List.set_cons_zero, List.set_cons_succ, i64_w, i32_w]
                rfl
               refine pure_ (i := 2) (N := some 121) (v := undef) (a' := ?_) #[true, true, true, false, false, false, false, false, false, false, false, false, false, false, false, false, false, false, false, false, false, false, false, false, false, false, false] rfl rfl (any_of HT_.out (by kernel_rfl)) (fun _ _ _ h => h) (Or.inr ⟨by rfl, rfl⟩) ?_ ?_
               rotate_left
               ·simp only [Act.put, List.setIfInBounds_toArray, List.set_cons_zero, List.set_cons_succ, i64_w, i32_w]
                rfl
               refine pure_ (i := 3) (N := some 122) (v := undef) (a' := ?_) #[true, true, true, true, false, false, false, false, false, false, false, false, false, false, false, false, false, false, false, false, false, false, false, false, false, false, false] rfl rfl (any_of HT_.out (by kernel_rfl)) (fun _ _ _ h => h) (Or.inr ⟨by rfl, rfl⟩) ?_ ?_
               rotate_left
               ·simp only [Act.put, List.setIfInBounds_toArray, List.set_cons_zero, List.set_cons_succ, i64_w, i32_w]
                rfl
               refine pure_ (i := 4) (N := some 123) (v := undef) (a' := ?_) #[true, true, true, true, true, false, false, false, false, false, false, false, false, false, false, false, false, false, false, false, false, false, false, false, false, false, false] rfl rfl (any_of HT_.out (by kernel_rfl)) (fun _ _ _ h => h) (Or.inr ⟨by rfl, rfl⟩) ?_ ?_
               rotate_left
               ·simp only [Act.put, List.setIfInBounds_toArray, List.set_cons_zero, List.set_cons_succ, i64_w, i32_w]
                rfl
               refine pure_ (i := 5) (N := some 124) (v := undef) (a' := ?_) #[true, true, true, true, true, true, false, false, false, false, false, false, false, false, false, false, false, false, false, false, false, false, false, false, false, false, false] rfl rfl (any_of HT_.out (by kernel_rfl)) (fun _ _ _ h => h) (Or.inr ⟨by rfl, rfl⟩) ?_ ?_
               rotate_left
               ·simp only [Act.put, List.setIfInBounds_toArray, List.set_cons_zero, List.set_cons_succ, i64_w, i32_w]
                rfl
               refine pure_ (i := 6) (N := some 125) (v := undef) (a' := ?_) #[true, true, true, true, true, true, true, false, false, false, false, false, false, false, false, false, false, false, false, false, false, false, false, false, false, false, false] rfl rfl (any_of HT_.out (by kernel_rfl)) (fun _ _ _ h => h) (Or.inr ⟨by rfl, rfl⟩) ?_ ?_
               rotate_left
               ·simp only [Act.put, List.setIfInBounds_toArray, List.set_cons_zero, List.set_cons_succ, i64_w, i32_w]
                rfl
               refine pure_ (i := 7) (N := some 126) (v := undef) (a' := ?_) #[true, true, true, true, true, true, true, true, false, false, false, false, false, false, false, false, false, false, false, false, false, false, false, false, false, false, false] rfl rfl (any_of HT_.out (by kernel_rfl)) (fun _ _ _ h => h) (Or.inr ⟨by rfl, rfl⟩) ?_ ?_
               rotate_left
               ·simp only [Act.put, List.setIfInBounds_toArray, List.set_cons_zero, List.set_cons_succ, i64_w, i32_w]
                rfl
               refine pure_ (i := 8) (N := some 127) (v := undef) (a' := ?_) #[true, true, true, true, true, true, true, true, true, false, false, false, false, false, false, false, false, false, false, false, false, false, false, false, false, false, false] rfl rfl (any_of HT_.out (by kernel_rfl)) (fun _ _ _ h => h) (Or.inr ⟨by rfl, rfl⟩) ?_ ?_
               rotate_left
               ·simp only [Act.put, List.setIfInBounds_toArray, List.set_cons_zero, List.set_cons_succ, i64_w, i32_w]
                rfl
               refine pure_ (i := 9) (N := some 128) (v := undef) (a' := ?_) #[true, true, true, true, true, true, true, true, true, true, false, false, false, false, false, false, false, false, false, false, false, false, false, false, false, false, false] rfl rfl (any_of HT_.out (by kernel_rfl)) (fun _ _ _ h => h) (Or.inr ⟨by rfl, rfl⟩) ?_ ?_
               rotate_left
               ·simp only [Act.put, List.setIfInBounds_toArray, List.set_cons_zero, List.set_cons_succ, i64_w, i32_w]
                rfl
               refine pure_ (i := 10) (N := some 129) (v := undef) (a' := ?_) #[true, true, true, true, true, true, true, true, true, true, true, false, false, false, false, false, false, false, false, false, false, false, false, false, false, false, false] rfl rfl (any_of HT_.out (by kernel_rfl)) (fun _ _ _ h => h) (Or.inr ⟨by rfl, rfl⟩) ?_ ?_
               rotate_left
               ·simp only [Act.put, List.setIfInBounds_toArray, List.set_cons_zero, List.set_cons_succ, i64_w, i32_w]
                rfl
               refine pure_ (i := 11) (N := some 130) (v := undef) (a' := ?_) #[true, true, true, true, true, true, true, true, true, true, true, true, false, false, false, false, false, false, false, false, false, false, false, false, false, false, false] rfl rfl (any_of HT_.out (by kernel_rfl)) (fun _ _ _ h => h) (Or.inr ⟨by rfl, rfl⟩) ?_ ?_
               rotate_left
               ·simp only [Act.put, List.setIfInBounds_toArray, List.set_cons_zero, List.set_cons_succ, i64_w, i32_w]
                rfl
               refine pure_ (i := 12) (N := some 131) (v := undef) (a' := ?_) #[true, true, true, true, true, true, true, true, true, true, true, true, true, false, false, false, false, false, false, false, false, false, false, false, false, false, false] rfl rfl (any_of HT_.out (by kernel_rfl)) (fun _ _ _ h => h) (Or.inr ⟨by rfl, rfl⟩) ?_ ?_
               rotate_left
               ·simp only [Act.put, List.setIfInBounds_toArray, List.set_cons_zero, List.set_cons_succ, i64_w, i32_w]
                rfl
               refine pure_ (i := 13) (N := some 132) (v := undef) (a' := ?_) #[true, true, true, true, true, true, true, true, true, true, true, true, true, true, false, false, false, false, false, false, false, false, false, false, false, false, false] rfl rfl (any_of HT_.out (by kernel_rfl)) (fun _ _ _ h => h) (Or.inr ⟨by rfl, rfl⟩) ?_ ?_
               rotate_left
               ·simp only [Act.put, List.setIfInBounds_toArray, List.set_cons_zero, List.set_cons_succ, i64_w, i32_w]
                rfl
               refine pure_ (i := 14) (N := some 133) (v := ?_) (a' := ?_) #[true, true, true, true, true, true, true, true, true, true, true, true, true, true, true, false, false, false, false, false, false, false, false, false, false, false, false] rfl rfl (any_of HT_.out (by kernel_rfl)) (fun _ _ _ h => h) (Or.inl ⟨by rfl, ?_⟩) ?_ ?_
               rotate_left
               ·intro w'; go_simp
                with_reducible rfl
               rotate_left
               ·simp only [Act.put, List.setIfInBounds_toArray, List.set_cons_zero, List.set_cons_succ, i64_w, i32_w]
                rfl
               refine pure_ (i := 15) (N := some 134) (v := ?_) (a' := ?_) #[true, true, true, true, true, true, true, true, true, true, true, true, true, true, true, true, false, false, false, false, false, false, false, false, false, false, false] rfl rfl (any_of HT_.out (by kernel_rfl)) (fun _ _ _ h => h) (Or.inl ⟨by rfl, ?_⟩) ?_ ?_
               rotate_left
               ·intro w'; go_simp
                with_reducible rfl
               rotate_left
               ·simp only [Act.put, List.setIfInBounds_toArray, List.set_cons_zero, List.set_cons_succ, i64_w, i32_w]
                rfl
               refine pure_ (i := 16) (N := some 135) (v := undef) (a' := ?_) #[true, true, true, true, true, true, true, true, true, true, true, true, true, true, true, true, true, false, false, false, false, false, false, false, false, false, false] rfl rfl (any_of HT_.out (by kernel_rfl)) (fun _ _ _ h => h) (Or.inr ⟨by rfl, rfl⟩) ?_ ?_
               rotate_left
               ·simp only [Act.put, List.setIfInBounds_toArray, List.set_cons_zero, List.set_cons_succ, i64_w, i32_w]
                rfl
               refine pure_ (i := 17) (N := some 136) (v := undef) (a' := ?_) #[true, true, true, true, true, true, true, true, true, true, true, true, true, true, true, true, true, true, false, false, false, false, false, false, false, false, false] rfl rfl (any_of HT_.out (by kernel_rfl)) (fun _ _ _ h => h) (Or.inr ⟨by rfl, rfl⟩) ?_ ?_
               rotate_left
               ·simp only [Act.put, List.setIfInBounds_toArray, List.set_cons_zero, List.set_cons_succ, i64_w, i32_w]
                rfl
               refine pure_ (i := 18) (N := some 137) (v := undef) (a' := ?_) #[true, true, true, true, true, true, true, true, true, true, true, true, true, true, true, true, true, true, true, false, false, false, false, false, false, false, false] rfl rfl (any_of HT_.out (by kernel_rfl)) (fun _ _ _ h => h) (Or.inr ⟨by rfl, rfl⟩) ?_ ?_
               rotate_left
               ·simp only [Act.put, List.setIfInBounds_toArray, List.set_cons_zero, List.set_cons_succ, i64_w, i32_w]
                rfl
               refine pure_ (i := 19) (N := some 138) (v := undef) (a' := ?_) #[true, true, true, true, true, true, true, true, true, true, true, true, true, true, true, true, true, true, true, true, false, false, false, false, false, false, false] rfl rfl (any_of HT_.out (by kernel_rfl)) (fun _ _ _ h => h) (Or.inr ⟨by rfl, rfl⟩) ?_ ?_
               rotate_left
               ·simp only [Act.put, List.setIfInBounds_toArray, List.set_cons_zero, List.set_cons_succ, i64_w, i32_w]
                rfl
               refine pure_ (i := 20) (N := some 139) (v := ?_) (a' := ?_) #[true, true, true, true, true, true, true, true, true, true, true, true, true, true, true, true, true, true, true, true, true, false, false, false, false, false, false] rfl rfl (any_of HT_.out (by kernel_rfl)) (fun _ _ _ h => h) (Or.inl ⟨by rfl, ?_⟩) ?_ ?_
               rotate_left
               ·intro w'; go_simp
                with_reducible rfl
               rotate_left
               ·simp only [Act.put, List.setIfInBounds_toArray, List.set_cons_zero, List.set_cons_succ, i64_w, i32_w]
                rfl
               refine pure_ (i := 21) (N := some 140) (v := ?_) (a' := ?_) #[true, true, true, true, true, true, true, true, true, true, true, true, true, true, true, true, true, true, true, true, true, true, false, false, false, false, false] rfl rfl (any_of HT_.out (by kernel_rfl)) (fun _ _ _ h => h) (Or.inl ⟨by rfl, ?_⟩) ?_ ?_
               rotate_left
               ·intro w'; go_simp
                with_reducible rfl
               rotate_left
               ·simp only [Act.put, List.setIfInBounds_toArray, List.set_cons_zero, List.set_cons_succ, i64_w, i32_w]
                rfl
               refine pure_ (i := 22) (N := some 141) (v := undef) (a' := ?_) #[true, true, true, true, true, true, true, true, true, true, true, true, true, true, true, true, true, true, true, true, true, true, true, false, false, false, false] rfl rfl (any_of HT_.out (by kernel_rfl)) (fun _ _ _ h => h) (Or.inr ⟨by rfl, rfl⟩) ?_ ?_
               rotate_left
               ·simp only [Act.put, List.setIfInBounds_toArray, List.set_cons_zero, List.set_cons_succ, i64_w, i32_w]
                rfl
               refine pure_ (i := 23) (N := some 142) (v := undef) (a' := ?_) #[true, true, true, true, true, true, true, true, true, true, true, true, true, true, true, true, true, true, true, true, true, true, true, true, false, false, false] rfl rfl (any_of HT_.out (by kernel_rfl)) (fun _ _ _ h => h) (Or.inr ⟨by rfl, rfl⟩) ?_ ?_
               rotate_left
               ·simp only [Act.put, List.setIfInBounds_toArray, List.set_cons_zero, List.set_cons_succ, i64_w, i32_w]
                rfl
               refine pure_ (i := 24) (N := some 143) (v := undef) (a' := ?_) #[true, true, true, true, true, true, true, true, true, true, true, true, true, true, true, true, true, true, true, true, true, true, true, true, true, false, false] rfl rfl (any_of HT_.out (by kernel_rfl)) (fun _ _ _ h => h) (Or.inr ⟨by rfl, rfl⟩) ?_ ?_
               rotate_left
               ·simp only [Act.put, List.setIfInBounds_toArray, List.set_cons_zero, List.set_cons_succ, i64_w, i32_w]
                rfl
               refine pure_ (i := 25) (N := some 144) (v := undef) (a' := ?_) #[true, true, true, true, true, true, true, true, true, true, true, true, true, true, true, true, true, true, true, true, true, true, true, true, true, true, false] rfl rfl (any_of HT_.out (by kernel_rfl)) (fun _ _ _ h => h) (Or.inr ⟨by rfl, rfl⟩) ?_ ?_
               rotate_left
               ·simp only [Act.put, List.setIfInBounds_toArray, List.set_cons_zero, List.set_cons_succ, i64_w, i32_w]
                rfl
               refine pure_ (i := 26) (N := some 145) (v := ?_) (a' := ?_) #[true, true, true, true, true, true, true, true, true, true, true, true, true, true, true, true, true, true, true, true, true, true, true, true, true, true, true] rfl rfl (any_of HT_.out (by kernel_rfl)) (fun _ _ _ h => h) (Or.inl ⟨by rfl, ?_⟩) ?_ ?_
               rotate_left
               ·intro w'; go_simp
                with_reducible rfl
               rotate_left
               ·simp only [Act.put, List.setIfInBounds_toArray, List.set_cons_zero, List.set_cons_succ, i64_w, i32_w]
                rfl
               refine done_ (done_of HT_.out (by kernel_rfl)) ?_
               try go_wp2
               go_roundg k3
               case measure => have := HJ8.out; have := HJ25.out; have := HK3.out; omega
               case rel => exact ⟨(wrap64 (x15_3 + 1)), (by first | rfl | (simp; done) | (simp [*]; done)), H', ⟨by have := HJ8.out; have := HJ25.out; have := HK3.out; omega⟩, ⟨by (with_reducible repeat (first | apply Kd.R_alloc | apply Kd.R_drewN | apply Kd.R_drew)); exact HO_1062002.out⟩, ⟨bk_ BK1061.out⟩, ⟨hb2_ HB.out GE1061.out GE1076.out⟩⟩
            ·rw [if_neg c31] at H; have c31b0 : decide (x15_3 < (wrap64 (2 * (t1056.length : Int)))) = false := decide_eq_false c31; clear c31; obtain ⟨t1078, A77, H⟩ := ab_ H; obtain ⟨⟨t1079, t1080, t1081, t1084⟩, A78, H⟩ := ab_ H; (try dsimp only at H); obtain ⟨⟨t1086, t1087, t1088⟩, A79, H⟩ := ab_ H; (try dsimp only at H); by_cases c80 : t1084 = true
             ·subst c80; replace H := i1_ H; by_cases c81 : t1088 = true
              ·subst c81; replace H := i1_ H; by_cases c82 : t1086 = t1062
               ·rw [if_pos c82] at H; have c82b0 : (t1086 == t1062) = true := beq_iff_eq.mpr c82; have c82b1 : (t1086 != t1062) = false := bne_eq_false_iff_eq.mpr c82; clear c82; obtain rfl := Option.some.inj H; have hcz83_0 := bc_ BK1061.out 0 (.int .i64 t1054) rfl; have hcz83_1 := bc_ BK1061.out 1 (.int .i64 t1055) rfl; have hcz83_2 := bc_ BK1061.out 2 (.slice Ao13 t1056.length co13) rfl; have hfz83_0 := blk_frozen BK1061.out 0; have hfz83_1 := blk_frozen BK1061.out 1; have hfz83_2 := blk_frozen BK1061.out 2
                go_wp2_with (first | ((with_reducible refine gate_callee (f := 15) rfl ?_); refine gl_ Try.func15 #[.slice A0 l0.length c0, .int .i64 1] ?_; (with_reducible refine (laws_at.calls _ _ l0 1 t1078 _ ?side1 ?side2 A77.out).mono ?_); (case side1 => exact kc_ (Kd.C_below HR0.out HB.out)); (case side2 => exact HC0.out); rintro e w' ⟨rfl, ⟨nd, rfl⟩⟩; refine ⟨_, rfl, ?_⟩; (try (rw [drewN_self wr]; generalize hq_ : World.drewN wr _ = wr; have n0_ : Aside0 (Kd.R k42 42 wr w.heap.size (fun _ => True) (.slice Ao13 t1056.length co13) t1056) := ⟨by rw [← hq_]; exact (by (with_reducible repeat (first | apply Kd.R_alloc | apply Kd.R_drewN | apply Kd.R_drew)); exact HO_1062002.out)⟩; have n1_ : Aside0 (wr.heap[gb1061]? = some (.cells #[.int .i64 t1054, .int .i64 t1055, .slice Ao13 t1056.length co13] 30 (0, 0))) := ⟨by rw [← hq_]; exact (bk_ BK1061.out)⟩; have n2_ : Aside0 (Below w.heap.size w wr) := ⟨by rw [← hq_]; exact (hb1_ HB.out GE1061.out)⟩; clear HO_1062002 BK1061 HB hq_; have HO_1062002 := n0_; have BK1061 := n1_; have HB := n2_; clear n0_ n1_ n2_; have hcq1_ : wr.cell? ⟨gb1061, 0, none⟩ = some (.int .i64 t1054) := (blk_cell BK1061.out 0).trans rfl; have hfq1_ := blk_frozen BK1061.out 0; have hcq2_ : wr.cell? ⟨gb1061, 1, none⟩ = some (.int .i64 t1055) := (blk_cell BK1061.out 1).trans rfl; have hfq2_ := blk_frozen BK1061.out 1; have hcq3_ : wr.cell? ⟨gb1061, 2, none⟩ = some (.slice Ao13 t1056.length co13) := (blk_cell BK1061.out 2).trans rfl; have hfq3_ := blk_frozen BK1061.out 2))) | ((with_reducible refine gate_callee (f := 35) rfl ?_); refine gl_ Try.func35 #[.agg #[.int .i64 t1054, .int .i64 t1055, .slice Ao13 t1056.length co13], .int .i64 t1078] ?_; (with_reducible refine (impl_PlanMoved.calls k3 t1054 t1055 _ _ t1056 t1078 t1079 t1080 t1081 true _ ?side1 ?side2 A78.out).mono ?_); (case side1 => repeat (first | exact (Kd.R_reads' HO_1062002.out).2.2 | (with_reducible refine Kd.C_alloc ?_ _) | (with_reducible refine Kd.C_drewN ?_ _) | (with_reducible refine Kd.C_drew ?_))); (case side2 => exact (Kd.R_reads' HO_1062002.out).2.1); rintro e w84 ⟨v1082, rfl, ho0, hb⟩; refine ⟨_, rfl, ?_⟩; have HO1083 := am_ (Kd.R_lower (Kd.R_new' ho0 (Kd.R_lt (by (with_reducible repeat (first | apply Kd.R_alloc | apply Kd.R_drewN | apply Kd.R_drew)); exact HO_1062002.out))) (below_size (hb1_ HB.out GE1061.out))); replace HO_1062002 := am_ (Kd.R_elder' (by (with_reducible repeat (first | apply Kd.R_alloc | apply Kd.R_drewN | apply Kd.R_drew)); exact HO_1062002.out) (Kd.R_base ho0) hb); replace BK1061 := am_ (bb_ BK1061.out hb); replace HB := am_ (below_step (hb1_ HB.out GE1061.out) hb); (try clear hb); (try clear hb2); (try clear hk); (try clear hi); (try clear ho0)) | ((with_reducible refine gate_dst (N := 19) rfl ?_); (try (refine gate_guard (by rfl) ?_; dsimp only)); refine be_ (N := 19) (cs := #[.int .i64 0, .int .i64 0, .slice none 0 0]) (t := 30) ?_; intro gb1085 hg w85 hbox hb; have BK1085 := am_ (hbox); have GW1085 := am_ (hy_ hg (hb1_ HB.out GE1061.out) : w.heap.size ≤ gb1085); have GE1085 := GW1085; have NB1061_1085 := am_ (bl_ hg BK1061.out : gb1061 ≠ gb1085); have NB1085_1061 := nb_ NB1061_1085; replace HO_1062002 := am_ (Kd.R_below (by (with_reducible repeat (first | apply Kd.R_alloc | apply Kd.R_drewN | apply Kd.R_drew)); exact HO_1062002.out) hb); replace HO1083 := am_ (Kd.R_below (by (with_reducible repeat (first | apply Kd.R_alloc | apply Kd.R_drewN | apply Kd.R_drew)); exact HO1083.out) hb); replace BK1061 := am_ (bb_ BK1061.out hb); replace HB := am_ (below_step (hb1_ HB.out GE1061.out) hb); clear hb hbox hg; have hnb86 := NB1085_1061.out; have hnc86 := NB1061_1085.out; obtain ⟨hcz87_0, hcz87_1, hcz87_2, hfz87_0, hfz87_1, hfz87_2⟩ := bc3_ BK1085.out; obtain ⟨Ao88, co88, eo88⟩ := Kd.R_slice HO1083.out; subst eo88) | ((with_reducible refine gate_callee (f := 32) rfl ?_); refine gl_ Try.func32 #[.agg #[.int .i64 t1079, .int .i64 t1080, .slice Ao88 t1081.length co88], .int .i64 t1059, .int .i64 (wrap64 (t1060 + t1078))] ?_; (with_reducible refine (impl_NextOwn.calls k3 t1079 t1080 _ _ t1081 t1059 (wrap64 (t1060 + t1078)) t1086 t1087 true _ ?side1 ?side2 A79.out).mono ?_); (case side1 => refine (Kd.R_reads' (e := 42) (base := w.heap.size) (ok := fun k_ => (True ∧ some k_ ≠ (.slice Ao13 t1056.length co13 : Value).ownBlock)) (n := t1081.length) (c := co88) ?_).2.2; exact (by (with_reducible repeat (first | apply Kd.R_alloc | apply Kd.R_drewN | apply Kd.R_drew)); exact (Kd.R_mono (Kd.R_far (p := ⟨gb1085, 2, none⟩) (Kd.R_far (p := ⟨gb1085, 1, none⟩) (Kd.R_far (p := ⟨gb1085, 0, none⟩) (Kd.R_types HO1083.out BK1085.out (by decide)) (fun _ hk => hk.2) (.int .i64 t1079)) (fun _ hk => hk.2) (.int .i64 t1080)) (fun _ hk => hk.2) (.slice Ao88 t1081.length co88)) (fun _ h_ => h_.1)))); (case side2 => exact (Kd.R_reads' HO1083.out).2.1); rintro e w89 ⟨rfl, hb⟩; refine ⟨_, rfl, ?_⟩; replace HO_1062002 := am_ (Kd.R_below (by (with_reducible repeat (first | apply Kd.R_alloc | apply Kd.R_drewN | apply Kd.R_drew)); exact (Kd.R_mono (Kd.R_far (p := ⟨gb1085, 2, none⟩) (Kd.R_far (p := ⟨gb1085, 1, none⟩) (Kd.R_far (p := ⟨gb1085, 0, none⟩) (Kd.R_types HO_1062002.out BK1085.out (by decide)) (fun _ hk => hk.2) (.int .i64 t1079)) (fun _ hk => hk.2) (.int .i64 t1080)) (fun _ hk => hk.2) (.slice Ao88 t1081.length co88)) (fun _ h_ => h_.1))) hb); replace HO1083 := am_ (Kd.R_below (by (with_reducible repeat (first | apply Kd.R_alloc | apply Kd.R_drewN | apply Kd.R_drew)); exact (Kd.R_mono (Kd.R_far (p := ⟨gb1085, 2, none⟩) (Kd.R_far (p := ⟨gb1085, 1, none⟩) (Kd.R_far (p := ⟨gb1085, 0, none⟩) (Kd.R_types HO1083.out BK1085.out (by decide)) (fun _ hk => hk.2) (.int .i64 t1079)) (fun _ hk => hk.2) (.int .i64 t1080)) (fun _ hk => hk.2) (.slice Ao88 t1081.length co88)) (fun _ h_ => h_.1))) hb); replace BK1061 := am_ (blk_below (g := gb1061) (o := .cells #[.int .i64 t1054, .int .i64 t1055, .slice Ao13 t1056.length co13] 30 (0, 0)) (by (with_reducible repeat (first | refine blk_drewN ?_ _ | refine blk_drew ?_ | refine blk_alloc ?_ _)); refine blk_far ?_ NB1061_1085.out _; (with_reducible repeat (first | refine blk_drewN ?_ _ | refine blk_drew ?_ | refine blk_alloc ?_ _)); refine blk_far ?_ NB1061_1085.out _; (with_reducible repeat (first | refine blk_drewN ?_ _ | refine blk_drew ?_ | refine blk_alloc ?_ _)); refine blk_far ?_ NB1061_1085.out _; (with_reducible repeat (first | refine blk_drewN ?_ _ | refine blk_drew ?_ | refine blk_alloc ?_ _)); exact BK1061.out) hb); replace BK1085 := am_ (blk_below (g := gb1085) (o := .cells #[.int .i64 t1079, .int .i64 t1080, .slice Ao88 t1081.length co88] 30 (0, 0)) (by (with_reducible repeat (first | refine blk_drewN ?_ _ | refine blk_drew ?_ | refine blk_alloc ?_ _)); refine blk_put (cs := #[.int .i64 t1079, .int .i64 t1080, .slice none 0 0]) ?_ 2 _ rfl; (with_reducible repeat (first | refine blk_drewN ?_ _ | refine blk_drew ?_ | refine blk_alloc ?_ _)); refine blk_put (cs := #[.int .i64 t1079, .int .i64 0, .slice none 0 0]) ?_ 1 _ rfl; (with_reducible repeat (first | refine blk_drewN ?_ _ | refine blk_drew ?_ | refine blk_alloc ?_ _)); refine blk_put (cs := #[.int .i64 0, .int .i64 0, .slice none 0 0]) ?_ 0 _ rfl; (with_reducible repeat (first | refine blk_drewN ?_ _ | refine blk_drew ?_ | refine blk_alloc ?_ _)); exact BK1085.out) hb); replace HB := am_ (below_step (hb2_ HB.out GE1061.out GE1085.out) hb); (try clear hb); (try clear hb2); (try clear hk); (try clear hi)))
                go_ret
                exact ⟨er_, hb2_ HB.out GE1061.out GE1085.out⟩
               ·rw [if_neg c82] at H; have c82b0 : (t1086 == t1062) = false := beq_eq_false_iff_ne.mpr c82; have c82b1 : (t1086 != t1062) = true := bne_iff_ne.mpr c82; obtain rfl := Option.some.inj H; exact absurd hr_ (by decide)
              ·replace c81 := Bool.eq_false_iff.mpr c81; subst c81; replace H := i0_ H; obtain rfl := Option.some.inj H; have hcz90_0 := bc_ BK1061.out 0 (.int .i64 t1054) rfl; have hcz90_1 := bc_ BK1061.out 1 (.int .i64 t1055) rfl; have hcz90_2 := bc_ BK1061.out 2 (.slice Ao13 t1056.length co13) rfl; have hfz90_0 := blk_frozen BK1061.out 0; have hfz90_1 := blk_frozen BK1061.out 1; have hfz90_2 := blk_frozen BK1061.out 2
               go_wp2_with (first | ((with_reducible refine gate_callee (f := 15) rfl ?_); refine gl_ Try.func15 #[.slice A0 l0.length c0, .int .i64 1] ?_; (with_reducible refine (laws_at.calls _ _ l0 1 t1078 _ ?side1 ?side2 A77.out).mono ?_); (case side1 => exact kc_ (Kd.C_below HR0.out HB.out)); (case side2 => exact HC0.out); rintro e w' ⟨rfl, ⟨nd, rfl⟩⟩; refine ⟨_, rfl, ?_⟩; (try (rw [drewN_self wr]; generalize hq_ : World.drewN wr _ = wr; have n0_ : Aside0 (Kd.R k42 42 wr w.heap.size (fun _ => True) (.slice Ao13 t1056.length co13) t1056) := ⟨by rw [← hq_]; exact (by (with_reducible repeat (first | apply Kd.R_alloc | apply Kd.R_drewN | apply Kd.R_drew)); exact HO_1062002.out)⟩; have n1_ : Aside0 (wr.heap[gb1061]? = some (.cells #[.int .i64 t1054, .int .i64 t1055, .slice Ao13 t1056.length co13] 30 (0, 0))) := ⟨by rw [← hq_]; exact (bk_ BK1061.out)⟩; have n2_ : Aside0 (Below w.heap.size w wr) := ⟨by rw [← hq_]; exact (hb1_ HB.out GE1061.out)⟩; clear HO_1062002 BK1061 HB hq_; have HO_1062002 := n0_; have BK1061 := n1_; have HB := n2_; clear n0_ n1_ n2_; have hcq4_ : wr.cell? ⟨gb1061, 0, none⟩ = some (.int .i64 t1054) := (blk_cell BK1061.out 0).trans rfl; have hfq4_ := blk_frozen BK1061.out 0; have hcq5_ : wr.cell? ⟨gb1061, 1, none⟩ = some (.int .i64 t1055) := (blk_cell BK1061.out 1).trans rfl; have hfq5_ := blk_frozen BK1061.out 1; have hcq6_ : wr.cell? ⟨gb1061, 2, none⟩ = some (.slice Ao13 t1056.length co13) := (blk_cell BK1061.out 2).trans rfl; have hfq6_ := blk_frozen BK1061.out 2))) | ((with_reducible refine gate_callee (f := 35) rfl ?_); refine gl_ Try.func35 #[.agg #[.int .i64 t1054, .int .i64 t1055, .slice Ao13 t1056.length co13], .int .i64 t1078] ?_; (with_reducible refine (impl_PlanMoved.calls k3 t1054 t1055 _ _ t1056 t1078 t1079 t1080 t1081 true _ ?side1 ?side2 A78.out).mono ?_); (case side1 => repeat (first | exact (Kd.R_reads' HO_1062002.out).2.2 | (with_reducible refine Kd.C_alloc ?_ _) | (with_reducible refine Kd.C_drewN ?_ _) | (with_reducible refine Kd.C_drew ?_))); (case side2 => exact (Kd.R_reads' HO_1062002.out).2.1); rintro e w91 ⟨v1082, rfl, ho0, hb⟩; refine ⟨_, rfl, ?_⟩; have HO1083 := am_ (Kd.R_lower (Kd.R_new' ho0 (Kd.R_lt (by (with_reducible repeat (first | apply Kd.R_alloc | apply Kd.R_drewN | apply Kd.R_drew)); exact HO_1062002.out))) (below_size (hb1_ HB.out GE1061.out))); replace HO_1062002 := am_ (Kd.R_elder' (by (with_reducible repeat (first | apply Kd.R_alloc | apply Kd.R_drewN | apply Kd.R_drew)); exact HO_1062002.out) (Kd.R_base ho0) hb); replace BK1061 := am_ (bb_ BK1061.out hb); replace HB := am_ (below_step (hb1_ HB.out GE1061.out) hb); (try clear hb); (try clear hb2); (try clear hk); (try clear hi); (try clear ho0)) | ((with_reducible refine gate_dst (N := 19) rfl ?_); (try (refine gate_guard (by rfl) ?_; dsimp only)); refine be_ (N := 19) (cs := #[.int .i64 0, .int .i64 0, .slice none 0 0]) (t := 30) ?_; intro gb1085 hg w92 hbox hb; have BK1085 := am_ (hbox); have GW1085 := am_ (hy_ hg (hb1_ HB.out GE1061.out) : w.heap.size ≤ gb1085); have GE1085 := GW1085; have NB1061_1085 := am_ (bl_ hg BK1061.out : gb1061 ≠ gb1085); have NB1085_1061 := nb_ NB1061_1085; replace HO_1062002 := am_ (Kd.R_below (by (with_reducible repeat (first | apply Kd.R_alloc | apply Kd.R_drewN | apply Kd.R_drew)); exact HO_1062002.out) hb); replace HO1083 := am_ (Kd.R_below (by (with_reducible repeat (first | apply Kd.R_alloc | apply Kd.R_drewN | apply Kd.R_drew)); exact HO1083.out) hb); replace BK1061 := am_ (bb_ BK1061.out hb); replace HB := am_ (below_step (hb1_ HB.out GE1061.out) hb); clear hb hbox hg; have hnb93 := NB1085_1061.out; have hnc93 := NB1061_1085.out; obtain ⟨hcz94_0, hcz94_1, hcz94_2, hfz94_0, hfz94_1, hfz94_2⟩ := bc3_ BK1085.out; obtain ⟨Ao95, co95, eo95⟩ := Kd.R_slice HO1083.out; subst eo95) | ((with_reducible refine gate_callee (f := 32) rfl ?_); refine gl_ Try.func32 #[.agg #[.int .i64 t1079, .int .i64 t1080, .slice Ao95 t1081.length co95], .int .i64 t1059, .int .i64 (wrap64 (t1060 + t1078))] ?_; (with_reducible refine (impl_NextOwn.calls k3 t1079 t1080 _ _ t1081 t1059 (wrap64 (t1060 + t1078)) t1086 t1087 false _ ?side1 ?side2 A79.out).mono ?_); (case side1 => refine (Kd.R_reads' (e := 42) (base := w.heap.size) (ok := fun k_ => (True ∧ some k_ ≠ (.slice Ao13 t1056.length co13 : Value).ownBlock)) (n := t1081.length) (c := co95) ?_).2.2; exact (by (with_reducible repeat (first | apply Kd.R_alloc | apply Kd.R_drewN | apply Kd.R_drew)); exact (Kd.R_mono (Kd.R_far (p := ⟨gb1085, 2, none⟩) (Kd.R_far (p := ⟨gb1085, 1, none⟩) (Kd.R_far (p := ⟨gb1085, 0, none⟩) (Kd.R_types HO1083.out BK1085.out (by decide)) (fun _ hk => hk.2) (.int .i64 t1079)) (fun _ hk => hk.2) (.int .i64 t1080)) (fun _ hk => hk.2) (.slice Ao95 t1081.length co95)) (fun _ h_ => h_.1)))); (case side2 => exact (Kd.R_reads' HO1083.out).2.1); rintro e w96 ⟨rfl, hb⟩; refine ⟨_, rfl, ?_⟩; replace HO_1062002 := am_ (Kd.R_below (by (with_reducible repeat (first | apply Kd.R_alloc | apply Kd.R_drewN | apply Kd.R_drew)); exact (Kd.R_mono (Kd.R_far (p := ⟨gb1085, 2, none⟩) (Kd.R_far (p := ⟨gb1085, 1, none⟩) (Kd.R_far (p := ⟨gb1085, 0, none⟩) (Kd.R_types HO_1062002.out BK1085.out (by decide)) (fun _ hk => hk.2) (.int .i64 t1079)) (fun _ hk => hk.2) (.int .i64 t1080)) (fun _ hk => hk.2) (.slice Ao95 t1081.length co95)) (fun _ h_ => h_.1))) hb); replace HO1083 := am_ (Kd.R_below (by (with_reducible repeat (first | apply Kd.R_alloc | apply Kd.R_drewN | apply Kd.R_drew)); exact (Kd.R_mono (Kd.R_far (p := ⟨gb1085, 2, none⟩) (Kd.R_far (p := ⟨gb1085, 1, none⟩) (Kd.R_far (p := ⟨gb1085, 0, none⟩) (Kd.R_types HO1083.out BK1085.out (by decide)) (fun _ hk => hk.2) (.int .i64 t1079)) (fun _ hk => hk.2) (.int .i64 t1080)) (fun _ hk => hk.2) (.slice Ao95 t1081.length co95)) (fun _ h_ => h_.1))) hb); replace BK1061 := am_ (blk_below (g := gb1061) (o := .cells #[.int .i64 t1054, .int .i64 t1055, .slice Ao13 t1056.length co13] 30 (0, 0)) (by (with_reducible repeat (first | refine blk_drewN ?_ _ | refine blk_drew ?_ | refine blk_alloc ?_ _)); refine blk_far ?_ NB1061_1085.out _; (with_reducible repeat (first | refine blk_drewN ?_ _ | refine blk_drew ?_ | refine blk_alloc ?_ _)); refine blk_far ?_ NB1061_1085.out _; (with_reducible repeat (first | refine blk_drewN ?_ _ | refine blk_drew ?_ | refine blk_alloc ?_ _)); refine blk_far ?_ NB1061_1085.out _; (with_reducible repeat (first | refine blk_drewN ?_ _ | refine blk_drew ?_ | refine blk_alloc ?_ _)); exact BK1061.out) hb); replace BK1085 := am_ (blk_below (g := gb1085) (o := .cells #[.int .i64 t1079, .int .i64 t1080, .slice Ao95 t1081.length co95] 30 (0, 0)) (by (with_reducible repeat (first | refine blk_drewN ?_ _ | refine blk_drew ?_ | refine blk_alloc ?_ _)); refine blk_put (cs := #[.int .i64 t1079, .int .i64 t1080, .slice none 0 0]) ?_ 2 _ rfl; (with_reducible repeat (first | refine blk_drewN ?_ _ | refine blk_drew ?_ | refine blk_alloc ?_ _)); refine blk_put (cs := #[.int .i64 t1079, .int .i64 0, .slice none 0 0]) ?_ 1 _ rfl; (with_reducible repeat (first | refine blk_drewN ?_ _ | refine blk_drew ?_ | refine blk_alloc ?_ _)); refine blk_put (cs := #[.int .i64 0, .int .i64 0, .slice none 0 0]) ?_ 0 _ rfl; (with_reducible repeat (first | refine blk_drewN ?_ _ | refine blk_drew ?_ | refine blk_alloc ?_ _)); exact BK1085.out) hb); replace HB := am_ (below_step (hb2_ HB.out GE1061.out GE1085.out) hb); (try clear hb); (try clear hb2); (try clear hk); (try clear hi)))
               go_ret
               exact ⟨er_, hb2_ HB.out GE1061.out GE1085.out⟩
             ·replace c80 := Bool.eq_false_iff.mpr c80; subst c80; replace H := i0_ H; obtain rfl := Option.some.inj H; have hcz97_0 := bc_ BK1061.out 0 (.int .i64 t1054) rfl; have hcz97_1 := bc_ BK1061.out 1 (.int .i64 t1055) rfl; have hcz97_2 := bc_ BK1061.out 2 (.slice Ao13 t1056.length co13) rfl; have hfz97_0 := blk_frozen BK1061.out 0; have hfz97_1 := blk_frozen BK1061.out 1; have hfz97_2 := blk_frozen BK1061.out 2
              go_wp2_with (first | ((with_reducible refine gate_callee (f := 15) rfl ?_); refine gl_ Try.func15 #[.slice A0 l0.length c0, .int .i64 1] ?_; (with_reducible refine (laws_at.calls _ _ l0 1 t1078 _ ?side1 ?side2 A77.out).mono ?_); (case side1 => exact kc_ (Kd.C_below HR0.out HB.out)); (case side2 => exact HC0.out); rintro e w' ⟨rfl, ⟨nd, rfl⟩⟩; refine ⟨_, rfl, ?_⟩; (try (rw [drewN_self wr]; generalize hq_ : World.drewN wr _ = wr; have n0_ : Aside0 (Kd.R k42 42 wr w.heap.size (fun _ => True) (.slice Ao13 t1056.length co13) t1056) := ⟨by rw [← hq_]; exact (by (with_reducible repeat (first | apply Kd.R_alloc | apply Kd.R_drewN | apply Kd.R_drew)); exact HO_1062002.out)⟩; have n1_ : Aside0 (wr.heap[gb1061]? = some (.cells #[.int .i64 t1054, .int .i64 t1055, .slice Ao13 t1056.length co13] 30 (0, 0))) := ⟨by rw [← hq_]; exact (bk_ BK1061.out)⟩; have n2_ : Aside0 (Below w.heap.size w wr) := ⟨by rw [← hq_]; exact (hb1_ HB.out GE1061.out)⟩; clear HO_1062002 BK1061 HB hq_; have HO_1062002 := n0_; have BK1061 := n1_; have HB := n2_; clear n0_ n1_ n2_; have hcq7_ : wr.cell? ⟨gb1061, 0, none⟩ = some (.int .i64 t1054) := (blk_cell BK1061.out 0).trans rfl; have hfq7_ := blk_frozen BK1061.out 0; have hcq8_ : wr.cell? ⟨gb1061, 1, none⟩ = some (.int .i64 t1055) := (blk_cell BK1061.out 1).trans rfl; have hfq8_ := blk_frozen BK1061.out 1; have hcq9_ : wr.cell? ⟨gb1061, 2, none⟩ = some (.slice Ao13 t1056.length co13) := (blk_cell BK1061.out 2).trans rfl; have hfq9_ := blk_frozen BK1061.out 2))) | ((with_reducible refine gate_callee (f := 35) rfl ?_); refine gl_ Try.func35 #[.agg #[.int .i64 t1054, .int .i64 t1055, .slice Ao13 t1056.length co13], .int .i64 t1078] ?_; (with_reducible refine (impl_PlanMoved.calls k3 t1054 t1055 _ _ t1056 t1078 t1079 t1080 t1081 false _ ?side1 ?side2 A78.out).mono ?_); (case side1 => repeat (first | exact (Kd.R_reads' HO_1062002.out).2.2 | (with_reducible refine Kd.C_alloc ?_ _) | (with_reducible refine Kd.C_drewN ?_ _) | (with_reducible refine Kd.C_drew ?_))); (case side2 => exact (Kd.R_reads' HO_1062002.out).2.1); rintro e w98 ⟨v1082, rfl, ho0, hb⟩; refine ⟨_, rfl, ?_⟩; have HO1083 := am_ (Kd.R_lower (Kd.R_new' ho0 (Kd.R_lt (by (with_reducible repeat (first | apply Kd.R_alloc | apply Kd.R_drewN | apply Kd.R_drew)); exact HO_1062002.out))) (below_size (hb1_ HB.out GE1061.out))); replace HO_1062002 := am_ (Kd.R_elder' (by (with_reducible repeat (first | apply Kd.R_alloc | apply Kd.R_drewN | apply Kd.R_drew)); exact HO_1062002.out) (Kd.R_base ho0) hb); replace BK1061 := am_ (bb_ BK1061.out hb); replace HB := am_ (below_step (hb1_ HB.out GE1061.out) hb); (try clear hb); (try clear hb2); (try clear hk); (try clear hi); (try clear ho0)) | ((with_reducible refine gate_dst (N := 19) rfl ?_); (try (refine gate_guard (by rfl) ?_; dsimp only)); refine be_ (N := 19) (cs := #[.int .i64 0, .int .i64 0, .slice none 0 0]) (t := 30) ?_; intro gb1085 hg w99 hbox hb; have BK1085 := am_ (hbox); have GW1085 := am_ (hy_ hg (hb1_ HB.out GE1061.out) : w.heap.size ≤ gb1085); have GE1085 := GW1085; have NB1061_1085 := am_ (bl_ hg BK1061.out : gb1061 ≠ gb1085); have NB1085_1061 := nb_ NB1061_1085; replace HO_1062002 := am_ (Kd.R_below (by (with_reducible repeat (first | apply Kd.R_alloc | apply Kd.R_drewN | apply Kd.R_drew)); exact HO_1062002.out) hb); replace HO1083 := am_ (Kd.R_below (by (with_reducible repeat (first | apply Kd.R_alloc | apply Kd.R_drewN | apply Kd.R_drew)); exact HO1083.out) hb); replace BK1061 := am_ (bb_ BK1061.out hb); replace HB := am_ (below_step (hb1_ HB.out GE1061.out) hb); clear hb hbox hg; have hnb100 := NB1085_1061.out; have hnc100 := NB1061_1085.out; obtain ⟨hcz101_0, hcz101_1, hcz101_2, hfz101_0, hfz101_1, hfz101_2⟩ := bc3_ BK1085.out; obtain ⟨Ao102, co102, eo102⟩ := Kd.R_slice HO1083.out; subst eo102) | ((with_reducible refine gate_callee (f := 32) rfl ?_); refine gl_ Try.func32 #[.agg #[.int .i64 t1079, .int .i64 t1080, .slice Ao102 t1081.length co102], .int .i64 t1059, .int .i64 (wrap64 (t1060 + t1078))] ?_; (with_reducible refine (impl_NextOwn.calls k3 t1079 t1080 _ _ t1081 t1059 (wrap64 (t1060 + t1078)) t1086 t1087 t1088 _ ?side1 ?side2 A79.out).mono ?_); (case side1 => refine (Kd.R_reads' (e := 42) (base := w.heap.size) (ok := fun k_ => (True ∧ some k_ ≠ (.slice Ao13 t1056.length co13 : Value).ownBlock)) (n := t1081.length) (c := co102) ?_).2.2; exact (by (with_reducible repeat (first | apply Kd.R_alloc | apply Kd.R_drewN | apply Kd.R_drew)); exact (Kd.R_mono (Kd.R_far (p := ⟨gb1085, 2, none⟩) (Kd.R_far (p := ⟨gb1085, 1, none⟩) (Kd.R_far (p := ⟨gb1085, 0, none⟩) (Kd.R_types HO1083.out BK1085.out (by decide)) (fun _ hk => hk.2) (.int .i64 t1079)) (fun _ hk => hk.2) (.int .i64 t1080)) (fun _ hk => hk.2) (.slice Ao102 t1081.length co102)) (fun _ h_ => h_.1)))); (case side2 => exact (Kd.R_reads' HO1083.out).2.1); rintro e w103 ⟨rfl, hb⟩; refine ⟨_, rfl, ?_⟩; replace HO_1062002 := am_ (Kd.R_below (by (with_reducible repeat (first | apply Kd.R_alloc | apply Kd.R_drewN | apply Kd.R_drew)); exact (Kd.R_mono (Kd.R_far (p := ⟨gb1085, 2, none⟩) (Kd.R_far (p := ⟨gb1085, 1, none⟩) (Kd.R_far (p := ⟨gb1085, 0, none⟩) (Kd.R_types HO_1062002.out BK1085.out (by decide)) (fun _ hk => hk.2) (.int .i64 t1079)) (fun _ hk => hk.2) (.int .i64 t1080)) (fun _ hk => hk.2) (.slice Ao102 t1081.length co102)) (fun _ h_ => h_.1))) hb); replace HO1083 := am_ (Kd.R_below (by (with_reducible repeat (first | apply Kd.R_alloc | apply Kd.R_drewN | apply Kd.R_drew)); exact (Kd.R_mono (Kd.R_far (p := ⟨gb1085, 2, none⟩) (Kd.R_far (p := ⟨gb1085, 1, none⟩) (Kd.R_far (p := ⟨gb1085, 0, none⟩) (Kd.R_types HO1083.out BK1085.out (by decide)) (fun _ hk => hk.2) (.int .i64 t1079)) (fun _ hk => hk.2) (.int .i64 t1080)) (fun _ hk => hk.2) (.slice Ao102 t1081.length co102)) (fun _ h_ => h_.1))) hb); replace BK1061 := am_ (blk_below (g := gb1061) (o := .cells #[.int .i64 t1054, .int .i64 t1055, .slice Ao13 t1056.length co13] 30 (0, 0)) (by (with_reducible repeat (first | refine blk_drewN ?_ _ | refine blk_drew ?_ | refine blk_alloc ?_ _)); refine blk_far ?_ NB1061_1085.out _; (with_reducible repeat (first | refine blk_drewN ?_ _ | refine blk_drew ?_ | refine blk_alloc ?_ _)); refine blk_far ?_ NB1061_1085.out _; (with_reducible repeat (first | refine blk_drewN ?_ _ | refine blk_drew ?_ | refine blk_alloc ?_ _)); refine blk_far ?_ NB1061_1085.out _; (with_reducible repeat (first | refine blk_drewN ?_ _ | refine blk_drew ?_ | refine blk_alloc ?_ _)); exact BK1061.out) hb); replace BK1085 := am_ (blk_below (g := gb1085) (o := .cells #[.int .i64 t1079, .int .i64 t1080, .slice Ao102 t1081.length co102] 30 (0, 0)) (by (with_reducible repeat (first | refine blk_drewN ?_ _ | refine blk_drew ?_ | refine blk_alloc ?_ _)); refine blk_put (cs := #[.int .i64 t1079, .int .i64 t1080, .slice none 0 0]) ?_ 2 _ rfl; (with_reducible repeat (first | refine blk_drewN ?_ _ | refine blk_drew ?_ | refine blk_alloc ?_ _)); refine blk_put (cs := #[.int .i64 t1079, .int .i64 0, .slice none 0 0]) ?_ 1 _ rfl; (with_reducible repeat (first | refine blk_drewN ?_ _ | refine blk_drew ?_ | refine blk_alloc ?_ _)); refine blk_put (cs := #[.int .i64 0, .int .i64 0, .slice none 0 0]) ?_ 0 _ rfl; (with_reducible repeat (first | refine blk_drewN ?_ _ | refine blk_drew ?_ | refine blk_alloc ?_ _)); exact BK1085.out) hb); replace HB := am_ (below_step (hb2_ HB.out GE1061.out GE1085.out) hb); (try clear hb); (try clear hb2); (try clear hk); (try clear hi)))
              go_ret
              exact ⟨er_, hb2_ HB.out GE1061.out GE1085.out⟩
   ·replace c8 := Bool.eq_false_iff.mpr c8; subst c8; replace H := i0_ H; obtain ⟨t1068, A104, H⟩ := ab_ H; obtain rfl := Option.some.inj H; go_enter Try.func7, Try.ntmps7
    go_wp2_with (first | ((with_reducible refine gate_callee (f := 8) rfl ?_); refine gl_ Try.func8 #[.slice A0 l0.length c0] ?_; (with_reducible refine (laws_big.calls _ _ l0 false _ ?side1 ?side2 A2.out).mono ?_); (case side1 => repeat (first | exact HR0.out | (with_reducible refine Kd.C_alloc ?_ _) | (with_reducible refine Kd.C_drewN ?_ _) | (with_reducible refine Kd.C_drew ?_))); (case side2 => exact HC0.out); rintro e w' ⟨rfl, ⟨nd, rfl⟩⟩; refine ⟨_, rfl, ?_⟩) | ((with_reducible refine gate_callee (f := 31) rfl ?_); refine gl_ Try.func31 #[.slice A0 l0.length c0] ?_; (with_reducible refine (spec_DrawNextOwn.calls k _ _ l0 t1054 t1055 t1056 t1059 t1060 _ ?side1 ?side2 A4.out).mono ?_); (case side1 => repeat (first | exact HR0.out | (with_reducible refine Kd.C_alloc ?_ _) | (with_reducible refine Kd.C_drewN ?_ _) | (with_reducible refine Kd.C_drew ?_))); (case side2 => exact HC0.out); rintro e w105 ⟨v1057, rfl, ho0, hb⟩; refine ⟨_, rfl, ?_⟩; have HO1058 := am_ (Kd.R_lower ho0 (below_size (hb_ HB.out))); replace HB := am_ (below_step (hb_ HB.out) hb); (try clear hb); (try clear hb2); (try clear hk); (try clear hi); (try clear ho0)) | ((with_reducible refine gate_dst (N := 3) rfl ?_); (try (refine gate_guard (by rfl) ?_; dsimp only)); refine be_ (N := 3) (cs := #[.int .i64 0, .int .i64 0, .slice none 0 0]) (t := 30) ?_; intro gb1061 hg w106 hbox hb; have BK1061 := am_ (hbox); have GW1061 := am_ (hy_ hg (hb_ HB.out) : w.heap.size ≤ gb1061); have GE1061 := GW1061; replace HO1058 := am_ (Kd.R_below (by (with_reducible repeat (first | apply Kd.R_alloc | apply Kd.R_drewN | apply Kd.R_drew)); exact HO1058.out) hb); replace HB := am_ (below_step (hb_ HB.out) hb); clear hb hbox hg; obtain ⟨hcz107_0, hcz107_1, hcz107_2, hfz107_0, hfz107_1, hfz107_2⟩ := bc3_ BK1061.out; obtain ⟨Ao108, co108, eo108⟩ := Kd.R_slice HO1058.out; subst eo108) | ((with_reducible refine gate_callee (f := 32) rfl ?_); refine gl_ Try.func32 #[.agg #[.int .i64 t1054, .int .i64 t1055, .slice Ao108 t1056.length co108], .int .i64 t1059, .int .i64 t1060] ?_; (with_reducible refine (impl_NextOwn.calls k t1054 t1055 _ _ t1056 t1059 t1060 t1062 t1063 false _ ?side1 ?side2 A5.out).mono ?_); (case side1 => refine (Kd.R_reads' (e := 42) (base := w.heap.size) (ok := fun k_ => True) (n := t1056.length) (c := co108) ?_).2.2; exact (by (with_reducible repeat (first | apply Kd.R_alloc | apply Kd.R_drewN | apply Kd.R_drew)); exact (Kd.R_mono (Kd.R_far (p := ⟨gb1061, 2, none⟩) (Kd.R_far (p := ⟨gb1061, 1, none⟩) (Kd.R_far (p := ⟨gb1061, 0, none⟩) (Kd.R_types HO1058.out BK1061.out (by decide)) (fun _ hk => hk.2) (.int .i64 t1054)) (fun _ hk => hk.2) (.int .i64 t1055)) (fun _ hk => hk.2) (.slice Ao108 t1056.length co108)) (fun _ h_ => h_.1)))); (case side2 => exact (Kd.R_reads' HO1058.out).2.1); rintro e w109 ⟨rfl, hb⟩; refine ⟨_, rfl, ?_⟩; replace HO1058 := am_ (Kd.R_below (by (with_reducible repeat (first | apply Kd.R_alloc | apply Kd.R_drewN | apply Kd.R_drew)); exact (Kd.R_mono (Kd.R_far (p := ⟨gb1061, 2, none⟩) (Kd.R_far (p := ⟨gb1061, 1, none⟩) (Kd.R_far (p := ⟨gb1061, 0, none⟩) (Kd.R_types HO1058.out BK1061.out (by decide)) (fun _ hk => hk.2) (.int .i64 t1054)) (fun _ hk => hk.2) (.int .i64 t1055)) (fun _ hk => hk.2) (.slice Ao108 t1056.length co108)) (fun _ h_ => h_.1))) hb); replace BK1061 := am_ (blk_below (g := gb1061) (o := .cells #[.int .i64 t1054, .int .i64 t1055, .slice Ao108 t1056.length co108] 30 (0, 0)) (by (with_reducible repeat (first | refine blk_drewN ?_ _ | refine blk_drew ?_ | refine blk_alloc ?_ _)); refine blk_put (cs := #[.int .i64 t1054, .int .i64 t1055, .slice none 0 0]) ?_ 2 _ rfl; (with_reducible repeat (first | refine blk_drewN ?_ _ | refine blk_drew ?_ | refine blk_alloc ?_ _)); refine blk_put (cs := #[.int .i64 t1054, .int .i64 0, .slice none 0 0]) ?_ 1 _ rfl; (with_reducible repeat (first | refine blk_drewN ?_ _ | refine blk_drew ?_ | refine blk_alloc ?_ _)); refine blk_put (cs := #[.int .i64 0, .int .i64 0, .slice none 0 0]) ?_ 0 _ rfl; (with_reducible repeat (first | refine blk_drewN ?_ _ | refine blk_drew ?_ | refine blk_alloc ?_ _)); exact BK1061.out) hb); replace HB := am_ (below_step (hb1_ HB.out GE1061.out) hb); (try clear hb); (try clear hb2); (try clear hk); (try clear hi); obtain ⟨hcz110_0, hcz110_1, hcz110_2, hfz110_0, hfz110_1, hfz110_2⟩ := bc3_ BK1061.out) | ((with_reducible refine gate_callee (f := 33) rfl ?_); refine gl_ Try.func33 #[.agg #[.int .i64 t1054, .int .i64 t1055, .slice Ao108 t1056.length co108], .int .i64 t1059, .int .i64 t1060] ?_; (with_reducible refine (spec_NextOwn.calls k t1054 t1055 _ _ t1056 t1059 t1060 t1065 t1066 t1067 _ ?side1 ?side2 A6.out).mono ?_); (case side1 => repeat (first | exact (Kd.R_reads' HO1058.out).2.2 | (with_reducible refine Kd.C_alloc ?_ _) | (with_reducible refine Kd.C_drewN ?_ _) | (with_reducible refine Kd.C_drew ?_))); (case side2 => exact (Kd.R_reads' HO1058.out).2.1); rintro e w111 ⟨rfl, hb⟩; refine ⟨_, rfl, ?_⟩; replace HO1058 := am_ (Kd.R_below (by (with_reducible repeat (first | apply Kd.R_alloc | apply Kd.R_drewN | apply Kd.R_drew)); exact HO1058.out) hb); replace BK1061 := am_ (bb_ BK1061.out hb); replace HB := am_ (below_step (hb1_ HB.out GE1061.out) hb); (try clear hb); (try clear hb2); (try clear hk); (try clear hi)) | ((with_reducible refine gate_callee (f := 34) rfl ?_); refine gl_ Try.func34 #[.agg #[.int .i64 0, .int .i64 0, .slice none 0 0]] ?_; (refine (impl_PlanOk.calls k 0 0 _ _ ([] : List (S42)) t1068 _ ?side1 ?side2 A104.out).mono ?_); (case side1 => exact Kd.C_nil _ _); (case side2 => exact Nat.le_refl _); rintro e w112 ⟨rfl, hb⟩; refine ⟨_, rfl, ?_⟩; replace HO1058 := am_ (Kd.R_below (by (with_reducible repeat (first | apply Kd.R_alloc | apply Kd.R_drewN | apply Kd.R_drew)); exact HO1058.out) hb); replace BK1061 := am_ (bb_ BK1061.out hb); replace HB := am_ (below_step (hb1_ HB.out GE1061.out) hb); (try clear hb); (try clear hb2); (try clear hk); (try clear hi)))
    go_ret
    exact ⟨er_, hb1_ HB.out GE1061.out⟩
end Go.Proofs.Ytllpmpfchidhoaa.P

