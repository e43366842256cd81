/- Texts of the seat's proofs, part 4: functions of the program told as plain functions, with their contracts, and what is shown of them. No condition. -/
import Derived.Test.YtcgdnfaclbnflaaUKFR
import Derived.Test.YtcgdnfaclbnflaaKFR1
import Derived.Test.YtcgdnfaclbnflaaKFR3
import Derived.Laws.Bits128
import Derived.Test.YtcgdnfaclbnflaaKFR2
set_option linter.unusedVariables false
set_option linter.unusedSimpArgs false
namespace Go.Proofs.Ytcgdnfaclbnflaa.P
open Go.RowKit Go.Proofs.YtcgdnfaclbnflaaW.PrintWords Go.Proofs.YtcgdnfaclbnflaaW.PrintLast Go.Proofs.YtcgdnfaclbnflaaW.PrintMore
attribute [local go_sem] max2_int min2_int max_two min_two max_three min_three max_four min_four
set_option linter.unusedVariables false
set_option linter.unusedSimpArgs false
mutual
def laws_FnReadings.l0 : Nat → List (S83) → List (S83) → Int → Option (Bool)
  | 0, _, _, _ => none
  | k + 1, x4, x5, x6 => if x6 < (x4.length : Int) then (laws_FnReadings.j1 k x4 x5 x6 (decide (x6 < 200))) else (laws_FnReadings.j1 k x4 x5 x6 false)
def laws_FnReadings.j1 : Nat → List (S83) → List (S83) → Int → Bool → Option (Bool)
  | 0, _, _, _, _ => none
  | k + 1, x4, x5, x6, x27 => if x27 = true then (if 0 ≤ x6 then (if x6 < (x4.length : Int) then (if ((rd_T83 x4 x6).f0 = true) then ((spec_IvalOk.f ((rd_T83 x4 x6).f1.f0) ((rd_T83 x4 x6).f1.f1)).bind fun t802 => (if t802 = true then (if x5.length < 5864062014805 then (laws_FnReadings.l0 k x4 (x5 ++ [(⟨(rd_T83 x4 x6).f0, (⟨(rd_T83 x4 x6).f1.f0, (rd_T83 x4 x6).f1.f1⟩ : S81)⟩ : S83)]) (wrap64 (x6 + 1))) else (none)) else (laws_FnReadings.l0 k x4 x5 (wrap64 (x6 + 1))))) else (if x5.length < 5864062014805 then (laws_FnReadings.l0 k x4 (x5 ++ [(⟨(rd_T83 x4 x6).f0, (⟨(rd_T83 x4 x6).f1.f0, (rd_T83 x4 x6).f1.f1⟩ : S81)⟩ : S83)]) (wrap64 (x6 + 1))) else (none))) else (none)) else (none)) else ((impl_AppRun.f k false 0 x5).bind fun bt811 => (if (bt811.1.length : Int) = (x5.length : Int) then ((impl_ReadsOk.f k x5 bt811.1).bind fun t817 => (if t817 = true then ((impl_AppOk.f bt811.2.1 bt811.2.2).bind fun t818 => (laws_FnReadings.j2 k bt811.1 (!t818) bt811.2.1 bt811.2.2)) else (laws_FnReadings.j2 k bt811.1 true bt811.2.1 bt811.2.2))) else (laws_FnReadings.j2 k bt811.1 true bt811.2.1 bt811.2.2)))
def laws_FnReadings.j2 : Nat → List (S88) → Bool → Bool → Int → Option (Bool)
  | 0, _, _, _, _ => none
  | k + 1, x7, x72, x817000, x817001 => if x72 = true then (some false) else (laws_FnReadings.l1 k x7 false 0 0 x817000 x817001)
def laws_FnReadings.l1 : Nat → List (S88) → Bool → Int → Int → Bool → Int → Option (Bool)
  | 0, _, _, _, _, _, _ => none
  | k + 1, x7, x9, x10, x11, x817000, x817001 => if x11 < (x7.length : Int) then (if 0 ≤ x11 then (if ((rd_T88 x7 x11).f2) = 0 then (if x9 = true then (if ((rd_T88 x7 x11).f0) < x10 then (some false) else (laws_FnReadings.l1 k x7 true ((rd_T88 x7 x11).f0) (wrap64 (x11 + 1)) x817000 x817001)) else (laws_FnReadings.l1 k x7 true ((rd_T88 x7 x11).f0) (wrap64 (x11 + 1)) x817000 x817001)) else (laws_FnReadings.l1 k x7 x9 x10 (wrap64 (x11 + 1)) x817000 x817001)) else (none)) else (if (x817000 == x9) = true then (if x9 = true then (some (x817001 == x10)) else (some true)) else (some false))
end
def laws_FnReadings.f (k : Nat) (l0 : List Int) : Option (Bool) := (laws_big.f l0).bind fun t790 => (if t790 = true then (some true) else ((spec_DrawAppRun.f k l0).bind fun bt791 => (laws_FnReadings.l0 k bt791.2.2 (([] : List (S83))) 0)))
set_option maxHeartbeats 8000000 in
set_option maxRecDepth 100000 in
theorem laws_FnReadings.calls (k : Nat) (A0 : Option Addr) (c0 : Nat) (l0 : List Int) (r : Bool) (w : World) (hr0 : Kd.C (Kd.int .u8) w A0 l0.length l0) (hc0 : l0.length ≤ c0) (hr_ : r = true) (h : laws_FnReadings.f k l0 = some r) :
    Calls Try.prog 8 #[.slice A0 l0.length c0] w fun e w' => e = .returned (.bool r) ∧ Below w.heap.size w w' := by
  have hu66 := Try.underlying66
  have hu81 := Try.underlying81
  have hu83 := Try.underlying83
  have HR0 := Aside0.mk hr0
  have HC0 := Aside0.mk hc0
  clear hr0 hc0
  have HB := Aside0.mk (Below.refl w.heap.size w)
  have H : ((laws_big.f l0).bind fun t790 => (if t790 = true then (some true) else ((spec_DrawAppRun.f k l0).bind fun bt791 => (laws_FnReadings.l0 k bt791.2.2 (([] : List (S83))) 0)))) = some r := h
  clear h
  replace H := Option.bind_eq_some_iff.mp H
  obtain ⟨t790, A20, H⟩ := H
  replace H : (if t790 = true then (some true) else ((spec_DrawAppRun.f k l0).bind fun bt791 => (laws_FnReadings.l0 k bt791.2.2 (([] : List (S83))) 0))) = some r := H
  have A2 := Aside0.mk A20
  clear A20
  by_cases c3 : t790 = true
  · subst c3
    have H1 : (some true) = some r := by rw [if_pos rfl] at H; exact H
    clear H
    have H := H1
    clear H1
    obtain rfl := Option.some.inj H
    go_enter Try.func8, Try.ntmps8
    go_wp2_with (first | (go_at_call 25; (with_reducible refine (laws_big.calls _ _ l0 true _ ?side1 ?side2 A2.out).mono ?_); (case side1 => repeat (first | exact HR0.out | (with_reducible refine Kd.C_alloc ?_ _) | (with_reducible refine Kd.C_drewN ?_ _) | (with_reducible refine Kd.C_drew ?_))); (case side2 => exact HC0.out); rintro e w' ⟨rfl, ⟨nd, rfl⟩⟩; (try first | exact ⟨rfl, _, World.drewN_drewN _ _ _⟩ | exact ⟨rfl, _, Eq.trans (World.drewN_drewN _ _ _) (congrArg (World.drewN _) (Nat.add_assoc _ _ _))⟩)))
    repeat (go_quiet (first | (go_at_call 25; (with_reducible refine (laws_big.calls _ _ l0 true _ ?side1 ?side2 A2.out).mono ?_); (case side1 => repeat (first | exact HR0.out | (with_reducible refine Kd.C_alloc ?_ _) | (with_reducible refine Kd.C_drewN ?_ _) | (with_reducible refine Kd.C_drew ?_))); (case side2 => exact HC0.out); rintro e w' ⟨rfl, ⟨nd, rfl⟩⟩; (try first | exact ⟨rfl, _, World.drewN_drewN _ _ _⟩ | exact ⟨rfl, _, Eq.trans (World.drewN_drewN _ _ _) (congrArg (World.drewN _) (Nat.add_assoc _ _ _))⟩))); try go_wp2_with (first | (go_at_call 25; (with_reducible refine (laws_big.calls _ _ l0 true _ ?side1 ?side2 A2.out).mono ?_); (case side1 => repeat (first | exact HR0.out | (with_reducible refine Kd.C_alloc ?_ _) | (with_reducible refine Kd.C_drewN ?_ _) | (with_reducible refine Kd.C_drew ?_))); (case side2 => exact HC0.out); rintro e w' ⟨rfl, ⟨nd, rfl⟩⟩; (try first | exact ⟨rfl, _, World.drewN_drewN _ _ _⟩ | exact ⟨rfl, _, Eq.trans (World.drewN_drewN _ _ _) (congrArg (World.drewN _) (Nat.add_assoc _ _ _))⟩))))
    go_ret
    exact ⟨er_, hb_ HB.out⟩
  · replace c3 := Bool.eq_false_iff.mpr c3
    subst c3
    have H1 : ((spec_DrawAppRun.f k l0).bind fun bt791 => (laws_FnReadings.l0 k bt791.2.2 (([] : List (S83))) 0)) = some r := by rw [if_neg (show ¬ (false = true) by decide)] at H; exact H
    clear H
    have H := H1
    clear H1
    replace H := Option.bind_eq_some_iff.mp H
    obtain ⟨⟨t791, t792, t793⟩, A40, H⟩ := H
    replace H : (laws_FnReadings.l0 k t793 (([] : List (S83))) 0) = some r := H
    have A4 := Aside0.mk A40
    clear A40
    obtain ⟨y797, hy797⟩ : ∃ y_ : List (S83), y_ = (([] : List (S83))) := ⟨_, rfl⟩
    replace H : (laws_FnReadings.l0 k t793 y797 0) = some r := by first | (rw [hy797]; with_reducible exact H) | (have H2_ := (Option.bind_some _ _).symm.trans H; rw [hy797]; with_reducible exact H2_) | (have H2_ := (Option.bind_some _ _).symm.trans H; with_reducible exact H2_) | with_reducible exact H | (rw [hy797]; exact H) | exact H
    have Ny797 := Aside0.mk hy797
    clear hy797
    have H' := Aside0.mk H
    clear H
    go_enter Try.func8, Try.ntmps8
    go_wp2_with (first | (go_at_call 25; (with_reducible refine (laws_big.calls _ _ l0 false _ ?side1 ?side2 A2.out).mono ?_); (case side1 => repeat (first | exact HR0.out | (with_reducible refine Kd.C_alloc ?_ _) | (with_reducible refine Kd.C_drewN ?_ _) | (with_reducible refine Kd.C_drew ?_))); (case side2 => exact HC0.out); rintro e w' ⟨rfl, ⟨nd, rfl⟩⟩; (try first | exact ⟨rfl, _, World.drewN_drewN _ _ _⟩ | exact ⟨rfl, _, Eq.trans (World.drewN_drewN _ _ _) (congrArg (World.drewN _) (Nat.add_assoc _ _ _))⟩)) | (go_at_call 48; (with_reducible refine (spec_DrawAppRun.calls k _ _ l0 t791 t792 t793 _ ?side1 ?side2 A4.out).mono ?_); (case side1 => repeat (first | exact HR0.out | (with_reducible refine Kd.C_alloc ?_ _) | (with_reducible refine Kd.C_drewN ?_ _) | (with_reducible refine Kd.C_drew ?_))); (case side2 => exact HC0.out); rintro e w5 ⟨v794, rfl, ho0, hb⟩; have n0_ := Aside0.mk (Kd.R_lower ho0 (below_size (hb_ HB.out))); have n1_ := Aside0.mk (below_step (hb_ HB.out) hb); clear HB; have HO795 := n0_; have HB := n1_; clear n0_ n1_; (try clear hb); (try clear hb2); (try clear hk); (try clear hi); (try clear ho0)) | ((with_reducible refine gate_dst (N := 3) rfl ?_); refine box_event ?hg (N := 3) ?hd (cs := #[.bool false, .int .i64 0]) (t := 66) ?hr ?_; (case hd => rfl); (case hg => rfl); (case hr => first | (go_simp; done) | (go_simp; rfl)); intro gb796 hg w6 hbox hb; have n0_ := Aside0.mk (Kd.R_below (by (with_reducible repeat (first | apply Kd.R_alloc | apply Kd.R_drewN | apply Kd.R_drew)); exact HO795.out) hb); have n1_ := Aside0.mk (below_step (hb_ HB.out) hb); have n2_ := Aside0.mk (hbox); have n3_ := Aside0.mk ((by rw [hg]; exact (below_size (hb_ HB.out)) : w.heap.size ≤ gb796)); have n4_ := Aside0.mk ((by rw [hg]; exact (below_size (hb_ HB.out)) : w.heap.size ≤ gb796)); clear HO795; clear HB; have HO795 := n0_; have HB := n1_; have BK796 := n2_; have GW796 := n3_; have GE796 := n4_; clear n0_ n1_ n2_ n3_ n4_; clear hb hbox hg; have hcz7_0 := bc_ BK796.out 0 (.bool false) rfl; have hcz7_1 := bc_ BK796.out 1 (.int .i64 0) rfl; have hfz7_0 := blk_frozen BK796.out 0; have hfz7_1 := blk_frozen BK796.out 1) | ((with_reducible refine gate_dst (N := 19) rfl ?_); refine Kd.R_lit k83 _ 83 ?hg (N := 19) ?hd (xs := ([] : List (S83))) (inner := []) (ok := fun _ => True) (okp := fun _ => True) ?hr ?hp (fun _ hk => hk) trivial (Below.refl _ _) (Nat.le_refl _) (by simp) ?_; (case hd => rfl); (case hg => rfl); (case hr => first | (go_simp; done) | (go_simp; rfl)); (case hp => exact (Reps.none _ _)); intro v798 w8 ho9 hb hg_ hnew_; clear hg_ hnew_; (first | rw [← Ny797.out] at ho9 | (simp only [Int.reduceToNat] at ho9; rw [← Ny797.out] at ho9)); have n0_ := Aside0.mk (Kd.R_elder' (by (with_reducible repeat (first | apply Kd.R_alloc | apply Kd.R_drewN | apply Kd.R_drew)); exact (Kd.R_mono (Kd.R_far (p := ⟨gb796, 1, none⟩) (Kd.R_far (p := ⟨gb796, 0, none⟩) (Kd.R_types HO795.out BK796.out (by decide)) (fun _ hk => hk.2) (.bool t791)) (fun _ hk => hk.2) (.int .i64 t792)) (fun _ h_ => h_.1))) (Kd.R_base ho9) hb); have n1_ := Aside0.mk (Kd.R_lower (Kd.R_new' ho9 (Kd.R_lt (by (with_reducible repeat (first | apply Kd.R_alloc | apply Kd.R_drewN | apply Kd.R_drew)); exact (Kd.R_mono (Kd.R_far (p := ⟨gb796, 1, none⟩) (Kd.R_far (p := ⟨gb796, 0, none⟩) (Kd.R_types HO795.out BK796.out (by decide)) (fun _ hk => hk.2) (.bool t791)) (fun _ hk => hk.2) (.int .i64 t792)) (fun _ h_ => h_.1))))) (below_size (hb1_ HB.out GE796.out))); have n2_ := Aside0.mk (blk_below (g := gb796) (o := .cells #[.bool t791, .int .i64 t792] 66 (0, 0)) (by (with_reducible repeat (first | refine blk_drewN ?_ _ | refine blk_drew ?_ | refine blk_alloc ?_ _)); refine blk_put (cs := #[.bool t791, .int .i64 0]) ?_ 1 _ rfl; (with_reducible repeat (first | refine blk_drewN ?_ _ | refine blk_drew ?_ | refine blk_alloc ?_ _)); refine blk_put (cs := #[.bool false, .int .i64 0]) ?_ 0 _ rfl; (with_reducible repeat (first | refine blk_drewN ?_ _ | refine blk_drew ?_ | refine blk_alloc ?_ _)); exact BK796.out) hb); have n3_ := Aside0.mk (below_step (hb1_ HB.out GE796.out) hb); clear HO795; clear BK796; clear HB; have HO795 := n0_; have HO799 := n1_; have BK796 := n2_; have HB := n3_; clear n0_ n1_ n2_ n3_; clear hb ho9))
    repeat (go_quiet (first | (go_at_call 25; (with_reducible refine (laws_big.calls _ _ l0 false _ ?side1 ?side2 A2.out).mono ?_); (case side1 => repeat (first | exact HR0.out | (with_reducible refine Kd.C_alloc ?_ _) | (with_reducible refine Kd.C_drewN ?_ _) | (with_reducible refine Kd.C_drew ?_))); (case side2 => exact HC0.out); rintro e w' ⟨rfl, ⟨nd, rfl⟩⟩; (try first | exact ⟨rfl, _, World.drewN_drewN _ _ _⟩ | exact ⟨rfl, _, Eq.trans (World.drewN_drewN _ _ _) (congrArg (World.drewN _) (Nat.add_assoc _ _ _))⟩)) | (go_at_call 48; (with_reducible refine (spec_DrawAppRun.calls k _ _ l0 t791 t792 t793 _ ?side1 ?side2 A4.out).mono ?_); (case side1 => repeat (first | exact HR0.out | (with_reducible refine Kd.C_alloc ?_ _) | (with_reducible refine Kd.C_drewN ?_ _) | (with_reducible refine Kd.C_drew ?_))); (case side2 => exact HC0.out); rintro e w5 ⟨v794, rfl, ho0, hb⟩; have n0_ := Aside0.mk (Kd.R_lower ho0 (below_size (hb_ HB.out))); have n1_ := Aside0.mk (below_step (hb_ HB.out) hb); clear HB; have HO795 := n0_; have HB := n1_; clear n0_ n1_; (try clear hb); (try clear hb2); (try clear hk); (try clear hi); (try clear ho0)) | ((with_reducible refine gate_dst (N := 3) rfl ?_); refine box_event ?hg (N := 3) ?hd (cs := #[.bool false, .int .i64 0]) (t := 66) ?hr ?_; (case hd => rfl); (case hg => rfl); (case hr => first | (go_simp; done) | (go_simp; rfl)); intro gb796 hg w6 hbox hb; have n0_ := Aside0.mk (Kd.R_below (by (with_reducible repeat (first | apply Kd.R_alloc | apply Kd.R_drewN | apply Kd.R_drew)); exact HO795.out) hb); have n1_ := Aside0.mk (below_step (hb_ HB.out) hb); have n2_ := Aside0.mk (hbox); have n3_ := Aside0.mk ((by rw [hg]; exact (below_size (hb_ HB.out)) : w.heap.size ≤ gb796)); have n4_ := Aside0.mk ((by rw [hg]; exact (below_size (hb_ HB.out)) : w.heap.size ≤ gb796)); clear HO795; clear HB; have HO795 := n0_; have HB := n1_; have BK796 := n2_; have GW796 := n3_; have GE796 := n4_; clear n0_ n1_ n2_ n3_ n4_; clear hb hbox hg; have hcz7_0 := bc_ BK796.out 0 (.bool false) rfl; have hcz7_1 := bc_ BK796.out 1 (.int .i64 0) rfl; have hfz7_0 := blk_frozen BK796.out 0; have hfz7_1 := blk_frozen BK796.out 1) | ((with_reducible refine gate_dst (N := 19) rfl ?_); refine Kd.R_lit k83 _ 83 ?hg (N := 19) ?hd (xs := ([] : List (S83))) (inner := []) (ok := fun _ => True) (okp := fun _ => True) ?hr ?hp (fun _ hk => hk) trivial (Below.refl _ _) (Nat.le_refl _) (by simp) ?_; (case hd => rfl); (case hg => rfl); (case hr => first | (go_simp; done) | (go_simp; rfl)); (case hp => exact (Reps.none _ _)); intro v798 w8 ho9 hb hg_ hnew_; clear hg_ hnew_; (first | rw [← Ny797.out] at ho9 | (simp only [Int.reduceToNat] at ho9; rw [← Ny797.out] at ho9)); have n0_ := Aside0.mk (Kd.R_elder' (by (with_reducible repeat (first | apply Kd.R_alloc | apply Kd.R_drewN | apply Kd.R_drew)); exact (Kd.R_mono (Kd.R_far (p := ⟨gb796, 1, none⟩) (Kd.R_far (p := ⟨gb796, 0, none⟩) (Kd.R_types HO795.out BK796.out (by decide)) (fun _ hk => hk.2) (.bool t791)) (fun _ hk => hk.2) (.int .i64 t792)) (fun _ h_ => h_.1))) (Kd.R_base ho9) hb); have n1_ := Aside0.mk (Kd.R_lower (Kd.R_new' ho9 (Kd.R_lt (by (with_reducible repeat (first | apply Kd.R_alloc | apply Kd.R_drewN | apply Kd.R_drew)); exact (Kd.R_mono (Kd.R_far (p := ⟨gb796, 1, none⟩) (Kd.R_far (p := ⟨gb796, 0, none⟩) (Kd.R_types HO795.out BK796.out (by decide)) (fun _ hk => hk.2) (.bool t791)) (fun _ hk => hk.2) (.int .i64 t792)) (fun _ h_ => h_.1))))) (below_size (hb1_ HB.out GE796.out))); have n2_ := Aside0.mk (blk_below (g := gb796) (o := .cells #[.bool t791, .int .i64 t792] 66 (0, 0)) (by (with_reducible repeat (first | refine blk_drewN ?_ _ | refine blk_drew ?_ | refine blk_alloc ?_ _)); refine blk_put (cs := #[.bool t791, .int .i64 0]) ?_ 1 _ rfl; (with_reducible repeat (first | refine blk_drewN ?_ _ | refine blk_drew ?_ | refine blk_alloc ?_ _)); refine blk_put (cs := #[.bool false, .int .i64 0]) ?_ 0 _ rfl; (with_reducible repeat (first | refine blk_drewN ?_ _ | refine blk_drew ?_ | refine blk_alloc ?_ _)); exact BK796.out) hb); have n3_ := Aside0.mk (below_step (hb1_ HB.out GE796.out) hb); clear HO795; clear BK796; clear HB; have HO795 := n0_; have HO799 := n1_; have BK796 := n2_; have HB := n3_; clear n0_ n1_ n2_ n3_; clear hb ho9)); try go_wp2_with (first | (go_at_call 25; (with_reducible refine (laws_big.calls _ _ l0 false _ ?side1 ?side2 A2.out).mono ?_); (case side1 => repeat (first | exact HR0.out | (with_reducible refine Kd.C_alloc ?_ _) | (with_reducible refine Kd.C_drewN ?_ _) | (with_reducible refine Kd.C_drew ?_))); (case side2 => exact HC0.out); rintro e w' ⟨rfl, ⟨nd, rfl⟩⟩; (try first | exact ⟨rfl, _, World.drewN_drewN _ _ _⟩ | exact ⟨rfl, _, Eq.trans (World.drewN_drewN _ _ _) (congrArg (World.drewN _) (Nat.add_assoc _ _ _))⟩)) | (go_at_call 48; (with_reducible refine (spec_DrawAppRun.calls k _ _ l0 t791 t792 t793 _ ?side1 ?side2 A4.out).mono ?_); (case side1 => repeat (first | exact HR0.out | (with_reducible refine Kd.C_alloc ?_ _) | (with_reducible refine Kd.C_drewN ?_ _) | (with_reducible refine Kd.C_drew ?_))); (case side2 => exact HC0.out); rintro e w5 ⟨v794, rfl, ho0, hb⟩; have n0_ := Aside0.mk (Kd.R_lower ho0 (below_size (hb_ HB.out))); have n1_ := Aside0.mk (below_step (hb_ HB.out) hb); clear HB; have HO795 := n0_; have HB := n1_; clear n0_ n1_; (try clear hb); (try clear hb2); (try clear hk); (try clear hi); (try clear ho0)) | ((with_reducible refine gate_dst (N := 3) rfl ?_); refine box_event ?hg (N := 3) ?hd (cs := #[.bool false, .int .i64 0]) (t := 66) ?hr ?_; (case hd => rfl); (case hg => rfl); (case hr => first | (go_simp; done) | (go_simp; rfl)); intro gb796 hg w6 hbox hb; have n0_ := Aside0.mk (Kd.R_below (by (with_reducible repeat (first | apply Kd.R_alloc | apply Kd.R_drewN | apply Kd.R_drew)); exact HO795.out) hb); have n1_ := Aside0.mk (below_step (hb_ HB.out) hb); have n2_ := Aside0.mk (hbox); have n3_ := Aside0.mk ((by rw [hg]; exact (below_size (hb_ HB.out)) : w.heap.size ≤ gb796)); have n4_ := Aside0.mk ((by rw [hg]; exact (below_size (hb_ HB.out)) : w.heap.size ≤ gb796)); clear HO795; clear HB; have HO795 := n0_; have HB := n1_; have BK796 := n2_; have GW796 := n3_; have GE796 := n4_; clear n0_ n1_ n2_ n3_ n4_; clear hb hbox hg; have hcz7_0 := bc_ BK796.out 0 (.bool false) rfl; have hcz7_1 := bc_ BK796.out 1 (.int .i64 0) rfl; have hfz7_0 := blk_frozen BK796.out 0; have hfz7_1 := blk_frozen BK796.out 1) | ((with_reducible refine gate_dst (N := 19) rfl ?_); refine Kd.R_lit k83 _ 83 ?hg (N := 19) ?hd (xs := ([] : List (S83))) (inner := []) (ok := fun _ => True) (okp := fun _ => True) ?hr ?hp (fun _ hk => hk) trivial (Below.refl _ _) (Nat.le_refl _) (by simp) ?_; (case hd => rfl); (case hg => rfl); (case hr => first | (go_simp; done) | (go_simp; rfl)); (case hp => exact (Reps.none _ _)); intro v798 w8 ho9 hb hg_ hnew_; clear hg_ hnew_; (first | rw [← Ny797.out] at ho9 | (simp only [Int.reduceToNat] at ho9; rw [← Ny797.out] at ho9)); have n0_ := Aside0.mk (Kd.R_elder' (by (with_reducible repeat (first | apply Kd.R_alloc | apply Kd.R_drewN | apply Kd.R_drew)); exact (Kd.R_mono (Kd.R_far (p := ⟨gb796, 1, none⟩) (Kd.R_far (p := ⟨gb796, 0, none⟩) (Kd.R_types HO795.out BK796.out (by decide)) (fun _ hk => hk.2) (.bool t791)) (fun _ hk => hk.2) (.int .i64 t792)) (fun _ h_ => h_.1))) (Kd.R_base ho9) hb); have n1_ := Aside0.mk (Kd.R_lower (Kd.R_new' ho9 (Kd.R_lt (by (with_reducible repeat (first | apply Kd.R_alloc | apply Kd.R_drewN | apply Kd.R_drew)); exact (Kd.R_mono (Kd.R_far (p := ⟨gb796, 1, none⟩) (Kd.R_far (p := ⟨gb796, 0, none⟩) (Kd.R_types HO795.out BK796.out (by decide)) (fun _ hk => hk.2) (.bool t791)) (fun _ hk => hk.2) (.int .i64 t792)) (fun _ h_ => h_.1))))) (below_size (hb1_ HB.out GE796.out))); have n2_ := Aside0.mk (blk_below (g := gb796) (o := .cells #[.bool t791, .int .i64 t792] 66 (0, 0)) (by (with_reducible repeat (first | refine blk_drewN ?_ _ | refine blk_drew ?_ | refine blk_alloc ?_ _)); refine blk_put (cs := #[.bool t791, .int .i64 0]) ?_ 1 _ rfl; (with_reducible repeat (first | refine blk_drewN ?_ _ | refine blk_drew ?_ | refine blk_alloc ?_ _)); refine blk_put (cs := #[.bool false, .int .i64 0]) ?_ 0 _ rfl; (with_reducible repeat (first | refine blk_drewN ?_ _ | refine blk_drew ?_ | refine blk_alloc ?_ _)); exact BK796.out) hb); have n3_ := Aside0.mk (below_step (hb1_ HB.out GE796.out) hb); clear HO795; clear BK796; clear HB; have HO795 := n0_; have HO799 := n1_; have BK796 := n2_; have HB := n3_; clear n0_ n1_ n2_ n3_; clear hb ho9)))
    go_loopg [5, 6] k (fun kq v5 v6 w' => ∃ (x5_1 : List (S83)) (x6_1 : Int), v6 = .int .i64 x6_1 ∧ Aside0 (laws_FnReadings.l0 kq t793 x5_1 x6_1 = some r) ∧ Aside0 (kq ≤ k) ∧ Aside0 (Kd.R k83 83 w' w.heap.size (fun k_ => some k_ ≠ (v5 : Value).ownBlock) v794 t793) ∧ Aside0 (Kd.R k83 83 w' w.heap.size (fun k_ => some k_ ≠ (v794 : Value).ownBlock) v5 x5_1) ∧ Aside0 (w'.heap[gb796]? = some (.cells #[.bool t791, .int .i64 t792] 66 (0, 0))) ∧ Aside0 (Below w.heap.size w w'))
    case atStart => exact ⟨(y797), (0), (by first | rfl | (simp; done) | (simp [*]; done)), H', ⟨Nat.le_refl _⟩, ⟨by (with_reducible repeat (first | apply Kd.R_alloc | apply Kd.R_drewN | apply Kd.R_drew)); exact Kd.R_mono HO795.out (fun _ hk => hk.2)⟩, ⟨by (with_reducible repeat (first | apply Kd.R_alloc | apply Kd.R_drewN | apply Kd.R_drew)); exact Kd.R_mono HO799.out (fun _ hk => hk.2)⟩, ⟨bk_ BK796.out⟩, ⟨hb1_ HB.out GE796.out⟩⟩
    case round =>
      clear H'
      try clear p2
      try clear c3
      try clear c8
      try clear hcz7_0
      try clear hcz7_1
      try clear hfz7_0
      try clear hfz7_1
      obtain ⟨x5_1, x6_1, rfl, HA, HK1, HO_4, HO_5, BK796, HB⟩ := hrel
      cases gk with
      | zero => exact absurd HA.out (by simp [laws_FnReadings.l0])
      | succ k1 =>
        have H := HA.out
        clear HA
        simp only [laws_FnReadings.l0] at H
        have HC10 := Aside0.mk H
        clear H
        go_upto_region 6 with (fail)
        repeat (go_quiet (fail); go_upto_region 6 with (fail))
        go_cut [27] (fun v27 wc => ∃ (kq : Nat) (x27_9 : Bool), v27 = .bool x27_9 ∧ Aside0 (laws_FnReadings.j1 kq t793 x5_1 x6_1 x27_9 = some r) ∧ Aside0 (kq ≤ k1) ∧ Aside0 (Kd.R k83 83 wc w.heap.size (fun k_ => some k_ ≠ (u5 : Value).ownBlock) v794 t793) ∧ Aside0 (Kd.R k83 83 wc w.heap.size (fun k_ => some k_ ≠ (v794 : Value).ownBlock) u5 x5_1) ∧ Aside0 (wc.heap[gb796]? = some (.cells #[.bool t791, .int .i64 t792] 66 (0, 0))) ∧ Aside0 (Below w.heap.size w wc))
        case first =>
          have H := HC10.out
          clear HC10
          by_cases c11 : x6_1 < (t793.length : Int)
          · rw [if_pos c11] at H
            have c11b0 : decide (x6_1 < (t793.length : Int)) = true := decide_eq_true c11
            clear c11
            (first | rw [c11b0] | (simp only [i64_w, i32_w]; rw [c11b0]) | skip)
            have H' := Aside0.mk H
            clear H
            obtain ⟨Ao12, co12, eo12⟩ := Kd.R_slice HO_4.out
            subst eo12
            go_wp2
            repeat (go_quiet (fail); try go_wp2)
            go_meet
            case rel => exact ⟨_, (decide (x6_1 < 200)), (by first | rfl | (simp; done) | (simp [*]; done)), H', ⟨by have := HK1.out; first | omega | exact Nat.le_refl _⟩, ⟨by (with_reducible repeat (first | apply Kd.R_alloc | apply Kd.R_drewN | apply Kd.R_drew)); exact HO_4.out⟩, ⟨by (with_reducible repeat (first | apply Kd.R_alloc | apply Kd.R_drewN | apply Kd.R_drew)); exact HO_5.out⟩, ⟨bk_ BK796.out⟩, ⟨hb1_ HB.out GE796.out⟩⟩
          · rw [if_neg c11] at H
            have c11b0 : decide (x6_1 < (t793.length : Int)) = false := decide_eq_false c11
            clear c11
            (first | rw [c11b0] | (simp only [i64_w, i32_w]; rw [c11b0]) | skip)
            have H' := Aside0.mk H
            clear H
            obtain ⟨Ao13, co13, eo13⟩ := Kd.R_slice HO_4.out
            subst eo13
            go_wp2
            repeat (go_quiet (fail); try go_wp2)
            go_meet
            case rel => exact ⟨_, (false), (by first | rfl | (simp; done) | (simp [*]; done)), H', ⟨by have := HK1.out; first | omega | exact Nat.le_refl _⟩, ⟨by (with_reducible repeat (first | apply Kd.R_alloc | apply Kd.R_drewN | apply Kd.R_drew)); exact HO_4.out⟩, ⟨by (with_reducible repeat (first | apply Kd.R_alloc | apply Kd.R_drewN | apply Kd.R_drew)); exact HO_5.out⟩, ⟨bk_ BK796.out⟩, ⟨hb1_ HB.out GE796.out⟩⟩
        case rest =>
          clear HC10
          try clear c1
          try clear p2
          try clear c3
          try clear c8
          try clear c11
          try clear c11b0
          try clear hcz7_0
          try clear hcz7_1
          try clear hfz7_0
          try clear hfz7_1
          try clear p2
          obtain ⟨kq, x27_9, rfl, HA, HJ9, HO_4, HO_5, BK796, HB⟩ := hcut
          cases kq with
          | zero => exact absurd HA.out (by simp [laws_FnReadings.j1])
          | succ kj9 =>
            have H := HA.out
            clear HA
            simp only [laws_FnReadings.j1] at H
            by_cases c14 : x27_9 = true
            · subst c14
              have H1 : (if 0 ≤ x6_1 then (if x6_1 < (t793.length : Int) then (if ((rd_T83 t793 x6_1).f0 = true) then ((spec_IvalOk.f ((rd_T83 t793 x6_1).f1.f0) ((rd_T83 t793 x6_1).f1.f1)).bind fun t802 => (if t802 = true then (if x5_1.length < 5864062014805 then (laws_FnReadings.l0 kj9 t793 (x5_1 ++ [(⟨(rd_T83 t793 x6_1).f0, (⟨(rd_T83 t793 x6_1).f1.f0, (rd_T83 t793 x6_1).f1.f1⟩ : S81)⟩ : S83)]) (wrap64 (x6_1 + 1))) else (none)) else (laws_FnReadings.l0 kj9 t793 x5_1 (wrap64 (x6_1 + 1))))) else (if x5_1.length < 5864062014805 then (laws_FnReadings.l0 kj9 t793 (x5_1 ++ [(⟨(rd_T83 t793 x6_1).f0, (⟨(rd_T83 t793 x6_1).f1.f0, (rd_T83 t793 x6_1).f1.f1⟩ : S81)⟩ : S83)]) (wrap64 (x6_1 + 1))) else (none))) else (none)) else (none)) = some r := by rw [if_pos rfl] at H; exact H
              clear H
              have H := H1
              clear H1
              by_cases c15 : 0 ≤ x6_1
              · rw [if_pos c15] at H
                have c15b0 : decide (0 ≤ x6_1) = true := decide_eq_true c15
                clear c15
                by_cases c16 : x6_1 < (t793.length : Int)
                · rw [if_pos c16] at H
                  have c16b0 : decide (x6_1 < (t793.length : Int)) = true := decide_eq_true c16
                  clear c16
                  obtain ⟨bq17, hbq17⟩ : ∃ b_ : Bool, b_ = ((rd_T83 t793 x6_1).f0) := ⟨_, rfl⟩
                  replace H : (if (bq17 = true) then ((spec_IvalOk.f ((rd_T83 t793 x6_1).f1.f0) ((rd_T83 t793 x6_1).f1.f1)).bind fun t802 => (if t802 = true then (if x5_1.length < 5864062014805 then (laws_FnReadings.l0 kj9 t793 (x5_1 ++ [(⟨bq17, (⟨(rd_T83 t793 x6_1).f1.f0, (rd_T83 t793 x6_1).f1.f1⟩ : S81)⟩ : S83)]) (wrap64 (x6_1 + 1))) else (none)) else (laws_FnReadings.l0 kj9 t793 x5_1 (wrap64 (x6_1 + 1))))) else (if x5_1.length < 5864062014805 then (laws_FnReadings.l0 kj9 t793 (x5_1 ++ [(⟨bq17, (⟨(rd_T83 t793 x6_1).f1.f0, (rd_T83 t793 x6_1).f1.f1⟩ : S81)⟩ : S83)]) (wrap64 (x6_1 + 1))) else (none))) = some r := by rw [← hbq17] at H; exact H
                  have Nbq17 := Aside0.mk hbq17
                  clear hbq17
                  by_cases c18 : (bq17 = true)
                  · subst c18
                    have H1 : ((spec_IvalOk.f ((rd_T83 t793 x6_1).f1.f0) ((rd_T83 t793 x6_1).f1.f1)).bind fun t802 => (if t802 = true then (if x5_1.length < 5864062014805 then (laws_FnReadings.l0 kj9 t793 (x5_1 ++ [(⟨true, (⟨(rd_T83 t793 x6_1).f1.f0, (rd_T83 t793 x6_1).f1.f1⟩ : S81)⟩ : S83)]) (wrap64 (x6_1 + 1))) else (none)) else (laws_FnReadings.l0 kj9 t793 x5_1 (wrap64 (x6_1 + 1))))) = some r := by rw [if_pos rfl] at H; exact H
                    clear H
                    have H := H1
                    clear H1
                    replace H := Option.bind_eq_some_iff.mp H
                    obtain ⟨t802, A190, H⟩ := H
                    replace H : (if t802 = true then (if x5_1.length < 5864062014805 then (laws_FnReadings.l0 kj9 t793 (x5_1 ++ [(⟨true, (⟨(rd_T83 t793 x6_1).f1.f0, (rd_T83 t793 x6_1).f1.f1⟩ : S81)⟩ : S83)]) (wrap64 (x6_1 + 1))) else (none)) else (laws_FnReadings.l0 kj9 t793 x5_1 (wrap64 (x6_1 + 1)))) = some r := H
                    have A19 := Aside0.mk A190
                    clear A190
                    by_cases c20 : t802 = true
                    · subst c20
                      have H1 : (if x5_1.length < 5864062014805 then (laws_FnReadings.l0 kj9 t793 (x5_1 ++ [(⟨true, (⟨(rd_T83 t793 x6_1).f1.f0, (rd_T83 t793 x6_1).f1.f1⟩ : S81)⟩ : S83)]) (wrap64 (x6_1 + 1))) else (none)) = some r := by rw [if_pos rfl] at H; exact H
                      clear H
                      have H := H1
                      clear H1
                      by_cases c21 : x5_1.length < 5864062014805
                      · rw [if_pos c21] at H
                        have LMc21 := Aside0.mk c21
                        clear c21
                        obtain ⟨y804, hy804⟩ : ∃ y_ : List (S83), y_ = (x5_1 ++ [(⟨true, (⟨(rd_T83 t793 x6_1).f1.f0, (rd_T83 t793 x6_1).f1.f1⟩ : S81)⟩ : S83)]) := ⟨_, rfl⟩
                        replace H : (laws_FnReadings.l0 kj9 t793 y804 (wrap64 (x6_1 + 1))) = some r := by first | (rw [hy804]; with_reducible exact H) | (have H2_ := (Option.bind_some _ _).symm.trans H; rw [hy804]; with_reducible exact H2_) | (have H2_ := (Option.bind_some _ _).symm.trans H; with_reducible exact H2_) | with_reducible exact H | (rw [hy804]; exact H) | exact H
                        have Ny804 := Aside0.mk hy804
                        clear hy804
                        have H' := Aside0.mk H
                        clear H
                        obtain ⟨Ao22, co22, eo22⟩ := Kd.R_slice HO_4.out
                        subst eo22
                        have p800 : 0 ≤ (x6_1 : Int) := of_decide_eq_true (by first | (with_reducible assumption) | assumption)
                        have q800 : x6_1 < (t793.length : Int) := of_decide_eq_true (by first | (with_reducible assumption) | assumption)
                        obtain ⟨ad800, e800, hx800_0, hx800_1, hx800_2⟩ := at_T83 (Kd.R_reads' HO_4.out).2.2 x6_1 p800 q800
                        (try rw [← Nbq17.out] at hx800_0)
                        cases e800
                        replace p800 := eq_true p800
                        replace q800 := eq_true q800
                        have p801 : 0 ≤ (x6_1 : Int) := of_decide_eq_true (by first | (with_reducible assumption) | assumption)
                        have q801 : x6_1 < (t793.length : Int) := of_decide_eq_true (by first | (with_reducible assumption) | assumption)
                        obtain ⟨ad801, e801, hx801_0, hx801_1, hx801_2⟩ := at_T83 (Kd.R_reads' HO_4.out).2.2 x6_1 p801 q801
                        (try rw [← Nbq17.out] at hx801_0)
                        obtain rfl : ad800 = ad801 := (by injection e801)
                        replace p801 := eq_true p801
                        replace q801 := eq_true q801
                        go_wp2_with (first | (go_at_call 49; (with_reducible refine (spec_IvalOk.calls ((rd_T83 t793 x6_1).f1.f0) ((rd_T83 t793 x6_1).f1.f1) true _ A19.out).mono ?_); rintro e w23 ⟨rfl, hb⟩; have n0_ := Aside0.mk (Kd.R_below (by (with_reducible repeat (first | apply Kd.R_alloc | apply Kd.R_drewN | apply Kd.R_drew)); exact HO_4.out) hb); have n1_ := Aside0.mk (Kd.R_below (by (with_reducible repeat (first | apply Kd.R_alloc | apply Kd.R_drewN | apply Kd.R_drew)); exact HO_5.out) hb); have n2_ := Aside0.mk (bb_ BK796.out hb); have n3_ := Aside0.mk (below_step (hb1_ HB.out GE796.out) hb); clear HO_4; clear HO_5; clear BK796; clear HB; have HO_4 := n0_; have HO_5 := n1_; have BK796 := n2_; have HB := n3_; clear n0_ n1_ n2_ n3_; (try clear hb); (try clear hb2); (try clear hk); (try clear hi); have p803 : 0 ≤ (x6_1 : Int) := of_decide_eq_true (by first | (with_reducible assumption) | assumption); have q803 : x6_1 < (t793.length : Int) := of_decide_eq_true (by first | (with_reducible assumption) | assumption); obtain ⟨ad803, e803, hx803_0, hx803_1, hx803_2⟩ := at_T83 (Kd.R_reads' HO_4.out).2.2 x6_1 p803 q803; (try rw [← Nbq17.out] at hx803_0); obtain rfl : ad800 = ad803 := (by injection e803); replace p803 := eq_true p803; replace q803 := eq_true q803) | ((with_reducible refine gate_builtin (b := .append) (xs := #[.tmp 44, .tmp 49]) rfl ?_); at_builtin; refine Kd.R_append k83 (w0 := w) w.heap.size rfl (.tmp 44) (.tmp 49) 70 83 (.agg #[(.bool false), (.int .i64 0), (.int .i64 0)]) 24 rfl Try.underlying70 info83 rfl (by decide) (by omega) u5 x5_1 (⟨true, (⟨(rd_T83 t793 x6_1).f1.f0, (rd_T83 t793 x6_1).f1.f1⟩ : S81)⟩ : S83) [.bool true, .int .i64 ((rd_T83 t793 x6_1).f1.f0), .int .i64 ((rd_T83 t793 x6_1).f1.f1)] (fun k_ => some k_ ≠ (.slice (some ad800) t793.length co22 : Value).ownBlock) (fun _ => False) rfl rfl ?aP (fun _ hk => hk.elim) ?aF ?aO ?aB ?aS ?aL ?_; (case aP => exact k83_mkM _ _ _ (⟨true, (⟨(rd_T83 t793 x6_1).f1.f0, (rd_T83 t793 x6_1).f1.f1⟩ : S81)⟩ : S83)); (case aB => exact (hb1_ HB.out GE796.out)); (case aF => exact (fun k_ hk => Kd.fresh' (Kd.R_lt (by (with_reducible repeat (first | apply Kd.R_alloc | apply Kd.R_drewN | apply Kd.R_drew)); exact HO_4.out)) k_ hk)); (case aO => exact (by (with_reducible repeat (first | apply Kd.R_alloc | apply Kd.R_drewN | apply Kd.R_drew)); exact HO_5.out)); (case aS => exact (below_size (hb1_ HB.out GE796.out))); (case aL => have := LMc21.out; omega); intro v805 w24 ho hb hg hat; rw [← Ny804.out] at ho; have n0_ := Aside0.mk (Kd.R_after (ok := (fun _ => True)) (by (with_reducible repeat (first | apply Kd.R_alloc | apply Kd.R_drewN | apply Kd.R_drew)); exact Kd.R_mono HO_4.out (fun _ hk => ⟨trivial, hk⟩)) hg hat); have n1_ := Aside0.mk (blk_grown (g := gb796) (o := .cells #[.bool t791, .int .i64 t792] 66 (0, 0)) (bk_ BK796.out) hg (Kd.R_ne HO_5.out BK796.out (by decide))); have n2_ := Aside0.mk (hb); have n3_ := Aside0.mk (ho); clear HO_4; clear BK796; clear HB; clear HO_5; have HO_4 := n0_; have BK796 := n1_; have HB := n2_; have HO806 := n3_; clear n0_ n1_ n2_ n3_; clear ho hb hg hat))
                        repeat (go_quiet (first | (go_at_call 49; (with_reducible refine (spec_IvalOk.calls ((rd_T83 t793 x6_1).f1.f0) ((rd_T83 t793 x6_1).f1.f1) true _ A19.out).mono ?_); rintro e w23 ⟨rfl, hb⟩; have n0_ := Aside0.mk (Kd.R_below (by (with_reducible repeat (first | apply Kd.R_alloc | apply Kd.R_drewN | apply Kd.R_drew)); exact HO_4.out) hb); have n1_ := Aside0.mk (Kd.R_below (by (with_reducible repeat (first | apply Kd.R_alloc | apply Kd.R_drewN | apply Kd.R_drew)); exact HO_5.out) hb); have n2_ := Aside0.mk (bb_ BK796.out hb); have n3_ := Aside0.mk (below_step (hb1_ HB.out GE796.out) hb); clear HO_4; clear HO_5; clear BK796; clear HB; have HO_4 := n0_; have HO_5 := n1_; have BK796 := n2_; have HB := n3_; clear n0_ n1_ n2_ n3_; (try clear hb); (try clear hb2); (try clear hk); (try clear hi); have p803 : 0 ≤ (x6_1 : Int) := of_decide_eq_true (by first | (with_reducible assumption) | assumption); have q803 : x6_1 < (t793.length : Int) := of_decide_eq_true (by first | (with_reducible assumption) | assumption); obtain ⟨ad803, e803, hx803_0, hx803_1, hx803_2⟩ := at_T83 (Kd.R_reads' HO_4.out).2.2 x6_1 p803 q803; (try rw [← Nbq17.out] at hx803_0); obtain rfl : ad800 = ad803 := (by injection e803); replace p803 := eq_true p803; replace q803 := eq_true q803) | ((with_reducible refine gate_builtin (b := .append) (xs := #[.tmp 44, .tmp 49]) rfl ?_); at_builtin; refine Kd.R_append k83 (w0 := w) w.heap.size rfl (.tmp 44) (.tmp 49) 70 83 (.agg #[(.bool false), (.int .i64 0), (.int .i64 0)]) 24 rfl Try.underlying70 info83 rfl (by decide) (by omega) u5 x5_1 (⟨true, (⟨(rd_T83 t793 x6_1).f1.f0, (rd_T83 t793 x6_1).f1.f1⟩ : S81)⟩ : S83) [.bool true, .int .i64 ((rd_T83 t793 x6_1).f1.f0), .int .i64 ((rd_T83 t793 x6_1).f1.f1)] (fun k_ => some k_ ≠ (.slice (some ad800) t793.length co22 : Value).ownBlock) (fun _ => False) rfl rfl ?aP (fun _ hk => hk.elim) ?aF ?aO ?aB ?aS ?aL ?_; (case aP => exact k83_mkM _ _ _ (⟨true, (⟨(rd_T83 t793 x6_1).f1.f0, (rd_T83 t793 x6_1).f1.f1⟩ : S81)⟩ : S83)); (case aB => exact (hb1_ HB.out GE796.out)); (case aF => exact (fun k_ hk => Kd.fresh' (Kd.R_lt (by (with_reducible repeat (first | apply Kd.R_alloc | apply Kd.R_drewN | apply Kd.R_drew)); exact HO_4.out)) k_ hk)); (case aO => exact (by (with_reducible repeat (first | apply Kd.R_alloc | apply Kd.R_drewN | apply Kd.R_drew)); exact HO_5.out)); (case aS => exact (below_size (hb1_ HB.out GE796.out))); (case aL => have := LMc21.out; omega); intro v805 w24 ho hb hg hat; rw [← Ny804.out] at ho; have n0_ := Aside0.mk (Kd.R_after (ok := (fun _ => True)) (by (with_reducible repeat (first | apply Kd.R_alloc | apply Kd.R_drewN | apply Kd.R_drew)); exact Kd.R_mono HO_4.out (fun _ hk => ⟨trivial, hk⟩)) hg hat); have n1_ := Aside0.mk (blk_grown (g := gb796) (o := .cells #[.bool t791, .int .i64 t792] 66 (0, 0)) (bk_ BK796.out) hg (Kd.R_ne HO_5.out BK796.out (by decide))); have n2_ := Aside0.mk (hb); have n3_ := Aside0.mk (ho); clear HO_4; clear BK796; clear HB; clear HO_5; have HO_4 := n0_; have BK796 := n1_; have HB := n2_; have HO806 := n3_; clear n0_ n1_ n2_ n3_; clear ho hb hg hat)); try go_wp2_with (first | (go_at_call 49; (with_reducible refine (spec_IvalOk.calls ((rd_T83 t793 x6_1).f1.f0) ((rd_T83 t793 x6_1).f1.f1) true _ A19.out).mono ?_); rintro e w23 ⟨rfl, hb⟩; have n0_ := Aside0.mk (Kd.R_below (by (with_reducible repeat (first | apply Kd.R_alloc | apply Kd.R_drewN | apply Kd.R_drew)); exact HO_4.out) hb); have n1_ := Aside0.mk (Kd.R_below (by (with_reducible repeat (first | apply Kd.R_alloc | apply Kd.R_drewN | apply Kd.R_drew)); exact HO_5.out) hb); have n2_ := Aside0.mk (bb_ BK796.out hb); have n3_ := Aside0.mk (below_step (hb1_ HB.out GE796.out) hb); clear HO_4; clear HO_5; clear BK796; clear HB; have HO_4 := n0_; have HO_5 := n1_; have BK796 := n2_; have HB := n3_; clear n0_ n1_ n2_ n3_; (try clear hb); (try clear hb2); (try clear hk); (try clear hi); have p803 : 0 ≤ (x6_1 : Int) := of_decide_eq_true (by first | (with_reducible assumption) | assumption); have q803 : x6_1 < (t793.length : Int) := of_decide_eq_true (by first | (with_reducible assumption) | assumption); obtain ⟨ad803, e803, hx803_0, hx803_1, hx803_2⟩ := at_T83 (Kd.R_reads' HO_4.out).2.2 x6_1 p803 q803; (try rw [← Nbq17.out] at hx803_0); obtain rfl : ad800 = ad803 := (by injection e803); replace p803 := eq_true p803; replace q803 := eq_true q803) | ((with_reducible refine gate_builtin (b := .append) (xs := #[.tmp 44, .tmp 49]) rfl ?_); at_builtin; refine Kd.R_append k83 (w0 := w) w.heap.size rfl (.tmp 44) (.tmp 49) 70 83 (.agg #[(.bool false), (.int .i64 0), (.int .i64 0)]) 24 rfl Try.underlying70 info83 rfl (by decide) (by omega) u5 x5_1 (⟨true, (⟨(rd_T83 t793 x6_1).f1.f0, (rd_T83 t793 x6_1).f1.f1⟩ : S81)⟩ : S83) [.bool true, .int .i64 ((rd_T83 t793 x6_1).f1.f0), .int .i64 ((rd_T83 t793 x6_1).f1.f1)] (fun k_ => some k_ ≠ (.slice (some ad800) t793.length co22 : Value).ownBlock) (fun _ => False) rfl rfl ?aP (fun _ hk => hk.elim) ?aF ?aO ?aB ?aS ?aL ?_; (case aP => exact k83_mkM _ _ _ (⟨true, (⟨(rd_T83 t793 x6_1).f1.f0, (rd_T83 t793 x6_1).f1.f1⟩ : S81)⟩ : S83)); (case aB => exact (hb1_ HB.out GE796.out)); (case aF => exact (fun k_ hk => Kd.fresh' (Kd.R_lt (by (with_reducible repeat (first | apply Kd.R_alloc | apply Kd.R_drewN | apply Kd.R_drew)); exact HO_4.out)) k_ hk)); (case aO => exact (by (with_reducible repeat (first | apply Kd.R_alloc | apply Kd.R_drewN | apply Kd.R_drew)); exact HO_5.out)); (case aS => exact (below_size (hb1_ HB.out GE796.out))); (case aL => have := LMc21.out; omega); intro v805 w24 ho hb hg hat; rw [← Ny804.out] at ho; have n0_ := Aside0.mk (Kd.R_after (ok := (fun _ => True)) (by (with_reducible repeat (first | apply Kd.R_alloc | apply Kd.R_drewN | apply Kd.R_drew)); exact Kd.R_mono HO_4.out (fun _ hk => ⟨trivial, hk⟩)) hg hat); have n1_ := Aside0.mk (blk_grown (g := gb796) (o := .cells #[.bool t791, .int .i64 t792] 66 (0, 0)) (bk_ BK796.out) hg (Kd.R_ne HO_5.out BK796.out (by decide))); have n2_ := Aside0.mk (hb); have n3_ := Aside0.mk (ho); clear HO_4; clear BK796; clear HB; clear HO_5; have HO_4 := n0_; have BK796 := n1_; have HB := n2_; have HO806 := n3_; clear n0_ n1_ n2_ n3_; clear ho hb hg hat)))
                        go_roundg kj9
                        case measure => have := HK1.out; have := HJ9.out; omega
                        case rel => exact ⟨(y804), (wrap64 (x6_1 + 1)), (by first | rfl | (simp; done) | (simp [*]; done)), H', ⟨by have := HK1.out; have := HJ9.out; omega⟩, ⟨by (with_reducible repeat (first | apply Kd.R_alloc | apply Kd.R_drewN | apply Kd.R_drew)); exact Kd.R_mono HO_4.out (fun _ hk => hk.2)⟩, ⟨by (with_reducible repeat (first | apply Kd.R_alloc | apply Kd.R_drewN | apply Kd.R_drew)); exact HO806.out⟩, ⟨bk_ BK796.out⟩, ⟨hb1_ HB.out GE796.out⟩⟩
                      · rw [if_neg c21] at H
                        exact absurd H (by simp)
                    · replace c20 := Bool.eq_false_iff.mpr c20
                      subst c20
                      have H1 : (laws_FnReadings.l0 kj9 t793 x5_1 (wrap64 (x6_1 + 1))) = some r := by rw [if_neg (show ¬ (false = true) by decide)] at H; exact H
                      clear H
                      have H := H1
                      clear H1
                      have H' := Aside0.mk H
                      clear H
                      obtain ⟨Ao25, co25, eo25⟩ := Kd.R_slice HO_4.out
                      subst eo25
                      have p800 : 0 ≤ (x6_1 : Int) := of_decide_eq_true (by first | (with_reducible assumption) | assumption)
                      have q800 : x6_1 < (t793.length : Int) := of_decide_eq_true (by first | (with_reducible assumption) | assumption)
                      obtain ⟨ad800, e800, hx800_0, hx800_1, hx800_2⟩ := at_T83 (Kd.R_reads' HO_4.out).2.2 x6_1 p800 q800
                      (try rw [← Nbq17.out] at hx800_0)
                      cases e800
                      replace p800 := eq_true p800
                      replace q800 := eq_true q800
                      have p801 : 0 ≤ (x6_1 : Int) := of_decide_eq_true (by first | (with_reducible assumption) | assumption)
                      have q801 : x6_1 < (t793.length : Int) := of_decide_eq_true (by first | (with_reducible assumption) | assumption)
                      obtain ⟨ad801, e801, hx801_0, hx801_1, hx801_2⟩ := at_T83 (Kd.R_reads' HO_4.out).2.2 x6_1 p801 q801
                      (try rw [← Nbq17.out] at hx801_0)
                      obtain rfl : ad800 = ad801 := (by injection e801)
                      replace p801 := eq_true p801
                      replace q801 := eq_true q801
                      go_wp2_with (first | (go_at_call 49; (with_reducible refine (spec_IvalOk.calls ((rd_T83 t793 x6_1).f1.f0) ((rd_T83 t793 x6_1).f1.f1) false _ A19.out).mono ?_); rintro e w26 ⟨rfl, hb⟩; have n0_ := Aside0.mk (Kd.R_below (by (with_reducible repeat (first | apply Kd.R_alloc | apply Kd.R_drewN | apply Kd.R_drew)); exact HO_4.out) hb); have n1_ := Aside0.mk (Kd.R_below (by (with_reducible repeat (first | apply Kd.R_alloc | apply Kd.R_drewN | apply Kd.R_drew)); exact HO_5.out) hb); have n2_ := Aside0.mk (bb_ BK796.out hb); have n3_ := Aside0.mk (below_step (hb1_ HB.out GE796.out) hb); clear HO_4; clear HO_5; clear BK796; clear HB; have HO_4 := n0_; have HO_5 := n1_; have BK796 := n2_; have HB := n3_; clear n0_ n1_ n2_ n3_; (try clear hb); (try clear hb2); (try clear hk); (try clear hi)))
                      repeat (go_quiet (first | (go_at_call 49; (with_reducible refine (spec_IvalOk.calls ((rd_T83 t793 x6_1).f1.f0) ((rd_T83 t793 x6_1).f1.f1) false _ A19.out).mono ?_); rintro e w26 ⟨rfl, hb⟩; have n0_ := Aside0.mk (Kd.R_below (by (with_reducible repeat (first | apply Kd.R_alloc | apply Kd.R_drewN | apply Kd.R_drew)); exact HO_4.out) hb); have n1_ := Aside0.mk (Kd.R_below (by (with_reducible repeat (first | apply Kd.R_alloc | apply Kd.R_drewN | apply Kd.R_drew)); exact HO_5.out) hb); have n2_ := Aside0.mk (bb_ BK796.out hb); have n3_ := Aside0.mk (below_step (hb1_ HB.out GE796.out) hb); clear HO_4; clear HO_5; clear BK796; clear HB; have HO_4 := n0_; have HO_5 := n1_; have BK796 := n2_; have HB := n3_; clear n0_ n1_ n2_ n3_; (try clear hb); (try clear hb2); (try clear hk); (try clear hi))); try go_wp2_with (first | (go_at_call 49; (with_reducible refine (spec_IvalOk.calls ((rd_T83 t793 x6_1).f1.f0) ((rd_T83 t793 x6_1).f1.f1) false _ A19.out).mono ?_); rintro e w26 ⟨rfl, hb⟩; have n0_ := Aside0.mk (Kd.R_below (by (with_reducible repeat (first | apply Kd.R_alloc | apply Kd.R_drewN | apply Kd.R_drew)); exact HO_4.out) hb); have n1_ := Aside0.mk (Kd.R_below (by (with_reducible repeat (first | apply Kd.R_alloc | apply Kd.R_drewN | apply Kd.R_drew)); exact HO_5.out) hb); have n2_ := Aside0.mk (bb_ BK796.out hb); have n3_ := Aside0.mk (below_step (hb1_ HB.out GE796.out) hb); clear HO_4; clear HO_5; clear BK796; clear HB; have HO_4 := n0_; have HO_5 := n1_; have BK796 := n2_; have HB := n3_; clear n0_ n1_ n2_ n3_; (try clear hb); (try clear hb2); (try clear hk); (try clear hi))))
                      go_roundg kj9
                      case measure => have := HK1.out; have := HJ9.out; omega
                      case rel => exact ⟨(x5_1), (wrap64 (x6_1 + 1)), (by first | rfl | (simp; done) | (simp [*]; done)), H', ⟨by have := HK1.out; have := HJ9.out; omega⟩, ⟨by (with_reducible repeat (first | apply Kd.R_alloc | apply Kd.R_drewN | apply Kd.R_drew)); exact HO_4.out⟩, ⟨by (with_reducible repeat (first | apply Kd.R_alloc | apply Kd.R_drewN | apply Kd.R_drew)); exact HO_5.out⟩, ⟨bk_ BK796.out⟩, ⟨hb1_ HB.out GE796.out⟩⟩
                  · replace c18 := Bool.eq_false_iff.mpr c18
                    subst c18
                    have H1 : (if x5_1.length < 5864062014805 then (laws_FnReadings.l0 kj9 t793 (x5_1 ++ [(⟨false, (⟨(rd_T83 t793 x6_1).f1.f0, (rd_T83 t793 x6_1).f1.f1⟩ : S81)⟩ : S83)]) (wrap64 (x6_1 + 1))) else (none)) = some r := by rw [if_neg (show ¬ (false = true) by decide)] at H; exact H
                    clear H
                    have H := H1
                    clear H1
                    by_cases c27 : x5_1.length < 5864062014805
                    · rw [if_pos c27] at H
                      have LMc27 := Aside0.mk c27
                      clear c27
                      obtain ⟨y808, hy808⟩ : ∃ y_ : List (S83), y_ = (x5_1 ++ [(⟨false, (⟨(rd_T83 t793 x6_1).f1.f0, (rd_T83 t793 x6_1).f1.f1⟩ : S81)⟩ : S83)]) := ⟨_, rfl⟩
                      replace H : (laws_FnReadings.l0 kj9 t793 y808 (wrap64 (x6_1 + 1))) = some r := by first | (rw [hy808]; with_reducible exact H) | (have H2_ := (Option.bind_some _ _).symm.trans H; rw [hy808]; with_reducible exact H2_) | (have H2_ := (Option.bind_some _ _).symm.trans H; with_reducible exact H2_) | with_reducible exact H | (rw [hy808]; exact H) | exact H
                      have Ny808 := Aside0.mk hy808
                      clear hy808
                      have H' := Aside0.mk H
                      clear H
                      obtain ⟨Ao28, co28, eo28⟩ := Kd.R_slice HO_4.out
                      subst eo28
                      have p800 : 0 ≤ (x6_1 : Int) := of_decide_eq_true (by first | (with_reducible assumption) | assumption)
                      have q800 : x6_1 < (t793.length : Int) := of_decide_eq_true (by first | (with_reducible assumption) | assumption)
                      obtain ⟨ad800, e800, hx800_0, hx800_1, hx800_2⟩ := at_T83 (Kd.R_reads' HO_4.out).2.2 x6_1 p800 q800
                      (try rw [← Nbq17.out] at hx800_0)
                      cases e800
                      replace p800 := eq_true p800
                      replace q800 := eq_true q800
                      have p807 : 0 ≤ (x6_1 : Int) := of_decide_eq_true (by first | (with_reducible assumption) | assumption)
                      have q807 : x6_1 < (t793.length : Int) := of_decide_eq_true (by first | (with_reducible assumption) | assumption)
                      obtain ⟨ad807, e807, hx807_0, hx807_1, hx807_2⟩ := at_T83 (Kd.R_reads' HO_4.out).2.2 x6_1 p807 q807
                      (try rw [← Nbq17.out] at hx807_0)
                      obtain rfl : ad800 = ad807 := (by injection e807)
                      replace p807 := eq_true p807
                      replace q807 := eq_true q807
                      go_wp2_with (first | ((with_reducible refine gate_builtin (b := .append) (xs := #[.tmp 44, .tmp 49]) rfl ?_); at_builtin; refine Kd.R_append k83 (w0 := w) w.heap.size rfl (.tmp 44) (.tmp 49) 70 83 (.agg #[(.bool false), (.int .i64 0), (.int .i64 0)]) 24 rfl Try.underlying70 info83 rfl (by decide) (by omega) u5 x5_1 (⟨false, (⟨(rd_T83 t793 x6_1).f1.f0, (rd_T83 t793 x6_1).f1.f1⟩ : S81)⟩ : S83) [.bool false, .int .i64 ((rd_T83 t793 x6_1).f1.f0), .int .i64 ((rd_T83 t793 x6_1).f1.f1)] (fun k_ => some k_ ≠ (.slice (some ad800) t793.length co28 : Value).ownBlock) (fun _ => False) rfl rfl ?aP (fun _ hk => hk.elim) ?aF ?aO ?aB ?aS ?aL ?_; (case aP => exact k83_mkM _ _ _ (⟨false, (⟨(rd_T83 t793 x6_1).f1.f0, (rd_T83 t793 x6_1).f1.f1⟩ : S81)⟩ : S83)); (case aB => exact (hb1_ HB.out GE796.out)); (case aF => exact (fun k_ hk => Kd.fresh' (Kd.R_lt (by (with_reducible repeat (first | apply Kd.R_alloc | apply Kd.R_drewN | apply Kd.R_drew)); exact HO_4.out)) k_ hk)); (case aO => exact (by (with_reducible repeat (first | apply Kd.R_alloc | apply Kd.R_drewN | apply Kd.R_drew)); exact HO_5.out)); (case aS => exact (below_size (hb1_ HB.out GE796.out))); (case aL => have := LMc27.out; omega); intro v809 w29 ho hb hg hat; rw [← Ny808.out] at ho; have n0_ := Aside0.mk (Kd.R_after (ok := (fun _ => True)) (by (with_reducible repeat (first | apply Kd.R_alloc | apply Kd.R_drewN | apply Kd.R_drew)); exact Kd.R_mono HO_4.out (fun _ hk => ⟨trivial, hk⟩)) hg hat); have n1_ := Aside0.mk (blk_grown (g := gb796) (o := .cells #[.bool t791, .int .i64 t792] 66 (0, 0)) (bk_ BK796.out) hg (Kd.R_ne HO_5.out BK796.out (by decide))); have n2_ := Aside0.mk (hb); have n3_ := Aside0.mk (ho); clear HO_4; clear BK796; clear HB; clear HO_5; have HO_4 := n0_; have BK796 := n1_; have HB := n2_; have HO810 := n3_; clear n0_ n1_ n2_ n3_; clear ho hb hg hat))
                      repeat (go_quiet (first | ((with_reducible refine gate_builtin (b := .append) (xs := #[.tmp 44, .tmp 49]) rfl ?_); at_builtin; refine Kd.R_append k83 (w0 := w) w.heap.size rfl (.tmp 44) (.tmp 49) 70 83 (.agg #[(.bool false), (.int .i64 0), (.int .i64 0)]) 24 rfl Try.underlying70 info83 rfl (by decide) (by omega) u5 x5_1 (⟨false, (⟨(rd_T83 t793 x6_1).f1.f0, (rd_T83 t793 x6_1).f1.f1⟩ : S81)⟩ : S83) [.bool false, .int .i64 ((rd_T83 t793 x6_1).f1.f0), .int .i64 ((rd_T83 t793 x6_1).f1.f1)] (fun k_ => some k_ ≠ (.slice (some ad800) t793.length co28 : Value).ownBlock) (fun _ => False) rfl rfl ?aP (fun _ hk => hk.elim) ?aF ?aO ?aB ?aS ?aL ?_; (case aP => exact k83_mkM _ _ _ (⟨false, (⟨(rd_T83 t793 x6_1).f1.f0, (rd_T83 t793 x6_1).f1.f1⟩ : S81)⟩ : S83)); (case aB => exact (hb1_ HB.out GE796.out)); (case aF => exact (fun k_ hk => Kd.fresh' (Kd.R_lt (by (with_reducible repeat (first | apply Kd.R_alloc | apply Kd.R_drewN | apply Kd.R_drew)); exact HO_4.out)) k_ hk)); (case aO => exact (by (with_reducible repeat (first | apply Kd.R_alloc | apply Kd.R_drewN | apply Kd.R_drew)); exact HO_5.out)); (case aS => exact (below_size (hb1_ HB.out GE796.out))); (case aL => have := LMc27.out; omega); intro v809 w29 ho hb hg hat; rw [← Ny808.out] at ho; have n0_ := Aside0.mk (Kd.R_after (ok := (fun _ => True)) (by (with_reducible repeat (first | apply Kd.R_alloc | apply Kd.R_drewN | apply Kd.R_drew)); exact Kd.R_mono HO_4.out (fun _ hk => ⟨trivial, hk⟩)) hg hat); have n1_ := Aside0.mk (blk_grown (g := gb796) (o := .cells #[.bool t791, .int .i64 t792] 66 (0, 0)) (bk_ BK796.out) hg (Kd.R_ne HO_5.out BK796.out (by decide))); have n2_ := Aside0.mk (hb); have n3_ := Aside0.mk (ho); clear HO_4; clear BK796; clear HB; clear HO_5; have HO_4 := n0_; have BK796 := n1_; have HB := n2_; have HO810 := n3_; clear n0_ n1_ n2_ n3_; clear ho hb hg hat)); try go_wp2_with (first | ((with_reducible refine gate_builtin (b := .append) (xs := #[.tmp 44, .tmp 49]) rfl ?_); at_builtin; refine Kd.R_append k83 (w0 := w) w.heap.size rfl (.tmp 44) (.tmp 49) 70 83 (.agg #[(.bool false), (.int .i64 0), (.int .i64 0)]) 24 rfl Try.underlying70 info83 rfl (by decide) (by omega) u5 x5_1 (⟨false, (⟨(rd_T83 t793 x6_1).f1.f0, (rd_T83 t793 x6_1).f1.f1⟩ : S81)⟩ : S83) [.bool false, .int .i64 ((rd_T83 t793 x6_1).f1.f0), .int .i64 ((rd_T83 t793 x6_1).f1.f1)] (fun k_ => some k_ ≠ (.slice (some ad800) t793.length co28 : Value).ownBlock) (fun _ => False) rfl rfl ?aP (fun _ hk => hk.elim) ?aF ?aO ?aB ?aS ?aL ?_; (case aP => exact k83_mkM _ _ _ (⟨false, (⟨(rd_T83 t793 x6_1).f1.f0, (rd_T83 t793 x6_1).f1.f1⟩ : S81)⟩ : S83)); (case aB => exact (hb1_ HB.out GE796.out)); (case aF => exact (fun k_ hk => Kd.fresh' (Kd.R_lt (by (with_reducible repeat (first | apply Kd.R_alloc | apply Kd.R_drewN | apply Kd.R_drew)); exact HO_4.out)) k_ hk)); (case aO => exact (by (with_reducible repeat (first | apply Kd.R_alloc | apply Kd.R_drewN | apply Kd.R_drew)); exact HO_5.out)); (case aS => exact (below_size (hb1_ HB.out GE796.out))); (case aL => have := LMc27.out; omega); intro v809 w29 ho hb hg hat; rw [← Ny808.out] at ho; have n0_ := Aside0.mk (Kd.R_after (ok := (fun _ => True)) (by (with_reducible repeat (first | apply Kd.R_alloc | apply Kd.R_drewN | apply Kd.R_drew)); exact Kd.R_mono HO_4.out (fun _ hk => ⟨trivial, hk⟩)) hg hat); have n1_ := Aside0.mk (blk_grown (g := gb796) (o := .cells #[.bool t791, .int .i64 t792] 66 (0, 0)) (bk_ BK796.out) hg (Kd.R_ne HO_5.out BK796.out (by decide))); have n2_ := Aside0.mk (hb); have n3_ := Aside0.mk (ho); clear HO_4; clear BK796; clear HB; clear HO_5; have HO_4 := n0_; have BK796 := n1_; have HB := n2_; have HO810 := n3_; clear n0_ n1_ n2_ n3_; clear ho hb hg hat)))
                      go_roundg kj9
                      case measure => have := HK1.out; have := HJ9.out; omega
                      case rel => exact ⟨(y808), (wrap64 (x6_1 + 1)), (by first | rfl | (simp; done) | (simp [*]; done)), H', ⟨by have := HK1.out; have := HJ9.out; omega⟩, ⟨by (with_reducible repeat (first | apply Kd.R_alloc | apply Kd.R_drewN | apply Kd.R_drew)); exact Kd.R_mono HO_4.out (fun _ hk => hk.2)⟩, ⟨by (with_reducible repeat (first | apply Kd.R_alloc | apply Kd.R_drewN | apply Kd.R_drew)); exact HO810.out⟩, ⟨bk_ BK796.out⟩, ⟨hb1_ HB.out GE796.out⟩⟩
                    · rw [if_neg c27] at H
                      exact absurd H (by simp)
                · rw [if_neg c16] at H
                  exact absurd H (by simp)
              · rw [if_neg c15] at H
                exact absurd H (by simp)
            · replace c14 := Bool.eq_false_iff.mpr c14
              subst c14
              have H1 : ((impl_AppRun.f kj9 false 0 x5_1).bind fun bt811 => (if (bt811.1.length : Int) = (x5_1.length : Int) then ((impl_ReadsOk.f kj9 x5_1 bt811.1).bind fun t817 => (if t817 = true then ((impl_AppOk.f bt811.2.1 bt811.2.2).bind fun t818 => (laws_FnReadings.j2 kj9 bt811.1 (!t818) bt811.2.1 bt811.2.2)) else (laws_FnReadings.j2 kj9 bt811.1 true bt811.2.1 bt811.2.2))) else (laws_FnReadings.j2 kj9 bt811.1 true bt811.2.1 bt811.2.2))) = some r := by rw [if_neg (show ¬ (false = true) by decide)] at H; exact H
              clear H
              have H := H1
              clear H1
              replace H := Option.bind_eq_some_iff.mp H
              obtain ⟨⟨t811, t814, t815⟩, A300, H⟩ := H
              replace H : (if (t811.length : Int) = (x5_1.length : Int) then ((impl_ReadsOk.f kj9 x5_1 t811).bind fun t817 => (if t817 = true then ((impl_AppOk.f t814 t815).bind fun t818 => (laws_FnReadings.j2 kj9 t811 (!t818) t814 t815)) else (laws_FnReadings.j2 kj9 t811 true t814 t815))) else (laws_FnReadings.j2 kj9 t811 true t814 t815)) = some r := H
              have A30 := Aside0.mk A300
              clear A300
              have HC31 := Aside0.mk H
              clear H
              obtain ⟨Ao32, co32, eo32⟩ := Kd.R_slice HO_5.out
              subst eo32
              go_upto_region 11 with (first | (go_at_call 41; (with_reducible refine (impl_AppRun.calls kj9 false 0 _ _ x5_1 t811 t814 t815 _ ?side1 ?side2 A30.out).mono ?_); (case side1 => repeat (first | exact (Kd.R_reads' HO_5.out).2.2 | (with_reducible refine Kd.C_alloc ?_ _) | (with_reducible refine Kd.C_drewN ?_ _) | (with_reducible refine Kd.C_drew ?_))); (case side2 => exact (Kd.R_reads' HO_5.out).2.1); rintro e w33 ⟨v812, rfl, ho0, hb⟩; have n0_ := Aside0.mk (Kd.R_below (by (with_reducible repeat (first | apply Kd.R_alloc | apply Kd.R_drewN | apply Kd.R_drew)); exact HO_4.out) hb); have n1_ := Aside0.mk (Kd.R_below (by (with_reducible repeat (first | apply Kd.R_alloc | apply Kd.R_drewN | apply Kd.R_drew)); exact HO_5.out) hb); have n2_ := Aside0.mk (Kd.R_lower ho0 (below_size (hb1_ HB.out GE796.out))); have n3_ := Aside0.mk (bb_ BK796.out hb); have n4_ := Aside0.mk (below_step (hb1_ HB.out GE796.out) hb); clear HO_4; clear HO_5; clear BK796; clear HB; have HO_4 := n0_; have HO_5 := n1_; have HO813 := n2_; have BK796 := n3_; have HB := n4_; clear n0_ n1_ n2_ n3_ n4_; (try clear hb); (try clear hb2); (try clear hk); (try clear hi); (try clear ho0)) | ((with_reducible refine gate_dst (N := 8) rfl ?_); refine box_event ?hg (N := 8) ?hd (cs := #[.bool false, .int .i64 0]) (t := 66) ?hr ?_; (case hd => rfl); (case hg => rfl); (case hr => first | (go_simp; done) | (go_simp; rfl)); intro gb816 hg w34 hbox hb; have n0_ := Aside0.mk (Kd.R_below (by (with_reducible repeat (first | apply Kd.R_alloc | apply Kd.R_drewN | apply Kd.R_drew)); exact HO_4.out) hb); have n1_ := Aside0.mk (Kd.R_below (by (with_reducible repeat (first | apply Kd.R_alloc | apply Kd.R_drewN | apply Kd.R_drew)); exact HO_5.out) hb); have n2_ := Aside0.mk (Kd.R_below (by (with_reducible repeat (first | apply Kd.R_alloc | apply Kd.R_drewN | apply Kd.R_drew)); exact HO813.out) hb); have n3_ := Aside0.mk (bb_ BK796.out hb); have n4_ := Aside0.mk (below_step (hb1_ HB.out GE796.out) hb); have n5_ := Aside0.mk (hbox); have n6_ := Aside0.mk ((by rw [hg]; exact (below_size (hb1_ HB.out GE796.out)) : w.heap.size ≤ gb816)); have n7_ := Aside0.mk ((by rw [hg]; exact (below_size (hb1_ HB.out GE796.out)) : w.heap.size ≤ gb816)); have n8_ := Aside0.mk ((bl_ hg BK796.out : gb796 ≠ gb816)); have n9_ := Aside0.mk ((bg_ hg BK796.out : gb816 ≠ gb796)); clear HO_4; clear HO_5; clear HO813; clear BK796; clear HB; have HO_4 := n0_; have HO_5 := n1_; have HO813 := n2_; have BK796 := n3_; have HB := n4_; have BK816 := n5_; have GW816 := n6_; have GE816 := n7_; have NB796_816 := n8_; have NB816_796 := n9_; clear n0_ n1_ n2_ n3_ n4_ n5_ n6_ n7_ n8_ n9_; clear hb hbox hg; have hnb35 := NB816_796.out; have hnc35 := NB796_816.out; have hcz36_0 := bc_ BK816.out 0 (.bool false) rfl; have hcz36_1 := bc_ BK816.out 1 (.int .i64 0) rfl; have hfz36_0 := blk_frozen BK816.out 0; have hfz36_1 := blk_frozen BK816.out 1))
              repeat (go_quiet (first | (go_at_call 41; (with_reducible refine (impl_AppRun.calls kj9 false 0 _ _ x5_1 t811 t814 t815 _ ?side1 ?side2 A30.out).mono ?_); (case side1 => repeat (first | exact (Kd.R_reads' HO_5.out).2.2 | (with_reducible refine Kd.C_alloc ?_ _) | (with_reducible refine Kd.C_drewN ?_ _) | (with_reducible refine Kd.C_drew ?_))); (case side2 => exact (Kd.R_reads' HO_5.out).2.1); rintro e w33 ⟨v812, rfl, ho0, hb⟩; have n0_ := Aside0.mk (Kd.R_below (by (with_reducible repeat (first | apply Kd.R_alloc | apply Kd.R_drewN | apply Kd.R_drew)); exact HO_4.out) hb); have n1_ := Aside0.mk (Kd.R_below (by (with_reducible repeat (first | apply Kd.R_alloc | apply Kd.R_drewN | apply Kd.R_drew)); exact HO_5.out) hb); have n2_ := Aside0.mk (Kd.R_lower ho0 (below_size (hb1_ HB.out GE796.out))); have n3_ := Aside0.mk (bb_ BK796.out hb); have n4_ := Aside0.mk (below_step (hb1_ HB.out GE796.out) hb); clear HO_4; clear HO_5; clear BK796; clear HB; have HO_4 := n0_; have HO_5 := n1_; have HO813 := n2_; have BK796 := n3_; have HB := n4_; clear n0_ n1_ n2_ n3_ n4_; (try clear hb); (try clear hb2); (try clear hk); (try clear hi); (try clear ho0)) | ((with_reducible refine gate_dst (N := 8) rfl ?_); refine box_event ?hg (N := 8) ?hd (cs := #[.bool false, .int .i64 0]) (t := 66) ?hr ?_; (case hd => rfl); (case hg => rfl); (case hr => first | (go_simp; done) | (go_simp; rfl)); intro gb816 hg w34 hbox hb; have n0_ := Aside0.mk (Kd.R_below (by (with_reducible repeat (first | apply Kd.R_alloc | apply Kd.R_drewN | apply Kd.R_drew)); exact HO_4.out) hb); have n1_ := Aside0.mk (Kd.R_below (by (with_reducible repeat (first | apply Kd.R_alloc | apply Kd.R_drewN | apply Kd.R_drew)); exact HO_5.out) hb); have n2_ := Aside0.mk (Kd.R_below (by (with_reducible repeat (first | apply Kd.R_alloc | apply Kd.R_drewN | apply Kd.R_drew)); exact HO813.out) hb); have n3_ := Aside0.mk (bb_ BK796.out hb); have n4_ := Aside0.mk (below_step (hb1_ HB.out GE796.out) hb); have n5_ := Aside0.mk (hbox); have n6_ := Aside0.mk ((by rw [hg]; exact (below_size (hb1_ HB.out GE796.out)) : w.heap.size ≤ gb816)); have n7_ := Aside0.mk ((by rw [hg]; exact (below_size (hb1_ HB.out GE796.out)) : w.heap.size ≤ gb816)); have n8_ := Aside0.mk ((bl_ hg BK796.out : gb796 ≠ gb816)); have n9_ := Aside0.mk ((bg_ hg BK796.out : gb816 ≠ gb796)); clear HO_4; clear HO_5; clear HO813; clear BK796; clear HB; have HO_4 := n0_; have HO_5 := n1_; have HO813 := n2_; have BK796 := n3_; have HB := n4_; have BK816 := n5_; have GW816 := n6_; have GE816 := n7_; have NB796_816 := n8_; have NB816_796 := n9_; clear n0_ n1_ n2_ n3_ n4_ n5_ n6_ n7_ n8_ n9_; clear hb hbox hg; have hnb35 := NB816_796.out; have hnc35 := NB796_816.out; have hcz36_0 := bc_ BK816.out 0 (.bool false) rfl; have hcz36_1 := bc_ BK816.out 1 (.int .i64 0) rfl; have hfz36_0 := blk_frozen BK816.out 0; have hfz36_1 := blk_frozen BK816.out 1)); go_upto_region 11 with (first | (go_at_call 41; (with_reducible refine (impl_AppRun.calls kj9 false 0 _ _ x5_1 t811 t814 t815 _ ?side1 ?side2 A30.out).mono ?_); (case side1 => repeat (first | exact (Kd.R_reads' HO_5.out).2.2 | (with_reducible refine Kd.C_alloc ?_ _) | (with_reducible refine Kd.C_drewN ?_ _) | (with_reducible refine Kd.C_drew ?_))); (case side2 => exact (Kd.R_reads' HO_5.out).2.1); rintro e w33 ⟨v812, rfl, ho0, hb⟩; have n0_ := Aside0.mk (Kd.R_below (by (with_reducible repeat (first | apply Kd.R_alloc | apply Kd.R_drewN | apply Kd.R_drew)); exact HO_4.out) hb); have n1_ := Aside0.mk (Kd.R_below (by (with_reducible repeat (first | apply Kd.R_alloc | apply Kd.R_drewN | apply Kd.R_drew)); exact HO_5.out) hb); have n2_ := Aside0.mk (Kd.R_lower ho0 (below_size (hb1_ HB.out GE796.out))); have n3_ := Aside0.mk (bb_ BK796.out hb); have n4_ := Aside0.mk (below_step (hb1_ HB.out GE796.out) hb); clear HO_4; clear HO_5; clear BK796; clear HB; have HO_4 := n0_; have HO_5 := n1_; have HO813 := n2_; have BK796 := n3_; have HB := n4_; clear n0_ n1_ n2_ n3_ n4_; (try clear hb); (try clear hb2); (try clear hk); (try clear hi); (try clear ho0)) | ((with_reducible refine gate_dst (N := 8) rfl ?_); refine box_event ?hg (N := 8) ?hd (cs := #[.bool false, .int .i64 0]) (t := 66) ?hr ?_; (case hd => rfl); (case hg => rfl); (case hr => first | (go_simp; done) | (go_simp; rfl)); intro gb816 hg w34 hbox hb; have n0_ := Aside0.mk (Kd.R_below (by (with_reducible repeat (first | apply Kd.R_alloc | apply Kd.R_drewN | apply Kd.R_drew)); exact HO_4.out) hb); have n1_ := Aside0.mk (Kd.R_below (by (with_reducible repeat (first | apply Kd.R_alloc | apply Kd.R_drewN | apply Kd.R_drew)); exact HO_5.out) hb); have n2_ := Aside0.mk (Kd.R_below (by (with_reducible repeat (first | apply Kd.R_alloc | apply Kd.R_drewN | apply Kd.R_drew)); exact HO813.out) hb); have n3_ := Aside0.mk (bb_ BK796.out hb); have n4_ := Aside0.mk (below_step (hb1_ HB.out GE796.out) hb); have n5_ := Aside0.mk (hbox); have n6_ := Aside0.mk ((by rw [hg]; exact (below_size (hb1_ HB.out GE796.out)) : w.heap.size ≤ gb816)); have n7_ := Aside0.mk ((by rw [hg]; exact (below_size (hb1_ HB.out GE796.out)) : w.heap.size ≤ gb816)); have n8_ := Aside0.mk ((bl_ hg BK796.out : gb796 ≠ gb816)); have n9_ := Aside0.mk ((bg_ hg BK796.out : gb816 ≠ gb796)); clear HO_4; clear HO_5; clear HO813; clear BK796; clear HB; have HO_4 := n0_; have HO_5 := n1_; have HO813 := n2_; have BK796 := n3_; have HB := n4_; have BK816 := n5_; have GW816 := n6_; have GE816 := n7_; have NB796_816 := n8_; have NB816_796 := n9_; clear n0_ n1_ n2_ n3_ n4_ n5_ n6_ n7_ n8_ n9_; clear hb hbox hg; have hnb35 := NB816_796.out; have hnc35 := NB796_816.out; have hcz36_0 := bc_ BK816.out 0 (.bool false) rfl; have hcz36_1 := bc_ BK816.out 1 (.int .i64 0) rfl; have hfz36_0 := blk_frozen BK816.out 0; have hfz36_1 := blk_frozen BK816.out 1)))
              (try simp only [Act.put, List.setIfInBounds_toArray, List.set_cons_zero, List.set_cons_succ])
              go_cut [72] (fun v72 wc => ∃ (kq : Nat) (x72_30 : Bool), v72 = .bool x72_30 ∧ Aside0 (laws_FnReadings.j2 kq t811 x72_30 t814 t815 = some r) ∧ Aside0 (kq ≤ kj9) ∧ Aside0 (Kd.R k88 88 wc w.heap.size (fun _ => True) v812 t811) ∧ Aside0 (wc.heap[gb796]? = some (.cells #[.bool t791, .int .i64 t792] 66 (0, 0))) ∧ Aside0 (wc.heap[gb816]? = some (.cells #[.bool t814, .int .i64 t815] 66 (0, 0))) ∧ Aside0 (Below w.heap.size w wc))
              case first =>
                have H := HC31.out
                clear HC31
                by_cases c37 : (t811.length : Int) = (x5_1.length : Int)
                · rw [if_pos c37] at H
                  have c37b0 : ((t811.length : Int) == (x5_1.length : Int)) = true := beq_iff_eq.mpr c37
                  have c37b1 : ((t811.length : Int) != (x5_1.length : Int)) = false := bne_eq_false_iff_eq.mpr c37
                  have c37b2 : (t811.length == x5_1.length) = true := by first | simpa using c37 | (simp at c37 ⊢; omega)
                  clear c37
                  (first | rw [c37b0] | (simp only [i64_w, i32_w]; rw [c37b0]) | skip)
                  replace H := Option.bind_eq_some_iff.mp H
                  obtain ⟨t817, A380, H⟩ := H
                  replace H : (if t817 = true then ((impl_AppOk.f t814 t815).bind fun t818 => (laws_FnReadings.j2 kj9 t811 (!t818) t814 t815)) else (laws_FnReadings.j2 kj9 t811 true t814 t815)) = some r := H
                  have A38 := Aside0.mk A380
                  clear A380
                  by_cases c39 : t817 = true
                  · subst c39
                    have H1 : ((impl_AppOk.f t814 t815).bind fun t818 => (laws_FnReadings.j2 kj9 t811 (!t818) t814 t815)) = some r := by rw [if_pos rfl] at H; exact H
                    clear H
                    have H := H1
                    clear H1
                    replace H := Option.bind_eq_some_iff.mp H
                    obtain ⟨t818, A400, H⟩ := H
                    replace H : (laws_FnReadings.j2 kj9 t811 (!t818) t814 t815) = some r := H
                    have A40 := Aside0.mk A400
                    clear A400
                    have H' := Aside0.mk H
                    clear H
                    obtain ⟨Ao41, co41, eo41⟩ := Kd.R_slice HO813.out
                    subst eo41
                    go_wp2_with (first | (go_at_call 50; (with_reducible refine (impl_ReadsOk.calls kj9 _ _ x5_1 _ _ t811 true _ ?side1 ?side2 ?side3 ?side4 A38.out).mono ?_); (case side1 => refine (Kd.R_reads' (e := 83) (base := w.heap.size) (ok := fun k_ => some k_ ≠ (v794 : Value).ownBlock) (n := x5_1.length) (c := co32) ?_).2.2; exact (by (with_reducible repeat (first | apply Kd.R_alloc | apply Kd.R_drewN | apply Kd.R_drew)); exact (Kd.R_mono (Kd.R_far (p := ⟨gb816, 1, none⟩) (Kd.R_far (p := ⟨gb816, 0, none⟩) (Kd.R_types HO_5.out BK816.out (by decide)) (fun _ hk => hk.2) (.bool t814)) (fun _ hk => hk.2) (.int .i64 t815)) (fun _ h_ => h_.1)))); (case side2 => exact (Kd.R_reads' HO_5.out).2.1); (case side3 => refine (Kd.R_reads' (e := 88) (base := w.heap.size) (ok := fun k_ => True) (n := t811.length) (c := co41) ?_).2.2; exact (by (with_reducible repeat (first | apply Kd.R_alloc | apply Kd.R_drewN | apply Kd.R_drew)); exact (Kd.R_mono (Kd.R_far (p := ⟨gb816, 1, none⟩) (Kd.R_far (p := ⟨gb816, 0, none⟩) (Kd.R_types HO813.out BK816.out (by decide)) (fun _ hk => hk.2) (.bool t814)) (fun _ hk => hk.2) (.int .i64 t815)) (fun _ h_ => h_.1)))); (case side4 => exact (Kd.R_reads' HO813.out).2.1); rintro e w42 ⟨rfl, hb⟩; have n0_ := Aside0.mk (Kd.R_below (by (with_reducible repeat (first | apply Kd.R_alloc | apply Kd.R_drewN | apply Kd.R_drew)); exact (Kd.R_mono (Kd.R_far (p := ⟨gb816, 1, none⟩) (Kd.R_far (p := ⟨gb816, 0, none⟩) (Kd.R_types HO_4.out BK816.out (by decide)) (fun _ hk => hk.2) (.bool t814)) (fun _ hk => hk.2) (.int .i64 t815)) (fun _ h_ => h_.1))) hb); have n1_ := Aside0.mk (Kd.R_below (by (with_reducible repeat (first | apply Kd.R_alloc | apply Kd.R_drewN | apply Kd.R_drew)); exact (Kd.R_mono (Kd.R_far (p := ⟨gb816, 1, none⟩) (Kd.R_far (p := ⟨gb816, 0, none⟩) (Kd.R_types HO_5.out BK816.out (by decide)) (fun _ hk => hk.2) (.bool t814)) (fun _ hk => hk.2) (.int .i64 t815)) (fun _ h_ => h_.1))) hb); have n2_ := Aside0.mk (Kd.R_below (by (with_reducible repeat (first | apply Kd.R_alloc | apply Kd.R_drewN | apply Kd.R_drew)); exact (Kd.R_mono (Kd.R_far (p := ⟨gb816, 1, none⟩) (Kd.R_far (p := ⟨gb816, 0, none⟩) (Kd.R_types HO813.out BK816.out (by decide)) (fun _ hk => hk.2) (.bool t814)) (fun _ hk => hk.2) (.int .i64 t815)) (fun _ h_ => h_.1))) hb); have n3_ := Aside0.mk (blk_below (g := gb796) (o := .cells #[.bool t791, .int .i64 t792] 66 (0, 0)) (by (with_reducible repeat (first | refine blk_drewN ?_ _ | refine blk_drew ?_ | refine blk_alloc ?_ _)); refine blk_far ?_ NB796_816.out _; (with_reducible repeat (first | refine blk_drewN ?_ _ | refine blk_drew ?_ | refine blk_alloc ?_ _)); refine blk_far ?_ NB796_816.out _; (with_reducible repeat (first | refine blk_drewN ?_ _ | refine blk_drew ?_ | refine blk_alloc ?_ _)); exact BK796.out) hb); have n4_ := Aside0.mk (blk_below (g := gb816) (o := .cells #[.bool t814, .int .i64 t815] 66 (0, 0)) (by (with_reducible repeat (first | refine blk_drewN ?_ _ | refine blk_drew ?_ | refine blk_alloc ?_ _)); refine blk_put (cs := #[.bool t814, .int .i64 0]) ?_ 1 _ rfl; (with_reducible repeat (first | refine blk_drewN ?_ _ | refine blk_drew ?_ | refine blk_alloc ?_ _)); refine blk_put (cs := #[.bool false, .int .i64 0]) ?_ 0 _ rfl; (with_reducible repeat (first | refine blk_drewN ?_ _ | refine blk_drew ?_ | refine blk_alloc ?_ _)); exact BK816.out) hb); have n5_ := Aside0.mk (below_step (hb2_ HB.out GE796.out GE816.out) hb); clear HO_4; clear HO_5; clear HO813; clear BK796; clear BK816; clear HB; have HO_4 := n0_; have HO_5 := n1_; have HO813 := n2_; have BK796 := n3_; have BK816 := n4_; have HB := n5_; clear n0_ n1_ n2_ n3_ n4_ n5_; (try clear hb); (try clear hb2); (try clear hk); (try clear hi); have hnb43 := NB816_796.out; have hnc43 := NB796_816.out; have hcz44_0 := bc_ BK816.out 0 (.bool t814) rfl; have hcz44_1 := bc_ BK816.out 1 (.int .i64 t815) rfl; have hfz44_0 := blk_frozen BK816.out 0; have hfz44_1 := blk_frozen BK816.out 1) | (go_at_call 51; (with_reducible refine (impl_AppOk.calls t814 t815 t818 _ A40.out).mono ?_); rintro e w45 ⟨rfl, hb⟩; have n0_ := Aside0.mk (Kd.R_below (by (with_reducible repeat (first | apply Kd.R_alloc | apply Kd.R_drewN | apply Kd.R_drew)); exact HO_4.out) hb); have n1_ := Aside0.mk (Kd.R_below (by (with_reducible repeat (first | apply Kd.R_alloc | apply Kd.R_drewN | apply Kd.R_drew)); exact HO_5.out) hb); have n2_ := Aside0.mk (Kd.R_below (by (with_reducible repeat (first | apply Kd.R_alloc | apply Kd.R_drewN | apply Kd.R_drew)); exact HO813.out) hb); have n3_ := Aside0.mk (bb_ BK796.out hb); have n4_ := Aside0.mk (bb_ BK816.out hb); have n5_ := Aside0.mk (below_step (hb2_ HB.out GE796.out GE816.out) hb); clear HO_4; clear HO_5; clear HO813; clear BK796; clear BK816; clear HB; have HO_4 := n0_; have HO_5 := n1_; have HO813 := n2_; have BK796 := n3_; have BK816 := n4_; have HB := n5_; clear n0_ n1_ n2_ n3_ n4_ n5_; (try clear hb); (try clear hb2); (try clear hk); (try clear hi)))
                    repeat (go_quiet (first | (go_at_call 50; (with_reducible refine (impl_ReadsOk.calls kj9 _ _ x5_1 _ _ t811 true _ ?side1 ?side2 ?side3 ?side4 A38.out).mono ?_); (case side1 => refine (Kd.R_reads' (e := 83) (base := w.heap.size) (ok := fun k_ => some k_ ≠ (v794 : Value).ownBlock) (n := x5_1.length) (c := co32) ?_).2.2; exact (by (with_reducible repeat (first | apply Kd.R_alloc | apply Kd.R_drewN | apply Kd.R_drew)); exact (Kd.R_mono (Kd.R_far (p := ⟨gb816, 1, none⟩) (Kd.R_far (p := ⟨gb816, 0, none⟩) (Kd.R_types HO_5.out BK816.out (by decide)) (fun _ hk => hk.2) (.bool t814)) (fun _ hk => hk.2) (.int .i64 t815)) (fun _ h_ => h_.1)))); (case side2 => exact (Kd.R_reads' HO_5.out).2.1); (case side3 => refine (Kd.R_reads' (e := 88) (base := w.heap.size) (ok := fun k_ => True) (n := t811.length) (c := co41) ?_).2.2; exact (by (with_reducible repeat (first | apply Kd.R_alloc | apply Kd.R_drewN | apply Kd.R_drew)); exact (Kd.R_mono (Kd.R_far (p := ⟨gb816, 1, none⟩) (Kd.R_far (p := ⟨gb816, 0, none⟩) (Kd.R_types HO813.out BK816.out (by decide)) (fun _ hk => hk.2) (.bool t814)) (fun _ hk => hk.2) (.int .i64 t815)) (fun _ h_ => h_.1)))); (case side4 => exact (Kd.R_reads' HO813.out).2.1); rintro e w42 ⟨rfl, hb⟩; have n0_ := Aside0.mk (Kd.R_below (by (with_reducible repeat (first | apply Kd.R_alloc | apply Kd.R_drewN | apply Kd.R_drew)); exact (Kd.R_mono (Kd.R_far (p := ⟨gb816, 1, none⟩) (Kd.R_far (p := ⟨gb816, 0, none⟩) (Kd.R_types HO_4.out BK816.out (by decide)) (fun _ hk => hk.2) (.bool t814)) (fun _ hk => hk.2) (.int .i64 t815)) (fun _ h_ => h_.1))) hb); have n1_ := Aside0.mk (Kd.R_below (by (with_reducible repeat (first | apply Kd.R_alloc | apply Kd.R_drewN | apply Kd.R_drew)); exact (Kd.R_mono (Kd.R_far (p := ⟨gb816, 1, none⟩) (Kd.R_far (p := ⟨gb816, 0, none⟩) (Kd.R_types HO_5.out BK816.out (by decide)) (fun _ hk => hk.2) (.bool t814)) (fun _ hk => hk.2) (.int .i64 t815)) (fun _ h_ => h_.1))) hb); have n2_ := Aside0.mk (Kd.R_below (by (with_reducible repeat (first | apply Kd.R_alloc | apply Kd.R_drewN | apply Kd.R_drew)); exact (Kd.R_mono (Kd.R_far (p := ⟨gb816, 1, none⟩) (Kd.R_far (p := ⟨gb816, 0, none⟩) (Kd.R_types HO813.out BK816.out (by decide)) (fun _ hk => hk.2) (.bool t814)) (fun _ hk => hk.2) (.int .i64 t815)) (fun _ h_ => h_.1))) hb); have n3_ := Aside0.mk (blk_below (g := gb796) (o := .cells #[.bool t791, .int .i64 t792] 66 (0, 0)) (by (with_reducible repeat (first | refine blk_drewN ?_ _ | refine blk_drew ?_ | refine blk_alloc ?_ _)); refine blk_far ?_ NB796_816.out _; (with_reducible repeat (first | refine blk_drewN ?_ _ | refine blk_drew ?_ | refine blk_alloc ?_ _)); refine blk_far ?_ NB796_816.out _; (with_reducible repeat (first | refine blk_drewN ?_ _ | refine blk_drew ?_ | refine blk_alloc ?_ _)); exact BK796.out) hb); have n4_ := Aside0.mk (blk_below (g := gb816) (o := .cells #[.bool t814, .int .i64 t815] 66 (0, 0)) (by (with_reducible repeat (first | refine blk_drewN ?_ _ | refine blk_drew ?_ | refine blk_alloc ?_ _)); refine blk_put (cs := #[.bool t814, .int .i64 0]) ?_ 1 _ rfl; (with_reducible repeat (first | refine blk_drewN ?_ _ | refine blk_drew ?_ | refine blk_alloc ?_ _)); refine blk_put (cs := #[.bool false, .int .i64 0]) ?_ 0 _ rfl; (with_reducible repeat (first | refine blk_drewN ?_ _ | refine blk_drew ?_ | refine blk_alloc ?_ _)); exact BK816.out) hb); have n5_ := Aside0.mk (below_step (hb2_ HB.out GE796.out GE816.out) hb); clear HO_4; clear HO_5; clear HO813; clear BK796; clear BK816; clear HB; have HO_4 := n0_; have HO_5 := n1_; have HO813 := n2_; have BK796 := n3_; have BK816 := n4_; have HB := n5_; clear n0_ n1_ n2_ n3_ n4_ n5_; (try clear hb); (try clear hb2); (try clear hk); (try clear hi); have hnb43 := NB816_796.out; have hnc43 := NB796_816.out; have hcz44_0 := bc_ BK816.out 0 (.bool t814) rfl; have hcz44_1 := bc_ BK816.out 1 (.int .i64 t815) rfl; have hfz44_0 := blk_frozen BK816.out 0; have hfz44_1 := blk_frozen BK816.out 1) | (go_at_call 51; (with_reducible refine (impl_AppOk.calls t814 t815 t818 _ A40.out).mono ?_); rintro e w45 ⟨rfl, hb⟩; have n0_ := Aside0.mk (Kd.R_below (by (with_reducible repeat (first | apply Kd.R_alloc | apply Kd.R_drewN | apply Kd.R_drew)); exact HO_4.out) hb); have n1_ := Aside0.mk (Kd.R_below (by (with_reducible repeat (first | apply Kd.R_alloc | apply Kd.R_drewN | apply Kd.R_drew)); exact HO_5.out) hb); have n2_ := Aside0.mk (Kd.R_below (by (with_reducible repeat (first | apply Kd.R_alloc | apply Kd.R_drewN | apply Kd.R_drew)); exact HO813.out) hb); have n3_ := Aside0.mk (bb_ BK796.out hb); have n4_ := Aside0.mk (bb_ BK816.out hb); have n5_ := Aside0.mk (below_step (hb2_ HB.out GE796.out GE816.out) hb); clear HO_4; clear HO_5; clear HO813; clear BK796; clear BK816; clear HB; have HO_4 := n0_; have HO_5 := n1_; have HO813 := n2_; have BK796 := n3_; have BK816 := n4_; have HB := n5_; clear n0_ n1_ n2_ n3_ n4_ n5_; (try clear hb); (try clear hb2); (try clear hk); (try clear hi))); try go_wp2_with (first | (go_at_call 50; (with_reducible refine (impl_ReadsOk.calls kj9 _ _ x5_1 _ _ t811 true _ ?side1 ?side2 ?side3 ?side4 A38.out).mono ?_); (case side1 => refine (Kd.R_reads' (e := 83) (base := w.heap.size) (ok := fun k_ => some k_ ≠ (v794 : Value).ownBlock) (n := x5_1.length) (c := co32) ?_).2.2; exact (by (with_reducible repeat (first | apply Kd.R_alloc | apply Kd.R_drewN | apply Kd.R_drew)); exact (Kd.R_mono (Kd.R_far (p := ⟨gb816, 1, none⟩) (Kd.R_far (p := ⟨gb816, 0, none⟩) (Kd.R_types HO_5.out BK816.out (by decide)) (fun _ hk => hk.2) (.bool t814)) (fun _ hk => hk.2) (.int .i64 t815)) (fun _ h_ => h_.1)))); (case side2 => exact (Kd.R_reads' HO_5.out).2.1); (case side3 => refine (Kd.R_reads' (e := 88) (base := w.heap.size) (ok := fun k_ => True) (n := t811.length) (c := co41) ?_).2.2; exact (by (with_reducible repeat (first | apply Kd.R_alloc | apply Kd.R_drewN | apply Kd.R_drew)); exact (Kd.R_mono (Kd.R_far (p := ⟨gb816, 1, none⟩) (Kd.R_far (p := ⟨gb816, 0, none⟩) (Kd.R_types HO813.out BK816.out (by decide)) (fun _ hk => hk.2) (.bool t814)) (fun _ hk => hk.2) (.int .i64 t815)) (fun _ h_ => h_.1)))); (case side4 => exact (Kd.R_reads' HO813.out).2.1); rintro e w42 ⟨rfl, hb⟩; have n0_ := Aside0.mk (Kd.R_below (by (with_reducible repeat (first | apply Kd.R_alloc | apply Kd.R_drewN | apply Kd.R_drew)); exact (Kd.R_mono (Kd.R_far (p := ⟨gb816, 1, none⟩) (Kd.R_far (p := ⟨gb816, 0, none⟩) (Kd.R_types HO_4.out BK816.out (by decide)) (fun _ hk => hk.2) (.bool t814)) (fun _ hk => hk.2) (.int .i64 t815)) (fun _ h_ => h_.1))) hb); have n1_ := Aside0.mk (Kd.R_below (by (with_reducible repeat (first | apply Kd.R_alloc | apply Kd.R_drewN | apply Kd.R_drew)); exact (Kd.R_mono (Kd.R_far (p := ⟨gb816, 1, none⟩) (Kd.R_far (p := ⟨gb816, 0, none⟩) (Kd.R_types HO_5.out BK816.out (by decide)) (fun _ hk => hk.2) (.bool t814)) (fun _ hk => hk.2) (.int .i64 t815)) (fun _ h_ => h_.1))) hb); have n2_ := Aside0.mk (Kd.R_below (by (with_reducible repeat (first | apply Kd.R_alloc | apply Kd.R_drewN | apply Kd.R_drew)); exact (Kd.R_mono (Kd.R_far (p := ⟨gb816, 1, none⟩) (Kd.R_far (p := ⟨gb816, 0, none⟩) (Kd.R_types HO813.out BK816.out (by decide)) (fun _ hk => hk.2) (.bool t814)) (fun _ hk => hk.2) (.int .i64 t815)) (fun _ h_ => h_.1))) hb); have n3_ := Aside0.mk (blk_below (g := gb796) (o := .cells #[.bool t791, .int .i64 t792] 66 (0, 0)) (by (with_reducible repeat (first | refine blk_drewN ?_ _ | refine blk_drew ?_ | refine blk_alloc ?_ _)); refine blk_far ?_ NB796_816.out _; (with_reducible repeat (first | refine blk_drewN ?_ _ | refine blk_drew ?_ | refine blk_alloc ?_ _)); refine blk_far ?_ NB796_816.out _; (with_reducible repeat (first | refine blk_drewN ?_ _ | refine blk_drew ?_ | refine blk_alloc ?_ _)); exact BK796.out) hb); have n4_ := Aside0.mk (blk_below (g := gb816) (o := .cells #[.bool t814, .int .i64 t815] 66 (0, 0)) (by (with_reducible repeat (first | refine blk_drewN ?_ _ | refine blk_drew ?_ | refine blk_alloc ?_ _)); refine blk_put (cs := #[.bool t814, .int .i64 0]) ?_ 1 _ rfl; (with_reducible repeat (first | refine blk_drewN ?_ _ | refine blk_drew ?_ | refine blk_alloc ?_ _)); refine blk_put (cs := #[.bool false, .int .i64 0]) ?_ 0 _ rfl; (with_reducible repeat (first | refine blk_drewN ?_ _ | refine blk_drew ?_ | refine blk_alloc ?_ _)); exact BK816.out) hb); have n5_ := Aside0.mk (below_step (hb2_ HB.out GE796.out GE816.out) hb); clear HO_4; clear HO_5; clear HO813; clear BK796; clear BK816; clear HB; have HO_4 := n0_; have HO_5 := n1_; have HO813 := n2_; have BK796 := n3_; have BK816 := n4_; have HB := n5_; clear n0_ n1_ n2_ n3_ n4_ n5_; (try clear hb); (try clear hb2); (try clear hk); (try clear hi); have hnb43 := NB816_796.out; have hnc43 := NB796_816.out; have hcz44_0 := bc_ BK816.out 0 (.bool t814) rfl; have hcz44_1 := bc_ BK816.out 1 (.int .i64 t815) rfl; have hfz44_0 := blk_frozen BK816.out 0; have hfz44_1 := blk_frozen BK816.out 1) | (go_at_call 51; (with_reducible refine (impl_AppOk.calls t814 t815 t818 _ A40.out).mono ?_); rintro e w45 ⟨rfl, hb⟩; have n0_ := Aside0.mk (Kd.R_below (by (with_reducible repeat (first | apply Kd.R_alloc | apply Kd.R_drewN | apply Kd.R_drew)); exact HO_4.out) hb); have n1_ := Aside0.mk (Kd.R_below (by (with_reducible repeat (first | apply Kd.R_alloc | apply Kd.R_drewN | apply Kd.R_drew)); exact HO_5.out) hb); have n2_ := Aside0.mk (Kd.R_below (by (with_reducible repeat (first | apply Kd.R_alloc | apply Kd.R_drewN | apply Kd.R_drew)); exact HO813.out) hb); have n3_ := Aside0.mk (bb_ BK796.out hb); have n4_ := Aside0.mk (bb_ BK816.out hb); have n5_ := Aside0.mk (below_step (hb2_ HB.out GE796.out GE816.out) hb); clear HO_4; clear HO_5; clear HO813; clear BK796; clear BK816; clear HB; have HO_4 := n0_; have HO_5 := n1_; have HO813 := n2_; have BK796 := n3_; have BK816 := n4_; have HB := n5_; clear n0_ n1_ n2_ n3_ n4_ n5_; (try clear hb); (try clear hb2); (try clear hk); (try clear hi))))
                    go_meet
                    case rel => exact ⟨_, (!t818), (by first | rfl | (simp; done) | (simp [*]; done)), H', ⟨by have := HK1.out; have := HJ9.out; first | omega | exact Nat.le_refl _⟩, ⟨by (with_reducible repeat (first | apply Kd.R_alloc | apply Kd.R_drewN | apply Kd.R_drew)); exact HO813.out⟩, ⟨bk_ BK796.out⟩, ⟨bk_ BK816.out⟩, ⟨hb2_ HB.out GE796.out GE816.out⟩⟩
                  · replace c39 := Bool.eq_false_iff.mpr c39
                    subst c39
                    have H1 : (laws_FnReadings.j2 kj9 t811 true t814 t815) = some r := by rw [if_neg (show ¬ (false = true) by decide)] at H; exact H
                    clear H
                    have H := H1
                    clear H1
                    have H' := Aside0.mk H
                    clear H
                    obtain ⟨Ao46, co46, eo46⟩ := Kd.R_slice HO813.out
                    subst eo46
                    go_wp2_with (first | (go_at_call 50; (with_reducible refine (impl_ReadsOk.calls kj9 _ _ x5_1 _ _ t811 false _ ?side1 ?side2 ?side3 ?side4 A38.out).mono ?_); (case side1 => refine (Kd.R_reads' (e := 83) (base := w.heap.size) (ok := fun k_ => some k_ ≠ (v794 : Value).ownBlock) (n := x5_1.length) (c := co32) ?_).2.2; exact (by (with_reducible repeat (first | apply Kd.R_alloc | apply Kd.R_drewN | apply Kd.R_drew)); exact (Kd.R_mono (Kd.R_far (p := ⟨gb816, 1, none⟩) (Kd.R_far (p := ⟨gb816, 0, none⟩) (Kd.R_types HO_5.out BK816.out (by decide)) (fun _ hk => hk.2) (.bool t814)) (fun _ hk => hk.2) (.int .i64 t815)) (fun _ h_ => h_.1)))); (case side2 => exact (Kd.R_reads' HO_5.out).2.1); (case side3 => refine (Kd.R_reads' (e := 88) (base := w.heap.size) (ok := fun k_ => True) (n := t811.length) (c := co46) ?_).2.2; exact (by (with_reducible repeat (first | apply Kd.R_alloc | apply Kd.R_drewN | apply Kd.R_drew)); exact (Kd.R_mono (Kd.R_far (p := ⟨gb816, 1, none⟩) (Kd.R_far (p := ⟨gb816, 0, none⟩) (Kd.R_types HO813.out BK816.out (by decide)) (fun _ hk => hk.2) (.bool t814)) (fun _ hk => hk.2) (.int .i64 t815)) (fun _ h_ => h_.1)))); (case side4 => exact (Kd.R_reads' HO813.out).2.1); rintro e w47 ⟨rfl, hb⟩; have n0_ := Aside0.mk (Kd.R_below (by (with_reducible repeat (first | apply Kd.R_alloc | apply Kd.R_drewN | apply Kd.R_drew)); exact (Kd.R_mono (Kd.R_far (p := ⟨gb816, 1, none⟩) (Kd.R_far (p := ⟨gb816, 0, none⟩) (Kd.R_types HO_4.out BK816.out (by decide)) (fun _ hk => hk.2) (.bool t814)) (fun _ hk => hk.2) (.int .i64 t815)) (fun _ h_ => h_.1))) hb); have n1_ := Aside0.mk (Kd.R_below (by (with_reducible repeat (first | apply Kd.R_alloc | apply Kd.R_drewN | apply Kd.R_drew)); exact (Kd.R_mono (Kd.R_far (p := ⟨gb816, 1, none⟩) (Kd.R_far (p := ⟨gb816, 0, none⟩) (Kd.R_types HO_5.out BK816.out (by decide)) (fun _ hk => hk.2) (.bool t814)) (fun _ hk => hk.2) (.int .i64 t815)) (fun _ h_ => h_.1))) hb); have n2_ := Aside0.mk (Kd.R_below (by (with_reducible repeat (first | apply Kd.R_alloc | apply Kd.R_drewN | apply Kd.R_drew)); exact (Kd.R_mono (Kd.R_far (p := ⟨gb816, 1, none⟩) (Kd.R_far (p := ⟨gb816, 0, none⟩) (Kd.R_types HO813.out BK816.out (by decide)) (fun _ hk => hk.2) (.bool t814)) (fun _ hk => hk.2) (.int .i64 t815)) (fun _ h_ => h_.1))) hb); have n3_ := Aside0.mk (blk_below (g := gb796) (o := .cells #[.bool t791, .int .i64 t792] 66 (0, 0)) (by (with_reducible repeat (first | refine blk_drewN ?_ _ | refine blk_drew ?_ | refine blk_alloc ?_ _)); refine blk_far ?_ NB796_816.out _; (with_reducible repeat (first | refine blk_drewN ?_ _ | refine blk_drew ?_ | refine blk_alloc ?_ _)); refine blk_far ?_ NB796_816.out _; (with_reducible repeat (first | refine blk_drewN ?_ _ | refine blk_drew ?_ | refine blk_alloc ?_ _)); exact BK796.out) hb); have n4_ := Aside0.mk (blk_below (g := gb816) (o := .cells #[.bool t814, .int .i64 t815] 66 (0, 0)) (by (with_reducible repeat (first | refine blk_drewN ?_ _ | refine blk_drew ?_ | refine blk_alloc ?_ _)); refine blk_put (cs := #[.bool t814, .int .i64 0]) ?_ 1 _ rfl; (with_reducible repeat (first | refine blk_drewN ?_ _ | refine blk_drew ?_ | refine blk_alloc ?_ _)); refine blk_put (cs := #[.bool false, .int .i64 0]) ?_ 0 _ rfl; (with_reducible repeat (first | refine blk_drewN ?_ _ | refine blk_drew ?_ | refine blk_alloc ?_ _)); exact BK816.out) hb); have n5_ := Aside0.mk (below_step (hb2_ HB.out GE796.out GE816.out) hb); clear HO_4; clear HO_5; clear HO813; clear BK796; clear BK816; clear HB; have HO_4 := n0_; have HO_5 := n1_; have HO813 := n2_; have BK796 := n3_; have BK816 := n4_; have HB := n5_; clear n0_ n1_ n2_ n3_ n4_ n5_; (try clear hb); (try clear hb2); (try clear hk); (try clear hi)))
                    repeat (go_quiet (first | (go_at_call 50; (with_reducible refine (impl_ReadsOk.calls kj9 _ _ x5_1 _ _ t811 false _ ?side1 ?side2 ?side3 ?side4 A38.out).mono ?_); (case side1 => refine (Kd.R_reads' (e := 83) (base := w.heap.size) (ok := fun k_ => some k_ ≠ (v794 : Value).ownBlock) (n := x5_1.length) (c := co32) ?_).2.2; exact (by (with_reducible repeat (first | apply Kd.R_alloc | apply Kd.R_drewN | apply Kd.R_drew)); exact (Kd.R_mono (Kd.R_far (p := ⟨gb816, 1, none⟩) (Kd.R_far (p := ⟨gb816, 0, none⟩) (Kd.R_types HO_5.out BK816.out (by decide)) (fun _ hk => hk.2) (.bool t814)) (fun _ hk => hk.2) (.int .i64 t815)) (fun _ h_ => h_.1)))); (case side2 => exact (Kd.R_reads' HO_5.out).2.1); (case side3 => refine (Kd.R_reads' (e := 88) (base := w.heap.size) (ok := fun k_ => True) (n := t811.length) (c := co46) ?_).2.2; exact (by (with_reducible repeat (first | apply Kd.R_alloc | apply Kd.R_drewN | apply Kd.R_drew)); exact (Kd.R_mono (Kd.R_far (p := ⟨gb816, 1, none⟩) (Kd.R_far (p := ⟨gb816, 0, none⟩) (Kd.R_types HO813.out BK816.out (by decide)) (fun _ hk => hk.2) (.bool t814)) (fun _ hk => hk.2) (.int .i64 t815)) (fun _ h_ => h_.1)))); (case side4 => exact (Kd.R_reads' HO813.out).2.1); rintro e w47 ⟨rfl, hb⟩; have n0_ := Aside0.mk (Kd.R_below (by (with_reducible repeat (first | apply Kd.R_alloc | apply Kd.R_drewN | apply Kd.R_drew)); exact (Kd.R_mono (Kd.R_far (p := ⟨gb816, 1, none⟩) (Kd.R_far (p := ⟨gb816, 0, none⟩) (Kd.R_types HO_4.out BK816.out (by decide)) (fun _ hk => hk.2) (.bool t814)) (fun _ hk => hk.2) (.int .i64 t815)) (fun _ h_ => h_.1))) hb); have n1_ := Aside0.mk (Kd.R_below (by (with_reducible repeat (first | apply Kd.R_alloc | apply Kd.R_drewN | apply Kd.R_drew)); exact (Kd.R_mono (Kd.R_far (p := ⟨gb816, 1, none⟩) (Kd.R_far (p := ⟨gb816, 0, none⟩) (Kd.R_types HO_5.out BK816.out (by decide)) (fun _ hk => hk.2) (.bool t814)) (fun _ hk => hk.2) (.int .i64 t815)) (fun _ h_ => h_.1))) hb); have n2_ := Aside0.mk (Kd.R_below (by (with_reducible repeat (first | apply Kd.R_alloc | apply Kd.R_drewN | apply Kd.R_drew)); exact (Kd.R_mono (Kd.R_far (p := ⟨gb816, 1, none⟩) (Kd.R_far (p := ⟨gb816, 0, none⟩) (Kd.R_types HO813.out BK816.out (by decide)) (fun _ hk => hk.2) (.bool t814)) (fun _ hk => hk.2) (.int .i64 t815)) (fun _ h_ => h_.1))) hb); have n3_ := Aside0.mk (blk_below (g := gb796) (o := .cells #[.bool t791, .int .i64 t792] 66 (0, 0)) (by (with_reducible repeat (first | refine blk_drewN ?_ _ | refine blk_drew ?_ | refine blk_alloc ?_ _)); refine blk_far ?_ NB796_816.out _; (with_reducible repeat (first | refine blk_drewN ?_ _ | refine blk_drew ?_ | refine blk_alloc ?_ _)); refine blk_far ?_ NB796_816.out _; (with_reducible repeat (first | refine blk_drewN ?_ _ | refine blk_drew ?_ | refine blk_alloc ?_ _)); exact BK796.out) hb); have n4_ := Aside0.mk (blk_below (g := gb816) (o := .cells #[.bool t814, .int .i64 t815] 66 (0, 0)) (by (with_reducible repeat (first | refine blk_drewN ?_ _ | refine blk_drew ?_ | refine blk_alloc ?_ _)); refine blk_put (cs := #[.bool t814, .int .i64 0]) ?_ 1 _ rfl; (with_reducible repeat (first | refine blk_drewN ?_ _ | refine blk_drew ?_ | refine blk_alloc ?_ _)); refine blk_put (cs := #[.bool false, .int .i64 0]) ?_ 0 _ rfl; (with_reducible repeat (first | refine blk_drewN ?_ _ | refine blk_drew ?_ | refine blk_alloc ?_ _)); exact BK816.out) hb); have n5_ := Aside0.mk (below_step (hb2_ HB.out GE796.out GE816.out) hb); clear HO_4; clear HO_5; clear HO813; clear BK796; clear BK816; clear HB; have HO_4 := n0_; have HO_5 := n1_; have HO813 := n2_; have BK796 := n3_; have BK816 := n4_; have HB := n5_; clear n0_ n1_ n2_ n3_ n4_ n5_; (try clear hb); (try clear hb2); (try clear hk); (try clear hi))); try go_wp2_with (first | (go_at_call 50; (with_reducible refine (impl_ReadsOk.calls kj9 _ _ x5_1 _ _ t811 false _ ?side1 ?side2 ?side3 ?side4 A38.out).mono ?_); (case side1 => refine (Kd.R_reads' (e := 83) (base := w.heap.size) (ok := fun k_ => some k_ ≠ (v794 : Value).ownBlock) (n := x5_1.length) (c := co32) ?_).2.2; exact (by (with_reducible repeat (first | apply Kd.R_alloc | apply Kd.R_drewN | apply Kd.R_drew)); exact (Kd.R_mono (Kd.R_far (p := ⟨gb816, 1, none⟩) (Kd.R_far (p := ⟨gb816, 0, none⟩) (Kd.R_types HO_5.out BK816.out (by decide)) (fun _ hk => hk.2) (.bool t814)) (fun _ hk => hk.2) (.int .i64 t815)) (fun _ h_ => h_.1)))); (case side2 => exact (Kd.R_reads' HO_5.out).2.1); (case side3 => refine (Kd.R_reads' (e := 88) (base := w.heap.size) (ok := fun k_ => True) (n := t811.length) (c := co46) ?_).2.2; exact (by (with_reducible repeat (first | apply Kd.R_alloc | apply Kd.R_drewN | apply Kd.R_drew)); exact (Kd.R_mono (Kd.R_far (p := ⟨gb816, 1, none⟩) (Kd.R_far (p := ⟨gb816, 0, none⟩) (Kd.R_types HO813.out BK816.out (by decide)) (fun _ hk => hk.2) (.bool t814)) (fun _ hk => hk.2) (.int .i64 t815)) (fun _ h_ => h_.1)))); (case side4 => exact (Kd.R_reads' HO813.out).2.1); rintro e w47 ⟨rfl, hb⟩; have n0_ := Aside0.mk (Kd.R_below (by (with_reducible repeat (first | apply Kd.R_alloc | apply Kd.R_drewN | apply Kd.R_drew)); exact (Kd.R_mono (Kd.R_far (p := ⟨gb816, 1, none⟩) (Kd.R_far (p := ⟨gb816, 0, none⟩) (Kd.R_types HO_4.out BK816.out (by decide)) (fun _ hk => hk.2) (.bool t814)) (fun _ hk => hk.2) (.int .i64 t815)) (fun _ h_ => h_.1))) hb); have n1_ := Aside0.mk (Kd.R_below (by (with_reducible repeat (first | apply Kd.R_alloc | apply Kd.R_drewN | apply Kd.R_drew)); exact (Kd.R_mono (Kd.R_far (p := ⟨gb816, 1, none⟩) (Kd.R_far (p := ⟨gb816, 0, none⟩) (Kd.R_types HO_5.out BK816.out (by decide)) (fun _ hk => hk.2) (.bool t814)) (fun _ hk => hk.2) (.int .i64 t815)) (fun _ h_ => h_.1))) hb); have n2_ := Aside0.mk (Kd.R_below (by (with_reducible repeat (first | apply Kd.R_alloc | apply Kd.R_drewN | apply Kd.R_drew)); exact (Kd.R_mono (Kd.R_far (p := ⟨gb816, 1, none⟩) (Kd.R_far (p := ⟨gb816, 0, none⟩) (Kd.R_types HO813.out BK816.out (by decide)) (fun _ hk => hk.2) (.bool t814)) (fun _ hk => hk.2) (.int .i64 t815)) (fun _ h_ => h_.1))) hb); have n3_ := Aside0.mk (blk_below (g := gb796) (o := .cells #[.bool t791, .int .i64 t792] 66 (0, 0)) (by (with_reducible repeat (first | refine blk_drewN ?_ _ | refine blk_drew ?_ | refine blk_alloc ?_ _)); refine blk_far ?_ NB796_816.out _; (with_reducible repeat (first | refine blk_drewN ?_ _ | refine blk_drew ?_ | refine blk_alloc ?_ _)); refine blk_far ?_ NB796_816.out _; (with_reducible repeat (first | refine blk_drewN ?_ _ | refine blk_drew ?_ | refine blk_alloc ?_ _)); exact BK796.out) hb); have n4_ := Aside0.mk (blk_below (g := gb816) (o := .cells #[.bool t814, .int .i64 t815] 66 (0, 0)) (by (with_reducible repeat (first | refine blk_drewN ?_ _ | refine blk_drew ?_ | refine blk_alloc ?_ _)); refine blk_put (cs := #[.bool t814, .int .i64 0]) ?_ 1 _ rfl; (with_reducible repeat (first | refine blk_drewN ?_ _ | refine blk_drew ?_ | refine blk_alloc ?_ _)); refine blk_put (cs := #[.bool false, .int .i64 0]) ?_ 0 _ rfl; (with_reducible repeat (first | refine blk_drewN ?_ _ | refine blk_drew ?_ | refine blk_alloc ?_ _)); exact BK816.out) hb); have n5_ := Aside0.mk (below_step (hb2_ HB.out GE796.out GE816.out) hb); clear HO_4; clear HO_5; clear HO813; clear BK796; clear BK816; clear HB; have HO_4 := n0_; have HO_5 := n1_; have HO813 := n2_; have BK796 := n3_; have BK816 := n4_; have HB := n5_; clear n0_ n1_ n2_ n3_ n4_ n5_; (try clear hb); (try clear hb2); (try clear hk); (try clear hi))))
                    go_meet
                    case rel => exact ⟨_, (true), (by first | rfl | (simp; done) | (simp [*]; done)), H', ⟨by have := HK1.out; have := HJ9.out; first | omega | exact Nat.le_refl _⟩, ⟨by (with_reducible repeat (first | apply Kd.R_alloc | apply Kd.R_drewN | apply Kd.R_drew)); exact HO813.out⟩, ⟨bk_ BK796.out⟩, ⟨bk_ BK816.out⟩, ⟨hb2_ HB.out GE796.out GE816.out⟩⟩
                · rw [if_neg c37] at H
                  have c37b0 : ((t811.length : Int) == (x5_1.length : Int)) = false := beq_eq_false_iff_ne.mpr c37
                  have c37b1 : ((t811.length : Int) != (x5_1.length : Int)) = true := bne_iff_ne.mpr c37
                  have c37b2 : (t811.length == x5_1.length) = false := by first | simpa using c37 | (simp at c37 ⊢; omega)
                  (first | rw [c37b0] | (simp only [i64_w, i32_w]; rw [c37b0]) | skip)
                  have H' := Aside0.mk H
                  clear H
                  obtain ⟨Ao48, co48, eo48⟩ := Kd.R_slice HO813.out
                  subst eo48
                  go_wp2
                  repeat (go_quiet (fail); try go_wp2)
                  go_meet
                  case rel => exact ⟨_, (true), (by first | rfl | (simp; done) | (simp [*]; done)), H', ⟨by have := HK1.out; have := HJ9.out; first | omega | exact Nat.le_refl _⟩, ⟨by (with_reducible repeat (first | apply Kd.R_alloc | apply Kd.R_drewN | apply Kd.R_drew)); exact Kd.R_mono (Kd.R_far (p := ⟨gb816, 1, none⟩) (Kd.R_far (p := ⟨gb816, 0, none⟩) (Kd.R_types HO813.out BK816.out (by decide)) (fun _ hk => hk.2) (.bool t814)) (fun _ hk => hk.2) (.int .i64 t815)) (fun _ hk => trivial)⟩, ⟨by (with_reducible repeat (first | refine blk_drewN ?_ _ | refine blk_drew ?_ | refine blk_alloc ?_ _)); refine blk_far ?_ NB796_816.out _; (with_reducible repeat (first | refine blk_drewN ?_ _ | refine blk_drew ?_ | refine blk_alloc ?_ _)); refine blk_far ?_ NB796_816.out _; (with_reducible repeat (first | refine blk_drewN ?_ _ | refine blk_drew ?_ | refine blk_alloc ?_ _)); exact BK796.out⟩, ⟨by (with_reducible repeat (first | refine blk_drewN ?_ _ | refine blk_drew ?_ | refine blk_alloc ?_ _)); refine blk_put (cs := #[.bool t814, .int .i64 0]) ?_ 1 _ rfl; (with_reducible repeat (first | refine blk_drewN ?_ _ | refine blk_drew ?_ | refine blk_alloc ?_ _)); refine blk_put (cs := #[.bool false, .int .i64 0]) ?_ 0 _ rfl; (with_reducible repeat (first | refine blk_drewN ?_ _ | refine blk_drew ?_ | refine blk_alloc ?_ _)); exact BK816.out⟩, ⟨hb2_ HB.out GE796.out GE816.out⟩⟩
              case rest =>
                clear HC31
                try clear c1
                try clear q1
                try clear c2
                try clear p2
                try clear c3
                try clear c4
                try clear p6
                try clear c8
                try clear p8
                try clear q8
                try clear hx8
                try clear c11
                try clear c11b0
                try clear c14
                try clear c15
                try clear c15b0
                try clear c16
                try clear c16b0
                try clear q17
                try clear c18
                try clear c20
                try clear c21
                try clear c27
                try clear c35
                try clear c37
                try clear c37b0
                try clear c37b1
                try clear c37b2
                try clear c39
                try clear c43
                try clear hcz36_0
                try clear hcz36_1
                try clear hcz44_0
                try clear hcz44_1
                try clear hcz7_0
                try clear hcz7_1
                try clear hfz36_0
                try clear hfz36_1
                try clear hfz44_0
                try clear hfz44_1
                try clear hfz7_0
                try clear hfz7_1
                try clear hx800_0
                try clear hx800_1
                try clear hx800_2
                try clear hx801_0
                try clear hx801_1
                try clear hx801_2
                try clear hx803_0
                try clear hx803_1
                try clear hx803_2
                try clear hx807_0
                try clear hx807_1
                try clear hx807_2
                try clear p2
                try clear p800
                try clear p801
                try clear p803
                try clear p807
                try clear q800
                try clear q801
                try clear q803
                try clear q807
                obtain ⟨kq, x72_30, rfl, HA, HJ30, HO_7, BK796, BK816, HB⟩ := hcut
                cases kq with
                | zero => exact absurd HA.out (by simp [laws_FnReadings.j2])
                | succ kj30 =>
                  have H := HA.out
                  clear HA
                  simp only [laws_FnReadings.j2] at H
                  by_cases c49 : x72_30 = true
                  · subst c49
                    have H1 : (some false) = some r := by rw [if_pos rfl] at H; exact H
                    clear H
                    have H := H1
                    clear H1
                    obtain rfl := Option.some.inj H
                    exact absurd hr_ (by decide)
                  · replace c49 := Bool.eq_false_iff.mpr c49
                    subst c49
                    have H1 : (laws_FnReadings.l1 kj30 t811 false 0 0 t814 t815) = some r := by rw [if_neg (show ¬ (false = true) by decide)] at H; exact H
                    clear H
                    have H := H1
                    clear H1
                    have H' := Aside0.mk H
                    clear H
                    go_wp2
                    repeat (go_quiet (fail); try go_wp2)
                    go_loopg [9, 10, 11] kj30 (fun kq v9 v10 v11 w' => ∃ (x9_4 : Bool) (x10_4 : Int) (x11_4 : Int), v9 = .bool x9_4 ∧ v10 = .int .i64 x10_4 ∧ v11 = .int .i64 x11_4 ∧ Aside0 (laws_FnReadings.l1 kq t811 x9_4 x10_4 x11_4 t814 t815 = some r) ∧ Aside0 (kq ≤ kj30) ∧ Aside0 (Kd.R k88 88 w' w.heap.size (fun _ => True) v812 t811) ∧ Aside0 (w'.heap[gb796]? = some (.cells #[.bool t791, .int .i64 t792] 66 (0, 0))) ∧ Aside0 (w'.heap[gb816]? = some (.cells #[.bool t814, .int .i64 t815] 66 (0, 0))) ∧ Aside0 (Below w.heap.size w w'))
                    case atStart => exact ⟨(false), (0), (0), (by first | rfl | (simp; done) | (simp [*]; done)), (by first | rfl | (simp; done) | (simp [*]; done)), (by first | rfl | (simp; done) | (simp [*]; done)), H', ⟨Nat.le_refl _⟩, ⟨by (with_reducible repeat (first | apply Kd.R_alloc | apply Kd.R_drewN | apply Kd.R_drew)); exact HO_7.out⟩, ⟨bk_ BK796.out⟩, ⟨bk_ BK816.out⟩, ⟨hb2_ HB.out GE796.out GE816.out⟩⟩
                    case round =>
                      clear H'
                      try clear c1
                      try clear q1
                      try clear c2
                      try clear p2
                      try clear c3
                      try clear c4
                      try clear p6
                      try clear c8
                      try clear p8
                      try clear q8
                      try clear hx8
                      try clear c11
                      try clear c11b0
                      try clear c14
                      try clear c15
                      try clear c15b0
                      try clear c16
                      try clear c16b0
                      try clear q17
                      try clear c18
                      try clear c20
                      try clear c21
                      try clear c27
                      try clear c35
                      try clear c37
                      try clear c37b0
                      try clear c37b1
                      try clear c37b2
                      try clear c39
                      try clear c43
                      try clear c49
                      try clear hcz36_0
                      try clear hcz36_1
                      try clear hcz44_0
                      try clear hcz44_1
                      try clear hcz7_0
                      try clear hcz7_1
                      try clear hfz36_0
                      try clear hfz36_1
                      try clear hfz44_0
                      try clear hfz44_1
                      try clear hfz7_0
                      try clear hfz7_1
                      try clear hx800_0
                      try clear hx800_1
                      try clear hx800_2
                      try clear hx801_0
                      try clear hx801_1
                      try clear hx801_2
                      try clear hx803_0
                      try clear hx803_1
                      try clear hx803_2
                      try clear hx807_0
                      try clear hx807_1
                      try clear hx807_2
                      try clear p2
                      try clear p6
                      try clear p8
                      try clear p800
                      try clear p801
                      try clear p803
                      try clear p807
                      try clear q1
                      try clear q17
                      try clear q8
                      try clear q800
                      try clear q801
                      try clear q803
                      try clear q807
                      obtain ⟨x9_4, x10_4, x11_4, rfl, rfl, rfl, HA, HK4, HO_7, BK796, BK816, HB⟩ := hrel
                      cases gk with
                      | zero => exact absurd HA.out (by simp [laws_FnReadings.l1])
                      | succ k4 =>
                        have H := HA.out
                        clear HA
                        simp only [laws_FnReadings.l1] at H
                        by_cases c50 : x11_4 < (t811.length : Int)
                        · rw [if_pos c50] at H
                          have c50b0 : decide (x11_4 < (t811.length : Int)) = true := decide_eq_true c50
                          clear c50
                          by_cases c51 : 0 ≤ x11_4
                          · rw [if_pos c51] at H
                            have c51b0 : decide (0 ≤ x11_4) = true := decide_eq_true c51
                            clear c51
                            by_cases c52 : ((rd_T88 t811 x11_4).f2) = 0
                            · rw [if_pos c52] at H
                              have c52b0 : (((rd_T88 t811 x11_4).f2) == 0) = true := beq_iff_eq.mpr c52
                              have c52b1 : (((rd_T88 t811 x11_4).f2) != 0) = false := bne_eq_false_iff_eq.mpr c52
                              clear c52
                              by_cases c53 : x9_4 = true
                              · subst c53
                                have H1 : (if ((rd_T88 t811 x11_4).f0) < x10_4 then (some false) else (laws_FnReadings.l1 k4 t811 true ((rd_T88 t811 x11_4).f0) (wrap64 (x11_4 + 1)) t814 t815)) = some r := by rw [if_pos rfl] at H; exact H
                                clear H
                                have H := H1
                                clear H1
                                by_cases c54 : ((rd_T88 t811 x11_4).f0) < x10_4
                                · rw [if_pos c54] at H
                                  have c54b0 : decide (((rd_T88 t811 x11_4).f0) < x10_4) = true := decide_eq_true c54
                                  clear c54
                                  obtain rfl := Option.some.inj H
                                  exact absurd hr_ (by decide)
                                · rw [if_neg c54] at H
                                  have c54b0 : decide (((rd_T88 t811 x11_4).f0) < x10_4) = false := decide_eq_false c54
                                  clear c54
                                  have H' := Aside0.mk H
                                  clear H
                                  obtain ⟨Ao55, co55, eo55⟩ := Kd.R_slice HO_7.out
                                  subst eo55
                                  have p819 : 0 ≤ (x11_4 : Int) := of_decide_eq_true (by first | (with_reducible assumption) | assumption)
                                  have q819 : x11_4 < (t811.length : Int) := of_decide_eq_true (by first | (with_reducible assumption) | assumption)
                                  obtain ⟨ad819, e819, hx819_0, hx819_1, hx819_2⟩ := at_T88 (Kd.R_reads' HO_7.out).2.2 x11_4 p819 q819
                                  cases e819
                                  replace p819 := eq_true p819
                                  replace q819 := eq_true q819
                                  have p820 : 0 ≤ (x11_4 : Int) := of_decide_eq_true (by first | (with_reducible assumption) | assumption)
                                  have q820 : x11_4 < (t811.length : Int) := of_decide_eq_true (by first | (with_reducible assumption) | assumption)
                                  obtain ⟨ad820, e820, hx820_0, hx820_1, hx820_2⟩ := at_T88 (Kd.R_reads' HO_7.out).2.2 x11_4 p820 q820
                                  obtain rfl : ad819 = ad820 := (by injection e820)
                                  replace p820 := eq_true p820
                                  replace q820 := eq_true q820
                                  have p821 : 0 ≤ (x11_4 : Int) := of_decide_eq_true (by first | (with_reducible assumption) | assumption)
                                  have q821 : x11_4 < (t811.length : Int) := of_decide_eq_true (by first | (with_reducible assumption) | assumption)
                                  obtain ⟨ad821, e821, hx821_0, hx821_1, hx821_2⟩ := at_T88 (Kd.R_reads' HO_7.out).2.2 x11_4 p821 q821
                                  obtain rfl : ad819 = ad821 := (by injection e821)
                                  replace p821 := eq_true p821
                                  replace q821 := eq_true q821
                                  go_wp2
                                  repeat (go_quiet (fail); try go_wp2)
                                  go_roundg k4
                                  case measure => have := HK1.out; have := HJ9.out; have := HJ30.out; have := HK4.out; omega
                                  case rel => exact ⟨(true), ((rd_T88 t811 x11_4).f0), (wrap64 (x11_4 + 1)), (by first | rfl | (simp; done) | (simp [*]; done)), (by first | rfl | (simp; done) | (simp [*]; done)), (by first | rfl | (simp; done) | (simp [*]; done)), H', ⟨by have := HK1.out; have := HJ9.out; have := HJ30.out; have := HK4.out; omega⟩, ⟨by (with_reducible repeat (first | apply Kd.R_alloc | apply Kd.R_drewN | apply Kd.R_drew)); exact HO_7.out⟩, ⟨bk_ BK796.out⟩, ⟨bk_ BK816.out⟩, ⟨hb2_ HB.out GE796.out GE816.out⟩⟩
                              · replace c53 := Bool.eq_false_iff.mpr c53
                                subst c53
                                have H1 : (laws_FnReadings.l1 k4 t811 true ((rd_T88 t811 x11_4).f0) (wrap64 (x11_4 + 1)) t814 t815) = some r := by rw [if_neg (show ¬ (false = true) by decide)] at H; exact H
                                clear H
                                have H := H1
                                clear H1
                                have H' := Aside0.mk H
                                clear H
                                obtain ⟨Ao56, co56, eo56⟩ := Kd.R_slice HO_7.out
                                subst eo56
                                have p819 : 0 ≤ (x11_4 : Int) := of_decide_eq_true (by first | (with_reducible assumption) | assumption)
                                have q819 : x11_4 < (t811.length : Int) := of_decide_eq_true (by first | (with_reducible assumption) | assumption)
                                obtain ⟨ad819, e819, hx819_0, hx819_1, hx819_2⟩ := at_T88 (Kd.R_reads' HO_7.out).2.2 x11_4 p819 q819
                                cases e819
                                replace p819 := eq_true p819
                                replace q819 := eq_true q819
                                have p822 : 0 ≤ (x11_4 : Int) := of_decide_eq_true (by first | (with_reducible assumption) | assumption)
                                have q822 : x11_4 < (t811.length : Int) := of_decide_eq_true (by first | (with_reducible assumption) | assumption)
                                obtain ⟨ad822, e822, hx822_0, hx822_1, hx822_2⟩ := at_T88 (Kd.R_reads' HO_7.out).2.2 x11_4 p822 q822
                                obtain rfl : ad819 = ad822 := (by injection e822)
                                replace p822 := eq_true p822
                                replace q822 := eq_true q822
                                go_wp2
                                repeat (go_quiet (fail); try go_wp2)
                                go_roundg k4
                                case measure => have := HK1.out; have := HJ9.out; have := HJ30.out; have := HK4.out; omega
                                case rel => exact ⟨(true), ((rd_T88 t811 x11_4).f0), (wrap64 (x11_4 + 1)), (by first | rfl | (simp; done) | (simp [*]; done)), (by first | rfl | (simp; done) | (simp [*]; done)), (by first | rfl | (simp; done) | (simp [*]; done)), H', ⟨by have := HK1.out; have := HJ9.out; have := HJ30.out; have := HK4.out; omega⟩, ⟨by (with_reducible repeat (first | apply Kd.R_alloc | apply Kd.R_drewN | apply Kd.R_drew)); exact HO_7.out⟩, ⟨bk_ BK796.out⟩, ⟨bk_ BK816.out⟩, ⟨hb2_ HB.out GE796.out GE816.out⟩⟩
                            · rw [if_neg c52] at H
                              have c52b0 : (((rd_T88 t811 x11_4).f2) == 0) = false := beq_eq_false_iff_ne.mpr c52
                              have c52b1 : (((rd_T88 t811 x11_4).f2) != 0) = true := bne_iff_ne.mpr c52
                              have H' := Aside0.mk H
                              clear H
                              obtain ⟨Ao57, co57, eo57⟩ := Kd.R_slice HO_7.out
                              subst eo57
                              have p819 : 0 ≤ (x11_4 : Int) := of_decide_eq_true (by first | (with_reducible assumption) | assumption)
                              have q819 : x11_4 < (t811.length : Int) := of_decide_eq_true (by first | (with_reducible assumption) | assumption)
                              obtain ⟨ad819, e819, hx819_0, hx819_1, hx819_2⟩ := at_T88 (Kd.R_reads' HO_7.out).2.2 x11_4 p819 q819
                              cases e819
                              replace p819 := eq_true p819
                              replace q819 := eq_true q819
                              go_wp2
                              repeat (go_quiet (fail); try go_wp2)
                              go_roundg k4
                              case measure => have := HK1.out; have := HJ9.out; have := HJ30.out; have := HK4.out; omega
                              case rel => exact ⟨(x9_4), (x10_4), (wrap64 (x11_4 + 1)), (by first | rfl | (simp; done) | (simp [*]; done)), (by first | rfl | (simp; done) | (simp [*]; done)), (by first | rfl | (simp; done) | (simp [*]; done)), H', ⟨by have := HK1.out; have := HJ9.out; have := HJ30.out; have := HK4.out; omega⟩, ⟨by (with_reducible repeat (first | apply Kd.R_alloc | apply Kd.R_drewN | apply Kd.R_drew)); exact HO_7.out⟩, ⟨bk_ BK796.out⟩, ⟨bk_ BK816.out⟩, ⟨hb2_ HB.out GE796.out GE816.out⟩⟩
                          · rw [if_neg c51] at H
                            exact absurd H (by simp)
                        · rw [if_neg c50] at H
                          have c50b0 : decide (x11_4 < (t811.length : Int)) = false := decide_eq_false c50
                          clear c50
                          by_cases c58 : (t814 == x9_4) = true
                          · rw [if_pos c58] at H
                            have c58b0 : (t814 == x9_4) = true := c58
                            (try (have c58b1 : decide (t814 = x9_4) = true := by simpa using c58))
                            (try (have c58b2 : (t814 == x9_4) = true := by simpa using c58))
                            clear c58
                            by_cases c59 : x9_4 = true
                            · subst c59
                              have H1 : (some (t815 == x10_4)) = some r := by rw [if_pos rfl] at H; exact H
                              clear H
                              have H := H1
                              clear H1
                              obtain rfl := Option.some.inj H
                              obtain ⟨Ao60, co60, eo60⟩ := Kd.R_slice HO_7.out
                              subst eo60
                              have hnb61 := NB816_796.out
                              have hnc61 := NB796_816.out
                              have hcz62_0 := bc_ BK816.out 0 (.bool t814) rfl
                              have hcz62_1 := bc_ BK816.out 1 (.int .i64 t815) rfl
                              have hfz62_0 := blk_frozen BK816.out 0
                              have hfz62_1 := blk_frozen BK816.out 1
                              go_wp2
                              repeat (go_quiet (fail); try go_wp2)
                              go_ret
                              exact ⟨er_, hb2_ HB.out GE796.out GE816.out⟩
                            · replace c59 := Bool.eq_false_iff.mpr c59
                              subst c59
                              have H1 : (some true) = some r := by rw [if_neg (show ¬ (false = true) by decide)] at H; exact H
                              clear H
                              have H := H1
                              clear H1
                              obtain rfl := Option.some.inj H
                              obtain ⟨Ao63, co63, eo63⟩ := Kd.R_slice HO_7.out
                              subst eo63
                              have hnb64 := NB816_796.out
                              have hnc64 := NB796_816.out
                              have hcz65_0 := bc_ BK816.out 0 (.bool t814) rfl
                              have hcz65_1 := bc_ BK816.out 1 (.int .i64 t815) rfl
                              have hfz65_0 := blk_frozen BK816.out 0
                              have hfz65_1 := blk_frozen BK816.out 1
                              go_wp2
                              repeat (go_quiet (fail); try go_wp2)
                              go_ret
                              exact ⟨er_, hb2_ HB.out GE796.out GE816.out⟩
                          · rw [if_neg c58] at H
                            have c58b0 : (t814 == x9_4) = false := by simpa using c58
                            (try (have c58b1 : decide (t814 = x9_4) = false := by simpa using c58))
                            (try (have c58b2 : (t814 == x9_4) = false := by simpa using c58))
                            (try (have c58b3 : ¬ (t814 = x9_4) := by simpa using c58))
                            clear c58
                            obtain rfl := Option.some.inj H
                            exact absurd hr_ (by decide)
end Go.Proofs.Ytcgdnfaclbnflaa.P

namespace Go.Proofs.Ytcgdnfaclbnflaa.G
open Go.RowKit Go.Proofs.YtcgdnfaclbnflaaW.PrintWords
theorem wrap_id {x : Int} (h1 : -9223372036854775808 ≤ x) (h2 : x ≤ 9223372036854775807) : wrap64 x = x := by unfold wrap64; omega
theorem wrap_succ {i n : Nat} (h : i < n) (hn : n ≤ 9223372036854775807) : wrap64 ((i : Int) + 1) = ((i + 1 : Nat) : Int) := by unfold wrap64; omega
theorem track_loop {n : Nat} {σ ρ : Type} {L : Nat → σ → Int → Option ρ} {F : Nat → σ} {r : ρ} {c : Nat}
    (hs : ∀ k i, i < n → c ≤ k → L (k + 1) (F i) (i : Int) = L k (F (i + 1)) ((i + 1 : Nat) : Int))
    (he : ∀ k, c ≤ k → L (k + 1) (F n) (n : Int) = some r) :
    ∀ d i k, i + d = n → d + c < k → L k (F i) (i : Int) = some r := by
  intro d
  induction d with
  | zero =>
    intro i k h hk
    obtain ⟨k, rfl⟩ : ∃ m, k = m + 1 := ⟨k - 1, by omega⟩
    obtain rfl : i = n := by omega
    exact he k (by omega)
  | succ d ih =>
    intro i k h hk
    obtain ⟨k, rfl⟩ : ∃ m, k = m + 1 := ⟨k - 1, by omega⟩
    rw [hs k i (by omega) (by omega)]
    exact ih (i + 1) k (by omega) (by omega)
theorem track_loop0 {n : Nat} {σ ρ : Type} {L : Nat → σ → Int → Option ρ} {F : Nat → σ} {r : ρ} {c : Nat}
    (hs : ∀ k i, i < n → c ≤ k → L (k + 1) (F i) (i : Int) = L k (F (i + 1)) ((i + 1 : Nat) : Int))
    (he : ∀ k, c ≤ k → L (k + 1) (F n) (n : Int) = some r) (k : Nat) (hk : n + c < k) : L k (F 0) 0 = some r :=
  track_loop hs he n 0 k (by omega) hk
end Go.Proofs.Ytcgdnfaclbnflaa.G
namespace Go.Proofs.Ytcgdnfaclbnflaa.P
open Go.RowKit Go.Proofs.YtcgdnfaclbnflaaW.PrintWords Go.Proofs.YtcgdnfaclbnflaaW.PrintLast Go.Proofs.YtcgdnfaclbnflaaW.PrintMore
attribute [local go_sem] max2_int min2_int max_two min_two max_three min_three max_four min_four
set_option linter.unusedVariables false
set_option linter.unusedSimpArgs false
end Go.Proofs.Ytcgdnfaclbnflaa.P

namespace Go.Proofs.Ytcgdnfaclbnflaa.P
open Go.RowKit Go.Proofs.YtcgdnfaclbnflaaW.PrintWords Go.Proofs.YtcgdnfaclbnflaaW.PrintLast Go.Proofs.YtcgdnfaclbnflaaW.PrintMore
attribute [local go_sem] max2_int min2_int max_two min_two max_three min_three max_four min_four
set_option linter.unusedVariables false
set_option linter.unusedSimpArgs false
end Go.Proofs.Ytcgdnfaclbnflaa.P

namespace Go.Proofs.Ytcgdnfaclbnflaa.P
open Go.RowKit Go.Proofs.YtcgdnfaclbnflaaW.PrintWords Go.Proofs.YtcgdnfaclbnflaaW.PrintLast Go.Proofs.YtcgdnfaclbnflaaW.PrintMore
attribute [local go_sem] max2_int min2_int max_two min_two max_three min_three max_four min_four
set_option linter.unusedVariables false
set_option linter.unusedSimpArgs false
end Go.Proofs.Ytcgdnfaclbnflaa.P

namespace Go.Proofs.Ytcgdnfaclbnflaa.P
open Go.RowKit Go.Proofs.YtcgdnfaclbnflaaW.PrintWords Go.Proofs.YtcgdnfaclbnflaaW.PrintLast Go.Proofs.YtcgdnfaclbnflaaW.PrintMore
attribute [local go_sem] max2_int min2_int max_two min_two max_three min_three max_four min_four
set_option linter.unusedVariables false
set_option linter.unusedSimpArgs false
end Go.Proofs.Ytcgdnfaclbnflaa.P

namespace Go.Proofs.Ytcgdnfaclbnflaa.C
open Go.RowKit Go.Proofs.Ytcgdnfaclbnflaa.P Go.Proofs.Ytcgdnfaclbnflaa.G
theorem l1In (a b c : Int) : spec_l1In.f a b c = some (decide (b ≤ a ∧ a ≤ c)) := by
  unfold spec_l1In.f; by_cases h : a ≥ b <;> simp [h] <;> omega
theorem in_ (a b c : Int) : impl_in.f a b c = some (decide (b ≤ a ∧ a ≤ c)) := by
  unfold impl_in.f; by_cases h : b ≤ a <;> simp [h]
end Go.Proofs.Ytcgdnfaclbnflaa.C
namespace Go.Proofs.Ytcgdnfaclbnflaa.C
open Go.RowKit Go.Proofs.Ytcgdnfaclbnflaa.P Go.Proofs.Ytcgdnfaclbnflaa.G Go.Proofs.YtcgdnfaclbnflaaW.PrintWords
theorem and255 (n : Int) : Go.bits .and .i64 n 255 = n % 256 := by
  have h : (BitVec.ofInt 64 255).toNat = 2 ^ 8 - 1 := by decide
  have key : (BitVec.ofInt 64 n &&& BitVec.ofInt 64 255).toNat = (n % ((2 ^ 64 : Nat) : Int)).toNat % 2 ^ 8 := by
    rw [BitVec.toNat_and, BitVec.toNat_ofInt, h, Nat.and_two_pow_sub_one_eq_mod]
  show IntKind.i64.wrap ((BitVec.ofInt 64 n &&& BitVec.ofInt 64 255).toNat : Nat) = n % 256
  rw [key, IntKind.wrap_i64]
  omega
def At (s : List Int) (p : Int) : Prop := 0 ≤ p ∧ p ≤ s.length ∧ s.length ≤ 1048576
theorem dByte (s : List Int) (p z : Int) (h : At s p) : ∃ b p' z', spec_l1Byte.f s p z = some (b, p', z') ∧ At s p' ∧ 0 ≤ b ∧ b ≤ 255 := by
  unfold At at *
  unfold spec_l1Byte.f
  by_cases hp : p < (s.length : Int)
  · rw [if_pos hp, if_pos h.1, and255]
    refine ⟨_, _, _, rfl, ⟨?_, ?_, h.2.2⟩, Int.emod_nonneg _ (by omega), by have := Int.emod_lt_of_pos (wrap64 (Go.bits .and .i64 (Go.bits .xor .i64 (wrap64 (wrap64 (z * 6364136223846793005) + 1442695040888963407) / 8589934592) (wrap64 (wrap64 (z * 6364136223846793005) + 1442695040888963407) / 35184372088832)) 255 + wrap64 (rd s p))) (show (0 : Int) < 256 by omega); omega⟩
    · rw [wrap_id (by omega) (by omega)]; omega
    · rw [wrap_id (by omega) (by omega)]; omega
  · rw [if_neg hp, and255]
    refine ⟨_, _, _, rfl, h, Int.emod_nonneg _ (by omega), by have := Int.emod_lt_of_pos (Go.bits .xor .i64 (wrap64 (wrap64 (z * 6364136223846793005) + 1442695040888963407) / 8589934592) (wrap64 (wrap64 (z * 6364136223846793005) + 1442695040888963407) / 35184372088832)) (show (0 : Int) < 256 by omega); omega⟩
theorem dBelow (s : List Int) (p z n : Int) (h : At s p) : ∃ v p' z', spec_l1Below.f s p z n = some (v, p', z') ∧ At s p' ∧ 0 ≤ v ∧ (0 < n → v < n) := by
  unfold spec_l1Below.f
  by_cases h0 : n ≤ 0
  · rw [if_pos h0]; exact ⟨0, p, z, rfl, h, by omega, by omega⟩
  rw [if_neg h0]
  by_cases h1 : n ≤ 256
  · rw [if_pos h1]
    obtain ⟨b, p1, z1, e1, a1, b1, b2⟩ := dByte s p z h
    rw [e1]; simp only [Option.bind_some]
    rw [if_neg (by omega)]
    exact ⟨_, _, _, rfl, a1, Int.tmod_nonneg _ b1, fun _ => Int.tmod_lt_of_pos _ (by omega)⟩
  · rw [if_neg h1]
    obtain ⟨b, p1, z1, e1, a1, b1, b2⟩ := dByte s p z h
    rw [e1]; simp only [Option.bind_some]
    obtain ⟨c, p2, z2, e2, a2, c1, c2⟩ := dByte s p1 z1 a1
    rw [e2]; simp only [Option.bind_some]
    obtain ⟨d, p3, z3, e3, a3, d1, d2⟩ := dByte s p2 z2 a2
    rw [e3]; simp only [Option.bind_some]
    obtain ⟨e, p4, z4, e4, a4, f1, f2⟩ := dByte s p3 z3 a3
    rw [e4]; simp only [Option.bind_some]
    rw [if_neg (by omega), wrap_id (x := b * 16777216) (by omega) (by omega), wrap_id (x := c * 65536) (by omega) (by omega), wrap_id (x := d * 256) (by omega) (by omega), wrap_id (x := b * 16777216 + c * 65536) (by omega) (by omega), wrap_id (x := b * 16777216 + c * 65536 + d * 256) (by omega) (by omega), wrap_id (x := b * 16777216 + c * 65536 + d * 256 + e) (by omega) (by omega)]
    exact ⟨_, _, _, rfl, a4, Int.tmod_nonneg _ (by omega), fun _ => Int.tmod_lt_of_pos _ (by omega)⟩
theorem dPick (s : List Int) (p z : Int) (xs : List Int) (h : At s p) (hx : xs ≠ []) (hl : xs.length ≤ 256) : ∃ v p' z', spec_l1PickInt.f s p z xs = some (v, p', z') ∧ At s p' ∧ v ∈ xs := by
  unfold spec_l1PickInt.f
  have hn : 0 < xs.length := List.length_pos_iff.2 hx
  obtain ⟨v, p1, z1, e1, a1, b1, b2⟩ := dBelow s p z (xs.length : Int) h
  rw [e1]; simp only [Option.bind_some]
  have hv := b2 (by omega)
  rw [if_pos b1, if_pos hv]
  obtain ⟨i, rfl⟩ := Int.eq_ofNat_of_zero_le b1
  have hi : i < xs.length := by omega
  refine ⟨_, _, _, rfl, a1, ?_⟩
  have : rd xs (i : Int) = xs[i] := by unfold rd; simp [List.getD, hi]
  rw [this]; exact List.getElem_mem hi
theorem dOnce (s : List Int) (p z n : Int) (h : At s p) : ∃ v p' z', spec_l1Once.f s p z n = some (v, p', z') ∧ At s p' := by
  unfold spec_l1Once.f
  obtain ⟨v, p1, z1, e1, a1, b1, b2⟩ := dBelow s p z n h
  rw [e1]; exact ⟨_, _, _, rfl, a1⟩
theorem dNew (s : List Int) (hs : s.length ≤ 1048576) (k : Nat) (hk : 4100 < k) : ∃ z, spec_l1New.f k s = some (s, 0, z) ∧ At s 0 := by
  unfold spec_l1New.f
  have : ∀ (d i k : Nat) (z : Int), i + d = 4000 → d < k → ∃ z', spec_l1New.l0 k s z (i : Int) = some (s, 0, z') := by
    intro d
    induction d with
    | zero =>
      intro i k z hi hk
      obtain ⟨k, rfl⟩ : ∃ j, k = j + 1 := ⟨k - 1, by omega⟩
      simp only [spec_l1New.l0]
      obtain rfl : i = 4000 := by omega
      split
      · exact ⟨_, by rw [if_neg (by omega)]⟩
      · exact ⟨_, rfl⟩
    | succ d ih =>
      intro i k z hi hk
      obtain ⟨k, rfl⟩ : ∃ j, k = j + 1 := ⟨k - 1, by omega⟩
      simp only [spec_l1New.l0]
      split
      · rw [if_pos (by omega), if_pos (by omega), wrap_succ (n := 4000) (by omega) (by omega)]
        exact ih (i + 1) k _ (by omega) (by omega)
      · exact ⟨_, rfl⟩
  obtain ⟨z, h⟩ := this 4000 0 k (wrap64 (72072 + (s.length : Int))) (by omega) (by omega)
  exact ⟨z, h, by unfold At; omega⟩
theorem dTime1 (s : List Int) (p z : Int) (h : At s p) : ∃ v p' z', spec_l1DrawTime.f s p z = some (v, p', z') ∧ At s p' := by
  unfold spec_l1DrawTime.f
  obtain ⟨a, p1, z1, e1, a1, _, _⟩ := dBelow s p z 12 h
  rw [e1]; simp only [Option.bind_some]
  split
  · obtain ⟨x, p4, z4, e4, a4, _⟩ := dPick s p1 z1 [(-1000000000000), 1000000000000, 999999999999, (-999999999999), 0] a1 (by simp) (by simp)
    rw [e4]; exact ⟨_, _, _, rfl, a4⟩
  split
  · obtain ⟨x, p4, z4, e4, a4, _⟩ := dBelow s p1 z1 1000000000 a1
    rw [e4]; simp only [Option.bind_some]
    obtain ⟨y, p5, z5, e5, a5, _⟩ := dPick s p4 z4 [1, (-1), 900] a4 (by simp) (by simp)
    rw [e5]; exact ⟨_, _, _, rfl, a5⟩
  · obtain ⟨x, p4, z4, e4, a4, _⟩ := dBelow s p1 z1 120 a1
    rw [e4]; exact ⟨_, _, _, rfl, a4⟩
theorem l1Min_some (a b : Int) : ∃ m, spec_l1Min.f a b = some m := by unfold spec_l1Min.f; split <;> exact ⟨_, rfl⟩
theorem dIval1 (s : List Int) (p z : Int) (h : At s p) : ∃ a b p' z', spec_l1DrawIval.f s p z = some (a, b, p', z') ∧ At s p' := by
  unfold spec_l1DrawIval.f
  obtain ⟨t, p1, z1, e1, a1⟩ := dTime1 s p z h
  rw [e1]; simp only [Option.bind_some]
  obtain ⟨u, p2, z2, e2, a2, _⟩ := dBelow s p1 z1 60 a1
  rw [e2]; simp only [Option.bind_some]
  obtain ⟨m, em⟩ := l1Min_some (wrap64 (t + u)) 1000000000000
  rw [em]; simp only [Option.bind_some]
  obtain ⟨c, p3, z3, e3, a3, _⟩ := dBelow s p2 z2 30 a2
  rw [e3]; simp only [Option.bind_some]
  split
  · exact ⟨_, _, _, _, rfl, a3⟩
  split
  · obtain ⟨x, p4, z4, e4, a4, _⟩ := dPick s p3 z3 [1000000000000, 1000000000001, 9223372036854775807] a3 (by simp) (by simp)
    rw [e4]; exact ⟨_, _, _, _, rfl, a4⟩
  split
  · obtain ⟨x, p4, z4, e4, a4, _⟩ := dPick s p3 z3 [(-1000000000000), (-1000000000001), (-9223372036854775807)] a3 (by simp) (by simp)
    rw [e4]; exact ⟨_, _, _, _, rfl, a4⟩
  · exact ⟨_, _, _, _, rfl, a3⟩
end Go.Proofs.Ytcgdnfaclbnflaa.C
namespace Go.Proofs.Ytcgdnfaclbnflaa.C
open Go.RowKit Go.Proofs.Ytcgdnfaclbnflaa.P Go.Proofs.Ytcgdnfaclbnflaa.G
def ivalOk (a b : Int) : Bool := decide (-1000000000000 ≤ a) && decide (a ≤ b) && decide (b ≤ 1000000000000)
theorem ivalOk_iff (a b : Int) : ivalOk a b = true ↔ -1000000000000 ≤ a ∧ a ≤ b ∧ b ≤ 1000000000000 := by unfold ivalOk; simp; omega
theorem sIvalOk (a b : Int) : spec_IvalOk.f a b = some (ivalOk a b) := by
  have e : ivalOk a b = decide (-1000000000000 ≤ a ∧ a ≤ b ∧ b ≤ 1000000000000) := by
    rw [Bool.eq_iff_iff, ivalOk_iff, decide_eq_true_iff]
  rw [e]
  unfold spec_IvalOk.f; simp only [l1In, Option.bind_some]
  by_cases h1 : a ≤ b
  · rw [if_pos h1]
    by_cases h2 : (-1000000000000 ≤ a ∧ a ≤ 1000000000000)
    · rw [decide_eq_true h2, if_pos rfl]; congr 1; rw [decide_eq_decide]; omega
    · rw [decide_eq_false h2, if_neg (by decide)]; congr 1; symm; apply decide_eq_false; omega
  · rw [if_neg h1]; congr 1; symm; apply decide_eq_false; omega
theorem iIvalOk (a b : Int) : impl_IvalOk.f a b = some (ivalOk a b) := by
  unfold impl_IvalOk.f ivalOk
  by_cases h1 : a ≤ b <;> by_cases h2 : -1000000000000 ≤ a <;> by_cases h3 : b ≤ 1000000000000 <;> simp [h1, h2, h3]
end Go.Proofs.Ytcgdnfaclbnflaa.C
set_option linter.unusedVariables false
set_option linter.unusedSimpArgs false
namespace Go.Proofs.Ytcgdnfaclbnflaa.G
open Go.RowKit Go.Proofs.YtcgdnfaclbnflaaW.PrintWords
end Go.Proofs.Ytcgdnfaclbnflaa.G

namespace Go.Proofs.Ytcgdnfaclbnflaa.P
open Go.RowKit Go.Proofs.YtcgdnfaclbnflaaW.PrintWords Go.Proofs.YtcgdnfaclbnflaaW.PrintLast Go.Proofs.YtcgdnfaclbnflaaW.PrintMore
attribute [local go_sem] max2_int min2_int max_two min_two max_three min_three max_four min_four
set_option linter.unusedVariables false
set_option linter.unusedSimpArgs false
end Go.Proofs.Ytcgdnfaclbnflaa.P

namespace Go.Proofs.Ytcgdnfaclbnflaa.P
open Go.RowKit Go.Proofs.YtcgdnfaclbnflaaW.PrintWords Go.Proofs.YtcgdnfaclbnflaaW.PrintLast Go.Proofs.YtcgdnfaclbnflaaW.PrintMore
attribute [local go_sem] max2_int min2_int max_two min_two max_three min_three max_four min_four
set_option linter.unusedVariables false
set_option linter.unusedSimpArgs false
end Go.Proofs.Ytcgdnfaclbnflaa.P

namespace Go.Proofs.Ytcgdnfaclbnflaa.P
open Go.RowKit Go.Proofs.YtcgdnfaclbnflaaW.PrintWords Go.Proofs.YtcgdnfaclbnflaaW.PrintLast Go.Proofs.YtcgdnfaclbnflaaW.PrintMore
attribute [local go_sem] max2_int min2_int max_two min_two max_three min_three max_four min_four
set_option linter.unusedVariables false
set_option linter.unusedSimpArgs false
end Go.Proofs.Ytcgdnfaclbnflaa.P

namespace Go.Proofs.Ytcgdnfaclbnflaa.P
open Go.RowKit Go.Proofs.YtcgdnfaclbnflaaW.PrintWords Go.Proofs.YtcgdnfaclbnflaaW.PrintLast Go.Proofs.YtcgdnfaclbnflaaW.PrintMore
attribute [local go_sem] max2_int min2_int max_two min_two max_three min_three max_four min_four
set_option linter.unusedVariables false
set_option linter.unusedSimpArgs false
end Go.Proofs.Ytcgdnfaclbnflaa.P

