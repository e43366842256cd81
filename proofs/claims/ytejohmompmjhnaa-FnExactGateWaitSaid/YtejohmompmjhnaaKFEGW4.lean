/- Texts of the seat's proofs, part 4: functions of the program told as plain functions, with their contracts, and what is shown of them. No condition. -/
import Derived.Test.YtejohmompmjhnaaUKFEGW
import Derived.Test.YtejohmompmjhnaaKFEGW1
import Derived.Test.YtejohmompmjhnaaKFEGW3
set_option linter.unusedVariables false
set_option linter.unusedSimpArgs false
namespace Go.Proofs.Ytejohmompmjhnaa.P
open Go.RowKit Go.Proofs.YtejohmompmjhnaaW.PrintWords Go.Proofs.YtejohmompmjhnaaW.PrintLast Go.Proofs.YtejohmompmjhnaaW.PrintMore
attribute [local go_sem] max2_int min2_int max_two min_two max_three min_three max_four min_four
set_option linter.unusedVariables false
set_option linter.unusedSimpArgs false
def spec_CarryOn.j0 : Nat → Int → Bool → Bool → Int → Int → Int → Int → Int → Option (Int × Int × Int)
  | 0, _, _, _, _, _, _, _, _ => none
  | k + 1, x2, x12, x745000, x745001, x745002, x745003, x746000, x746001 => if x12 = true then (some (0, 0, 1)) else (if x745000 = true then (if x2 < x745003 then (some (0, 0, 3)) else ((spec_Between.f k x746000 x746001 (wrap64 (x2 - x745003))).bind fun bt750 => (if bt750.2.2 = true then ((spec_PlusIval.f x745001 x745002 bt750.1 bt750.2.1).bind fun bt754 => (if bt754.2.2 = true then (some (bt754.1, bt754.2.1, 0)) else (some (0, 0, 4)))) else (some (0, 0, 4))))) else (some (0, 0, 2)))
def spec_CarryOn.f (k : Nat) (a0_0 : Bool) (a0_1 : Int) (a0_2 : Int) (a0_3 : Int) (a1_0 : Int) (a1_1 : Int) (a2 : Int) : Option (Int × Int × Int) := (spec_LocalOk.f a0_0 a0_1 a0_2 a0_3).bind fun t747 => (if t747 = true then ((spec_DriftOk.f a1_0 a1_1).bind fun t748 => (if t748 = true then ((spec_l2Time.f a2).bind fun t749 => (spec_CarryOn.j0 k a2 (!t749) a0_0 a0_1 a0_2 a0_3 a1_0 a1_1)) else (spec_CarryOn.j0 k a2 true a0_0 a0_1 a0_2 a0_3 a1_0 a1_1))) else (spec_CarryOn.j0 k a2 true a0_0 a0_1 a0_2 a0_3 a1_0 a1_1))
theorem spec_CarryOn.mono_l : ∀ k, (∀ y0 y1 y2 y3 y4 y5 y6 y7, LeO (spec_CarryOn.j0 k y0 y1 y2 y3 y4 y5 y6 y7) (spec_CarryOn.j0 (k + 1) y0 y1 y2 y3 y4 y5 y6 y7))
  | 0 => fun _ _ _ _ _ _ _ _ r h => by simp [spec_CarryOn.j0] at h
  | k + 1 => by
    have ih0 := spec_CarryOn.mono_l k
    · intro y0 y1 y2 y3 y4 y5 y6 y7
      unfold spec_CarryOn.j0
      repeat' first
      | (with_reducible exact ih0 _ _ _ _ _ _ _ _)
      | (with_reducible exact spec_Between.mono _ _ _ _)
      | (with_reducible exact LeO.refl _)
      | (with_reducible exact LeO.none _)
      | (with_reducible refine LeO.ite ?_ ?_)
      | (with_reducible refine LeO.bind ?_ (fun _ => ?_))
      | exact ih0 _ _ _ _ _ _ _ _
      | exact spec_Between.mono _ _ _ _
      | exact LeO.none _
      | refine LeO.ite ?_ ?_
      | refine LeO.bind ?_ (fun _ => ?_)
theorem spec_CarryOn.mono : ∀ a0 a1 a2 a3 a4 a5 a6 k, LeO (spec_CarryOn.f k a0 a1 a2 a3 a4 a5 a6) (spec_CarryOn.f (k + 1) a0 a1 a2 a3 a4 a5 a6) := by
  intro a0 a1 a2 a3 a4 a5 a6 k
  have ih0 := spec_CarryOn.mono_l k
  unfold spec_CarryOn.f
  repeat' first
      | (with_reducible exact ih0 _ _ _ _ _ _ _ _)
      | (with_reducible exact spec_Between.mono _ _ _ _)
      | (with_reducible exact LeO.refl _)
      | (with_reducible exact LeO.none _)
      | (with_reducible refine LeO.ite ?_ ?_)
      | (with_reducible refine LeO.bind ?_ (fun _ => ?_))
      | exact ih0 _ _ _ _ _ _ _ _
      | exact spec_Between.mono _ _ _ _
      | exact LeO.none _
      | refine LeO.ite ?_ ?_
      | refine LeO.bind ?_ (fun _ => ?_)
set_option maxHeartbeats 8000000 in
set_option maxRecDepth 100000 in
theorem spec_CarryOn.calls (k : Nat) (a0_0 : Bool) (a0_1 : Int) (a0_2 : Int) (a0_3 : Int) (a1_0 : Int) (a1_1 : Int) (a2 : Int) (r1 : Int) (r2 : Int) (r3 : Int) (w : World) (h : spec_CarryOn.f k a0_0 a0_1 a0_2 a0_3 a1_0 a1_1 a2 = some (r1, r2, r3)) :
    Calls Try.prog 33 #[.agg #[.bool a0_0, .int .i64 a0_1, .int .i64 a0_2, .int .i64 a0_3], .agg #[.int .i64 a1_0, .int .i64 a1_1], .int .i64 a2] w fun e w' => e = .returned (.tuple #[.agg #[.int .i64 r1, .int .i64 r2], .int .i64 r3]) ∧ Below w.heap.size w w' := by
  have hu62 := Try.underlying62
  have hu34 := Try.underlying34
  have hu32 := Try.underlying32
  have HB := am_ (Below.refl w.heap.size w)
  have H : ((spec_LocalOk.f a0_0 a0_1 a0_2 a0_3).bind fun t747 => (if t747 = true then ((spec_DriftOk.f a1_0 a1_1).bind fun t748 => (if t748 = true then ((spec_l2Time.f a2).bind fun t749 => (spec_CarryOn.j0 k a2 (!t749) a0_0 a0_1 a0_2 a0_3 a1_0 a1_1)) else (spec_CarryOn.j0 k a2 true a0_0 a0_1 a0_2 a0_3 a1_0 a1_1))) else (spec_CarryOn.j0 k a2 true a0_0 a0_1 a0_2 a0_3 a1_0 a1_1))) = some (r1, r2, r3) := h
  clear h
  have HC4 := Aside0.mk H
  clear H
  go_enter Try.func33, Try.ntmps33
  go_upto_region 1 with (first | ((with_reducible refine gate_dst (N := 3) rfl ?_); refine box_event ?hg (N := 3) ?hd (cs := #[.bool a0_0, .int .i64 a0_1, .int .i64 a0_2, .int .i64 a0_3]) (t := 62) ?hr ?_; (case hd => rfl); (case hg => rfl); (case hr => first|(go_simp;done)|(go_simp;rfl)); intro gb744 hg w5 hbox hb; have n0_ := am_ (below_step (hb_ HB.out) hb); have n1_ := am_ (hbox); have n2_ := am_ (hy_ hg (hb_ HB.out) : w.heap.size ≤ gb744); have n3_ := am_ (hy_ hg (hb_ HB.out) : w.heap.size ≤ gb744); clear HB; have HB := n0_; have BK744 := n1_; have GW744 := n2_; have GE744 := n3_; clear n0_ n1_ n2_ n3_; clear hb hbox hg) | ((with_reducible refine gate_dst (N := 4) rfl ?_); refine box_event ?hg (N := 4) ?hd (cs := #[.int .i64 a1_0, .int .i64 a1_1]) (t := 34) ?hr ?_; (case hd => rfl); (case hg => rfl); (case hr => first|(go_simp;done)|(go_simp;rfl)); intro gb745 hg w6 hbox hb; have n0_ := am_ (bb_ BK744.out hb); have n1_ := am_ (below_step (hb1_ HB.out GE744.out) hb); have n2_ := am_ (hbox); have n3_ := am_ (hy_ hg (hb1_ HB.out GE744.out) : w.heap.size ≤ gb745); have n4_ := am_ (hy_ hg (hb1_ HB.out GE744.out) : w.heap.size ≤ gb745); have n5_ := am_ ((bl_ hg BK744.out : gb744 ≠ gb745)); have n6_ := am_ ((bg_ hg BK744.out : gb745 ≠ gb744)); clear BK744; clear HB; have BK744 := n0_; have HB := n1_; have BK745 := n2_; have GW745 := n3_; have GE745 := n4_; have NB744_745 := n5_; have NB745_744 := n6_; clear n0_ n1_ n2_ n3_ n4_ n5_ n6_; clear hb hbox hg) | ((with_reducible refine gate_dst (N := 6) rfl ?_); refine box_event ?hg (N := 6) ?hd (cs := #[.int .i64 0, .int .i64 0]) (t := 32) ?hr ?_; (case hd => rfl); (case hg => rfl); (case hr => first|(go_simp;done)|(go_simp;rfl)); intro gb746 hg w7 hbox hb; have n0_ := am_ (bb_ BK744.out hb); have n1_ := am_ (bb_ BK745.out hb); have n2_ := am_ (below_step (hb2_ HB.out GE744.out GE745.out) hb); have n3_ := am_ (hbox); have n4_ := am_ (hy_ hg (hb2_ HB.out GE744.out GE745.out) : w.heap.size ≤ gb746); have n5_ := am_ (hy_ hg (hb2_ HB.out GE744.out GE745.out) : w.heap.size ≤ gb746); have n6_ := am_ ((bl_ hg BK744.out : gb744 ≠ gb746)); have n7_ := am_ ((bg_ hg BK744.out : gb746 ≠ gb744)); have n8_ := am_ ((bl_ hg BK745.out : gb745 ≠ gb746)); have n9_ := am_ ((bg_ hg BK745.out : gb746 ≠ gb745)); clear BK744; clear BK745; clear HB; have BK744 := n0_; have BK745 := n1_; have HB := n2_; have BK746 := n3_; have GW746 := n4_; have GE746 := n5_; have NB744_746 := n6_; have NB746_744 := n7_; have NB745_746 := n8_; have NB746_745 := n9_; clear n0_ n1_ n2_ n3_ n4_ n5_ n6_ n7_ n8_ n9_; clear hb hbox hg))
  (try simp only [Act.put, List.setIfInBounds_toArray, List.set_cons_zero, List.set_cons_succ])
  go_cut [12] (fun v12 wc => ∃ (kq : Nat) (x12_3 : Bool), v12 = .bool x12_3 ∧ Aside0 (spec_CarryOn.j0 kq a2 x12_3 a0_0 a0_1 a0_2 a0_3 a1_0 a1_1 = some (r1, r2, r3)) ∧ Aside0 (kq ≤ k) ∧ Aside0 (wc.heap[gb744]? = some (.cells #[.bool a0_0, .int .i64 a0_1, .int .i64 a0_2, .int .i64 a0_3] 62 (0, 0))) ∧ Aside0 (wc.heap[gb745]? = some (.cells #[.int .i64 a1_0, .int .i64 a1_1] 34 (0, 0))) ∧ Aside0 (wc.heap[gb746]? = some (.cells #[.int .i64 0, .int .i64 0] 32 (0, 0))) ∧ Aside0 (Below w.heap.size w wc))
  case first =>
    have H := HC4.out
    clear HC4
    replace H := Option.bind_eq_some_iff.mp H
    obtain ⟨t747, A80, H⟩ := H
    replace H : (if t747 = true then ((spec_DriftOk.f a1_0 a1_1).bind fun t748 => (if t748 = true then ((spec_l2Time.f a2).bind fun t749 => (spec_CarryOn.j0 k a2 (!t749) a0_0 a0_1 a0_2 a0_3 a1_0 a1_1)) else (spec_CarryOn.j0 k a2 true a0_0 a0_1 a0_2 a0_3 a1_0 a1_1))) else (spec_CarryOn.j0 k a2 true a0_0 a0_1 a0_2 a0_3 a1_0 a1_1)) = some (r1, r2, r3) := H
    have A8 := Aside0.mk A80
    clear A80
    by_cases c9 : t747 = true
    · subst c9
      have H1 : ((spec_DriftOk.f a1_0 a1_1).bind fun t748 => (if t748 = true then ((spec_l2Time.f a2).bind fun t749 => (spec_CarryOn.j0 k a2 (!t749) a0_0 a0_1 a0_2 a0_3 a1_0 a1_1)) else (spec_CarryOn.j0 k a2 true a0_0 a0_1 a0_2 a0_3 a1_0 a1_1))) = some (r1, r2, r3) := by rw [if_pos rfl] at H; exact H
      clear H
      have H := H1
      clear H1
      replace H := Option.bind_eq_some_iff.mp H
      obtain ⟨t748, A100, H⟩ := H
      replace H : (if t748 = true then ((spec_l2Time.f a2).bind fun t749 => (spec_CarryOn.j0 k a2 (!t749) a0_0 a0_1 a0_2 a0_3 a1_0 a1_1)) else (spec_CarryOn.j0 k a2 true a0_0 a0_1 a0_2 a0_3 a1_0 a1_1)) = some (r1, r2, r3) := H
      have A10 := Aside0.mk A100
      clear A100
      by_cases c11 : t748 = true
      · subst c11
        have H1 : ((spec_l2Time.f a2).bind fun t749 => (spec_CarryOn.j0 k a2 (!t749) a0_0 a0_1 a0_2 a0_3 a1_0 a1_1)) = some (r1, r2, r3) := by rw [if_pos rfl] at H; exact H
        clear H
        have H := H1
        clear H1
        replace H := Option.bind_eq_some_iff.mp H
        obtain ⟨t749, A120, H⟩ := H
        replace H : (spec_CarryOn.j0 k a2 (!t749) a0_0 a0_1 a0_2 a0_3 a1_0 a1_1) = some (r1, r2, r3) := H
        have A12 := Aside0.mk A120
        clear A120
        have H' := Aside0.mk H
        clear H
        have hnb13 := NB744_745.out
        have hnc13 := NB745_744.out
        have hnb14 := NB744_746.out
        have hnc14 := NB746_744.out
        have hcz15_0 := bc_ BK744.out 0 (.bool a0_0) rfl
        have hcz15_1 := bc_ BK744.out 1 (.int .i64 a0_1) rfl
        have hcz15_2 := bc_ BK744.out 2 (.int .i64 a0_2) rfl
        have hcz15_3 := bc_ BK744.out 3 (.int .i64 a0_3) rfl
        have hfz15_0 := blk_frozen BK744.out 0
        have hfz15_1 := blk_frozen BK744.out 1
        have hfz15_2 := blk_frozen BK744.out 2
        have hfz15_3 := blk_frozen BK744.out 3
        go_wp2_with (first | ((with_reducible refine gate_callee (f := 81) rfl ?_); refine goesL_ (some 14) rfl rfl Try.func81 (by kernel_rfl) rfl #[.agg #[.bool a0_0, .int .i64 a0_1, .int .i64 a0_2, .int .i64 a0_3]] rfl arr_ ?_; (with_reducible refine (spec_LocalOk.calls a0_0 a0_1 a0_2 a0_3 true _ A8.out).mono ?_); rintro e w16 ⟨rfl, hb⟩; refine ⟨_, rfl, ?_⟩; have n0_ := am_ (bb_ BK744.out hb); have n1_ := am_ (bb_ BK745.out hb); have n2_ := am_ (bb_ BK746.out hb); have n3_ := am_ (below_step (hb3_ HB.out GE744.out GE745.out GE746.out) hb); clear BK744; clear BK745; clear BK746; clear HB; have BK744 := n0_; have BK745 := n1_; have BK746 := n2_; have HB := n3_; clear n0_ n1_ n2_ n3_; (try clear hb); (try clear hb2); (try clear hk); (try clear hi); have hnb17 := NB745_746.out; have hnc17 := NB746_745.out; have hcz18_0 := bc_ BK745.out 0 (.int .i64 a1_0) rfl; have hcz18_1 := bc_ BK745.out 1 (.int .i64 a1_1) rfl; have hfz18_0 := blk_frozen BK745.out 0; have hfz18_1 := blk_frozen BK745.out 1) | (go_at_call 37; (with_reducible refine (spec_DriftOk.calls a1_0 a1_1 true _ A10.out).mono ?_); rintro e w19 ⟨rfl, hb⟩; have n0_ := am_ (bb_ BK744.out hb); have n1_ := am_ (bb_ BK745.out hb); have n2_ := am_ (bb_ BK746.out hb); have n3_ := am_ (below_step (hb3_ HB.out GE744.out GE745.out GE746.out) hb); clear BK744; clear BK745; clear BK746; clear HB; have BK744 := n0_; have BK745 := n1_; have BK746 := n2_; have HB := n3_; clear n0_ n1_ n2_ n3_; (try clear hb); (try clear hb2); (try clear hk); (try clear hi)) | (go_at_call 67; (with_reducible refine (spec_l2Time.calls a2 t749 _ A12.out).mono ?_); rintro e w' ⟨rfl, ⟨nd, rfl⟩⟩))
        go_meet
        case rel => exact ⟨_, (!t749), (by first | rfl | (simp; done) | (simp [*]; done)), H', ⟨by first | omega | exact Nat.le_refl _⟩, ⟨bk_ BK744.out⟩, ⟨bk_ BK745.out⟩, ⟨bk_ BK746.out⟩, ⟨hb3_ HB.out GE744.out GE745.out GE746.out⟩⟩
      · replace c11 := Bool.eq_false_iff.mpr c11
        subst c11
        have H1 : (spec_CarryOn.j0 k a2 true a0_0 a0_1 a0_2 a0_3 a1_0 a1_1) = some (r1, r2, r3) := by rw [if_neg (show ¬ (false = true) by decide)] at H; exact H
        clear H
        have H := H1
        clear H1
        have H' := Aside0.mk H
        clear H
        have hnb20 := NB744_745.out
        have hnc20 := NB745_744.out
        have hnb21 := NB744_746.out
        have hnc21 := NB746_744.out
        have hcz22_0 := bc_ BK744.out 0 (.bool a0_0) rfl
        have hcz22_1 := bc_ BK744.out 1 (.int .i64 a0_1) rfl
        have hcz22_2 := bc_ BK744.out 2 (.int .i64 a0_2) rfl
        have hcz22_3 := bc_ BK744.out 3 (.int .i64 a0_3) rfl
        have hfz22_0 := blk_frozen BK744.out 0
        have hfz22_1 := blk_frozen BK744.out 1
        have hfz22_2 := blk_frozen BK744.out 2
        have hfz22_3 := blk_frozen BK744.out 3
        go_wp2_with (first | ((with_reducible refine gate_callee (f := 81) rfl ?_); refine goesL_ (some 14) rfl rfl Try.func81 (by kernel_rfl) rfl #[.agg #[.bool a0_0, .int .i64 a0_1, .int .i64 a0_2, .int .i64 a0_3]] rfl arr_ ?_; (with_reducible refine (spec_LocalOk.calls a0_0 a0_1 a0_2 a0_3 true _ A8.out).mono ?_); rintro e w23 ⟨rfl, hb⟩; refine ⟨_, rfl, ?_⟩; have n0_ := am_ (bb_ BK744.out hb); have n1_ := am_ (bb_ BK745.out hb); have n2_ := am_ (bb_ BK746.out hb); have n3_ := am_ (below_step (hb3_ HB.out GE744.out GE745.out GE746.out) hb); clear BK744; clear BK745; clear BK746; clear HB; have BK744 := n0_; have BK745 := n1_; have BK746 := n2_; have HB := n3_; clear n0_ n1_ n2_ n3_; (try clear hb); (try clear hb2); (try clear hk); (try clear hi); have hnb24 := NB745_746.out; have hnc24 := NB746_745.out; have hcz25_0 := bc_ BK745.out 0 (.int .i64 a1_0) rfl; have hcz25_1 := bc_ BK745.out 1 (.int .i64 a1_1) rfl; have hfz25_0 := blk_frozen BK745.out 0; have hfz25_1 := blk_frozen BK745.out 1) | (go_at_call 37; (with_reducible refine (spec_DriftOk.calls a1_0 a1_1 false _ A10.out).mono ?_); rintro e w26 ⟨rfl, hb⟩; have n0_ := am_ (bb_ BK744.out hb); have n1_ := am_ (bb_ BK745.out hb); have n2_ := am_ (bb_ BK746.out hb); have n3_ := am_ (below_step (hb3_ HB.out GE744.out GE745.out GE746.out) hb); clear BK744; clear BK745; clear BK746; clear HB; have BK744 := n0_; have BK745 := n1_; have BK746 := n2_; have HB := n3_; clear n0_ n1_ n2_ n3_; (try clear hb); (try clear hb2); (try clear hk); (try clear hi)))
        go_meet
        case rel => exact ⟨_, (true), (by first | rfl | (simp; done) | (simp [*]; done)), H', ⟨by first | omega | exact Nat.le_refl _⟩, ⟨bk_ BK744.out⟩, ⟨bk_ BK745.out⟩, ⟨bk_ BK746.out⟩, ⟨hb3_ HB.out GE744.out GE745.out GE746.out⟩⟩
    · replace c9 := Bool.eq_false_iff.mpr c9
      subst c9
      have H1 : (spec_CarryOn.j0 k a2 true a0_0 a0_1 a0_2 a0_3 a1_0 a1_1) = some (r1, r2, r3) := by rw [if_neg (show ¬ (false = true) by decide)] at H; exact H
      clear H
      have H := H1
      clear H1
      have H' := Aside0.mk H
      clear H
      have hnb27 := NB744_745.out
      have hnc27 := NB745_744.out
      have hnb28 := NB744_746.out
      have hnc28 := NB746_744.out
      have hcz29_0 := bc_ BK744.out 0 (.bool a0_0) rfl
      have hcz29_1 := bc_ BK744.out 1 (.int .i64 a0_1) rfl
      have hcz29_2 := bc_ BK744.out 2 (.int .i64 a0_2) rfl
      have hcz29_3 := bc_ BK744.out 3 (.int .i64 a0_3) rfl
      have hfz29_0 := blk_frozen BK744.out 0
      have hfz29_1 := blk_frozen BK744.out 1
      have hfz29_2 := blk_frozen BK744.out 2
      have hfz29_3 := blk_frozen BK744.out 3
      go_wp2_with (first | ((with_reducible refine gate_callee (f := 81) rfl ?_); refine goesL_ (some 14) rfl rfl Try.func81 (by kernel_rfl) rfl #[.agg #[.bool a0_0, .int .i64 a0_1, .int .i64 a0_2, .int .i64 a0_3]] rfl arr_ ?_; (with_reducible refine (spec_LocalOk.calls a0_0 a0_1 a0_2 a0_3 false _ A8.out).mono ?_); rintro e w30 ⟨rfl, hb⟩; refine ⟨_, rfl, ?_⟩; have n0_ := am_ (bb_ BK744.out hb); have n1_ := am_ (bb_ BK745.out hb); have n2_ := am_ (bb_ BK746.out hb); have n3_ := am_ (below_step (hb3_ HB.out GE744.out GE745.out GE746.out) hb); clear BK744; clear BK745; clear BK746; clear HB; have BK744 := n0_; have BK745 := n1_; have BK746 := n2_; have HB := n3_; clear n0_ n1_ n2_ n3_; (try clear hb); (try clear hb2); (try clear hk); (try clear hi)))
      go_meet
      case rel => exact ⟨_, (true), (by first | rfl | (simp; done) | (simp [*]; done)), H', ⟨by first | omega | exact Nat.le_refl _⟩, ⟨bk_ BK744.out⟩, ⟨bk_ BK745.out⟩, ⟨bk_ BK746.out⟩, ⟨hb3_ HB.out GE744.out GE745.out GE746.out⟩⟩
  case rest =>
    clear HC4
    try clear c1
    try clear c2
    try clear p2
    try clear c3
    try clear c8
    try clear c9
    try clear c11
    try clear c13
    try clear c14
    try clear c17
    try clear c20
    try clear c21
    try clear c24
    try clear c27
    try clear c28
    try clear hcz15_0
    try clear hcz15_1
    try clear hcz15_2
    try clear hcz15_3
    try clear hcz18_0
    try clear hcz18_1
    try clear hcz22_0
    try clear hcz22_1
    try clear hcz22_2
    try clear hcz22_3
    try clear hcz25_0
    try clear hcz25_1
    try clear hcz29_0
    try clear hcz29_1
    try clear hcz29_2
    try clear hcz29_3
    try clear hfz15_0
    try clear hfz15_1
    try clear hfz15_2
    try clear hfz15_3
    try clear hfz18_0
    try clear hfz18_1
    try clear hfz22_0
    try clear hfz22_1
    try clear hfz22_2
    try clear hfz22_3
    try clear hfz25_0
    try clear hfz25_1
    try clear hfz29_0
    try clear hfz29_1
    try clear hfz29_2
    try clear hfz29_3
    obtain ⟨kq, x12_3, rfl, HA, HJ3, BK744, BK745, BK746, HB⟩ := hcut
    cases kq with
    | zero => exact absurd HA.out (by simp [spec_CarryOn.j0])
    | succ kj3 =>
      have H := HA.out
      clear HA
      simp only [spec_CarryOn.j0] at H
      by_cases c31 : x12_3 = true
      · subst c31
        have H1 : (some (0, 0, 1)) = some (r1, r2, r3) := by rw [if_pos rfl] at H; exact H
        clear H
        have H := H1
        clear H1
        simp only [Option.some.injEq, Prod.mk.injEq] at H
        obtain ⟨rfl, rfl, rfl⟩ := H
        have hnb32 := NB746_744.out
        have hnc32 := NB744_746.out
        have hnb33 := NB746_745.out
        have hnc33 := NB745_746.out
        have hcz34_0 := bc_ BK746.out 0 (.int .i64 0) rfl
        have hcz34_1 := bc_ BK746.out 1 (.int .i64 0) rfl
        have hfz34_0 := blk_frozen BK746.out 0
        have hfz34_1 := blk_frozen BK746.out 1
        go_wp2
        refine bodyPost_ret (results_ct rfl _ _ gb746 32 #[.int .i64 0, .int .i64 0] (0, 0) _ rfl (by (with_reducible repeat (first | refine blk_drewN ?_ _ | refine blk_drew ?_ | refine blk_alloc ?_ _)); refine blk_put (cs := #[.int .i64 0, .int .i64 0]) ?_ 1 _ rfl; (with_reducible repeat (first | refine blk_drewN ?_ _ | refine blk_drew ?_ | refine blk_alloc ?_ _)); refine blk_put (cs := #[.int .i64 0, .int .i64 0]) ?_ 0 _ rfl; (with_reducible repeat (first | refine blk_drewN ?_ _ | refine blk_drew ?_ | refine blk_alloc ?_ _)); exact BK746.out) Try.underlying32 rfl (by kernel_rfl)) rfl ?_
        exact ⟨er_, hb3_ HB.out GE744.out GE745.out GE746.out⟩
      · replace c31 := Bool.eq_false_iff.mpr c31
        subst c31
        have H1 : (if a0_0 = true then (if a2 < a0_3 then (some (0, 0, 3)) else ((spec_Between.f kj3 a1_0 a1_1 (wrap64 (a2 - a0_3))).bind fun bt750 => (if bt750.2.2 = true then ((spec_PlusIval.f a0_1 a0_2 bt750.1 bt750.2.1).bind fun bt754 => (if bt754.2.2 = true then (some (bt754.1, bt754.2.1, 0)) else (some (0, 0, 4)))) else (some (0, 0, 4))))) else (some (0, 0, 2))) = some (r1, r2, r3) := by rw [if_neg (show ¬ (false = true) by decide)] at H; exact H
        clear H
        have H := H1
        clear H1
        by_cases c35 : a0_0 = true
        · subst c35
          have H1 : (if a2 < a0_3 then (some (0, 0, 3)) else ((spec_Between.f kj3 a1_0 a1_1 (wrap64 (a2 - a0_3))).bind fun bt750 => (if bt750.2.2 = true then ((spec_PlusIval.f a0_1 a0_2 bt750.1 bt750.2.1).bind fun bt754 => (if bt754.2.2 = true then (some (bt754.1, bt754.2.1, 0)) else (some (0, 0, 4)))) else (some (0, 0, 4))))) = some (r1, r2, r3) := by rw [if_pos rfl] at H; exact H
          clear H
          have H := H1
          clear H1
          by_cases c36 : a2 < a0_3
          · rw [if_pos c36] at H
            have c36b0 : decide (a2 < a0_3) = true := decide_eq_true c36
            clear c36
            simp only [Option.some.injEq, Prod.mk.injEq] at H
            obtain ⟨rfl, rfl, rfl⟩ := H
            have hnb37 := NB744_745.out
            have hnc37 := NB745_744.out
            have hnb38 := NB744_746.out
            have hnc38 := NB746_744.out
            have hcz39_0 := bc_ BK744.out 0 (.bool true) rfl
            have hcz39_1 := bc_ BK744.out 1 (.int .i64 a0_1) rfl
            have hcz39_2 := bc_ BK744.out 2 (.int .i64 a0_2) rfl
            have hcz39_3 := bc_ BK744.out 3 (.int .i64 a0_3) rfl
            have hfz39_0 := blk_frozen BK744.out 0
            have hfz39_1 := blk_frozen BK744.out 1
            have hfz39_2 := blk_frozen BK744.out 2
            have hfz39_3 := blk_frozen BK744.out 3
            have hnb40 := NB746_745.out
            have hnc40 := NB745_746.out
            have hcz41_0 := bc_ BK746.out 0 (.int .i64 0) rfl
            have hcz41_1 := bc_ BK746.out 1 (.int .i64 0) rfl
            have hfz41_0 := blk_frozen BK746.out 0
            have hfz41_1 := blk_frozen BK746.out 1
            go_wp2
            refine bodyPost_ret (results_ct rfl _ _ gb746 32 #[.int .i64 0, .int .i64 0] (0, 0) _ rfl (by (with_reducible repeat (first | refine blk_drewN ?_ _ | refine blk_drew ?_ | refine blk_alloc ?_ _)); refine blk_put (cs := #[.int .i64 0, .int .i64 0]) ?_ 1 _ rfl; (with_reducible repeat (first | refine blk_drewN ?_ _ | refine blk_drew ?_ | refine blk_alloc ?_ _)); refine blk_put (cs := #[.int .i64 0, .int .i64 0]) ?_ 0 _ rfl; (with_reducible repeat (first | refine blk_drewN ?_ _ | refine blk_drew ?_ | refine blk_alloc ?_ _)); exact BK746.out) Try.underlying32 rfl (by kernel_rfl)) rfl ?_
            exact ⟨er_, hb3_ HB.out GE744.out GE745.out GE746.out⟩
          · rw [if_neg c36] at H
            have c36b0 : decide (a2 < a0_3) = false := decide_eq_false c36
            clear c36
            replace H := Option.bind_eq_some_iff.mp H
            obtain ⟨⟨t750, t751, t752⟩, A420, H⟩ := H
            replace H : (if t752 = true then ((spec_PlusIval.f a0_1 a0_2 t750 t751).bind fun bt754 => (if bt754.2.2 = true then (some (bt754.1, bt754.2.1, 0)) else (some (0, 0, 4)))) else (some (0, 0, 4))) = some (r1, r2, r3) := H
            have A42 := Aside0.mk A420
            clear A420
            by_cases c43 : t752 = true
            · subst c43
              have H1 : ((spec_PlusIval.f a0_1 a0_2 t750 t751).bind fun bt754 => (if bt754.2.2 = true then (some (bt754.1, bt754.2.1, 0)) else (some (0, 0, 4)))) = some (r1, r2, r3) := by rw [if_pos rfl] at H; exact H
              clear H
              have H := H1
              clear H1
              replace H := Option.bind_eq_some_iff.mp H
              obtain ⟨⟨t754, t755, t756⟩, A440, H⟩ := H
              replace H : (if t756 = true then (some (t754, t755, 0)) else (some (0, 0, 4))) = some (r1, r2, r3) := H
              have A44 := Aside0.mk A440
              clear A440
              by_cases c45 : t756 = true
              · subst c45
                have H1 : (some (t754, t755, 0)) = some (r1, r2, r3) := by rw [if_pos rfl] at H; exact H
                clear H
                have H := H1
                clear H1
                simp only [Option.some.injEq, Prod.mk.injEq] at H
                obtain ⟨rfl, rfl, rfl⟩ := H
                have hnb46 := NB744_745.out
                have hnc46 := NB745_744.out
                have hnb47 := NB744_746.out
                have hnc47 := NB746_744.out
                have hcz48_0 := bc_ BK744.out 0 (.bool true) rfl
                have hcz48_1 := bc_ BK744.out 1 (.int .i64 a0_1) rfl
                have hcz48_2 := bc_ BK744.out 2 (.int .i64 a0_2) rfl
                have hcz48_3 := bc_ BK744.out 3 (.int .i64 a0_3) rfl
                have hfz48_0 := blk_frozen BK744.out 0
                have hfz48_1 := blk_frozen BK744.out 1
                have hfz48_2 := blk_frozen BK744.out 2
                have hfz48_3 := blk_frozen BK744.out 3
                have hnb49 := NB745_746.out
                have hnc49 := NB746_745.out
                have hcz50_0 := bc_ BK745.out 0 (.int .i64 a1_0) rfl
                have hcz50_1 := bc_ BK745.out 1 (.int .i64 a1_1) rfl
                have hfz50_0 := blk_frozen BK745.out 0
                have hfz50_1 := blk_frozen BK745.out 1
                go_wp2_with (first | ((with_reducible refine gate_callee (f := 82) rfl ?_); refine goesL_ (some 44) rfl rfl Try.func82 (by kernel_rfl) rfl #[.agg #[.int .i64 a1_0, .int .i64 a1_1], .int .i64 (wrap64 (a2 - a0_3))] rfl arr_ ?_; (with_reducible refine (spec_Between.calls kj3 a1_0 a1_1 (wrap64 (a2 - a0_3)) t750 t751 true _ A42.out).mono ?_); rintro e w51 ⟨rfl, hb⟩; refine ⟨_, rfl, ?_⟩; have n0_ := am_ (bb_ BK744.out hb); have n1_ := am_ (bb_ BK745.out hb); have n2_ := am_ (bb_ BK746.out hb); have n3_ := am_ (below_step (hb3_ HB.out GE744.out GE745.out GE746.out) hb); clear BK744; clear BK745; clear BK746; clear HB; have BK744 := n0_; have BK745 := n1_; have BK746 := n2_; have HB := n3_; clear n0_ n1_ n2_ n3_; (try clear hb); (try clear hb2); (try clear hk); (try clear hi)) | ((with_reducible refine gate_dst (N := 8) rfl ?_); refine box_event ?hg (N := 8) ?hd (cs := #[.int .i64 0, .int .i64 0]) (t := 32) ?hr ?_; (case hd => rfl); (case hg => rfl); (case hr => first|(go_simp;done)|(go_simp;rfl)); intro gb753 hg w52 hbox hb; have n0_ := am_ (bb_ BK744.out hb); have n1_ := am_ (bb_ BK745.out hb); have n2_ := am_ (bb_ BK746.out hb); have n3_ := am_ (below_step (hb3_ HB.out GE744.out GE745.out GE746.out) hb); have n4_ := am_ (hbox); have n5_ := am_ (hy_ hg (hb3_ HB.out GE744.out GE745.out GE746.out) : w.heap.size ≤ gb753); have n6_ := am_ (hy_ hg (hb3_ HB.out GE744.out GE745.out GE746.out) : w.heap.size ≤ gb753); have n7_ := am_ ((bl_ hg BK744.out : gb744 ≠ gb753)); have n8_ := am_ ((bg_ hg BK744.out : gb753 ≠ gb744)); have n9_ := am_ ((bl_ hg BK745.out : gb745 ≠ gb753)); have n10_ := am_ ((bg_ hg BK745.out : gb753 ≠ gb745)); have n11_ := am_ ((bl_ hg BK746.out : gb746 ≠ gb753)); have n12_ := am_ ((bg_ hg BK746.out : gb753 ≠ gb746)); clear BK744; clear BK745; clear BK746; clear HB; have BK744 := n0_; have BK745 := n1_; have BK746 := n2_; have HB := n3_; have BK753 := n4_; have GW753 := n5_; have GE753 := n6_; have NB744_753 := n7_; have NB753_744 := n8_; have NB745_753 := n9_; have NB753_745 := n10_; have NB746_753 := n11_; have NB753_746 := n12_; clear n0_ n1_ n2_ n3_ n4_ n5_ n6_ n7_ n8_ n9_ n10_ n11_ n12_; clear hb hbox hg; have hnb53 := NB753_744.out; have hnc53 := NB744_753.out; have hnb54 := NB753_745.out; have hnc54 := NB745_753.out; have hnb55 := NB753_746.out; have hnc55 := NB746_753.out; have hcz56_0 := bc_ BK753.out 0 (.int .i64 0) rfl; have hcz56_1 := bc_ BK753.out 1 (.int .i64 0) rfl; have hfz56_0 := blk_frozen BK753.out 0; have hfz56_1 := blk_frozen BK753.out 1; have hcz57_0 := bc_ BK744.out 0 (.bool true) rfl; have hcz57_1 := bc_ BK744.out 1 (.int .i64 a0_1) rfl; have hcz57_2 := bc_ BK744.out 2 (.int .i64 a0_2) rfl; have hcz57_3 := bc_ BK744.out 3 (.int .i64 a0_3) rfl; have hfz57_0 := blk_frozen BK744.out 0; have hfz57_1 := blk_frozen BK744.out 1; have hfz57_2 := blk_frozen BK744.out 2; have hfz57_3 := blk_frozen BK744.out 3) | ((with_reducible refine gate_callee (f := 83) rfl ?_); refine goesL_ (some 54) rfl rfl Try.func83 (by kernel_rfl) rfl #[.agg #[.int .i64 a0_1, .int .i64 a0_2], .agg #[.int .i64 t750, .int .i64 t751]] rfl arr_ ?_; (with_reducible refine (spec_PlusIval.calls a0_1 a0_2 t750 t751 t754 t755 true _ A44.out).mono ?_); rintro e w58 ⟨rfl, hb⟩; refine ⟨_, rfl, ?_⟩; have n0_ := am_ (blk_below (g := gb744) (o := .cells #[.bool true, .int .i64 a0_1, .int .i64 a0_2, .int .i64 a0_3] 62 (0, 0)) (by (with_reducible repeat (first | refine blk_drewN ?_ _ | refine blk_drew ?_ | refine blk_alloc ?_ _)); refine blk_far ?_ NB744_753.out _; (with_reducible repeat (first | refine blk_drewN ?_ _ | refine blk_drew ?_ | refine blk_alloc ?_ _)); refine blk_far ?_ NB744_753.out _; (with_reducible repeat (first | refine blk_drewN ?_ _ | refine blk_drew ?_ | refine blk_alloc ?_ _)); exact BK744.out) hb); have n1_ := am_ (blk_below (g := gb745) (o := .cells #[.int .i64 a1_0, .int .i64 a1_1] 34 (0, 0)) (by (with_reducible repeat (first | refine blk_drewN ?_ _ | refine blk_drew ?_ | refine blk_alloc ?_ _)); refine blk_far ?_ NB745_753.out _; (with_reducible repeat (first | refine blk_drewN ?_ _ | refine blk_drew ?_ | refine blk_alloc ?_ _)); refine blk_far ?_ NB745_753.out _; (with_reducible repeat (first | refine blk_drewN ?_ _ | refine blk_drew ?_ | refine blk_alloc ?_ _)); exact BK745.out) hb); have n2_ := am_ (blk_below (g := gb746) (o := .cells #[.int .i64 0, .int .i64 0] 32 (0, 0)) (by (with_reducible repeat (first | refine blk_drewN ?_ _ | refine blk_drew ?_ | refine blk_alloc ?_ _)); refine blk_far ?_ NB746_753.out _; (with_reducible repeat (first | refine blk_drewN ?_ _ | refine blk_drew ?_ | refine blk_alloc ?_ _)); refine blk_far ?_ NB746_753.out _; (with_reducible repeat (first | refine blk_drewN ?_ _ | refine blk_drew ?_ | refine blk_alloc ?_ _)); exact BK746.out) hb); have n3_ := am_ (blk_below (g := gb753) (o := .cells #[.int .i64 t750, .int .i64 t751] 32 (0, 0)) (by (with_reducible repeat (first | refine blk_drewN ?_ _ | refine blk_drew ?_ | refine blk_alloc ?_ _)); refine blk_put (cs := #[.int .i64 t750, .int .i64 0]) ?_ 1 _ rfl; (with_reducible repeat (first | refine blk_drewN ?_ _ | refine blk_drew ?_ | refine blk_alloc ?_ _)); refine blk_put (cs := #[.int .i64 0, .int .i64 0]) ?_ 0 _ rfl; (with_reducible repeat (first | refine blk_drewN ?_ _ | refine blk_drew ?_ | refine blk_alloc ?_ _)); exact BK753.out) hb); have n4_ := am_ (below_step (hb4_ HB.out GE744.out GE745.out GE746.out GE753.out) hb); clear BK744; clear BK745; clear BK746; clear BK753; clear HB; have BK744 := n0_; have BK745 := n1_; have BK746 := n2_; have BK753 := n3_; have HB := n4_; clear n0_ n1_ n2_ n3_ n4_; (try clear hb); (try clear hb2); (try clear hk); (try clear hi)) | ((with_reducible refine gate_dst (N := 10) rfl ?_); refine box_event ?hg (N := 10) ?hd (cs := #[.int .i64 0, .int .i64 0]) (t := 32) ?hr ?_; (case hd => rfl); (case hg => rfl); (case hr => first|(go_simp;done)|(go_simp;rfl)); intro gb757 hg w59 hbox hb; have n0_ := am_ (bb_ BK744.out hb); have n1_ := am_ (bb_ BK745.out hb); have n2_ := am_ (bb_ BK746.out hb); have n3_ := am_ (bb_ BK753.out hb); have n4_ := am_ (below_step (hb4_ HB.out GE744.out GE745.out GE746.out GE753.out) hb); have n5_ := am_ (hbox); have n6_ := am_ (hy_ hg (hb4_ HB.out GE744.out GE745.out GE746.out GE753.out) : w.heap.size ≤ gb757); have n7_ := am_ (hy_ hg (hb4_ HB.out GE744.out GE745.out GE746.out GE753.out) : w.heap.size ≤ gb757); have n8_ := am_ ((bl_ hg BK744.out : gb744 ≠ gb757)); have n9_ := am_ ((bg_ hg BK744.out : gb757 ≠ gb744)); have n10_ := am_ ((bl_ hg BK745.out : gb745 ≠ gb757)); have n11_ := am_ ((bg_ hg BK745.out : gb757 ≠ gb745)); have n12_ := am_ ((bl_ hg BK746.out : gb746 ≠ gb757)); have n13_ := am_ ((bg_ hg BK746.out : gb757 ≠ gb746)); have n14_ := am_ ((bl_ hg BK753.out : gb753 ≠ gb757)); have n15_ := am_ ((bg_ hg BK753.out : gb757 ≠ gb753)); clear BK744; clear BK745; clear BK746; clear BK753; clear HB; have BK744 := n0_; have BK745 := n1_; have BK746 := n2_; have BK753 := n3_; have HB := n4_; have BK757 := n5_; have GW757 := n6_; have GE757 := n7_; have NB744_757 := n8_; have NB757_744 := n9_; have NB745_757 := n10_; have NB757_745 := n11_; have NB746_757 := n12_; have NB757_746 := n13_; have NB753_757 := n14_; have NB757_753 := n15_; clear n0_ n1_ n2_ n3_ n4_ n5_ n6_ n7_ n8_ n9_ n10_ n11_ n12_ n13_ n14_ n15_; clear hb hbox hg; have hnb60 := NB757_744.out; have hnc60 := NB744_757.out; have hnb61 := NB757_745.out; have hnc61 := NB745_757.out; have hnb62 := NB757_746.out; have hnc62 := NB746_757.out; have hnb63 := NB757_753.out; have hnc63 := NB753_757.out; have hcz64_0 := bc_ BK757.out 0 (.int .i64 0) rfl; have hcz64_1 := bc_ BK757.out 1 (.int .i64 0) rfl; have hfz64_0 := blk_frozen BK757.out 0; have hfz64_1 := blk_frozen BK757.out 1; have hcz65_0 := bc_ BK746.out 0 (.int .i64 0) rfl; have hcz65_1 := bc_ BK746.out 1 (.int .i64 0) rfl; have hfz65_0 := blk_frozen BK746.out 0; have hfz65_1 := blk_frozen BK746.out 1))
                refine bodyPost_ret (results_ct rfl _ _ gb746 32 #[.int .i64 t754, .int .i64 t755] (0, 0) _ rfl (by (with_reducible repeat (first | refine blk_drewN ?_ _ | refine blk_drew ?_ | refine blk_alloc ?_ _)); refine blk_put (cs := #[.int .i64 t754, .int .i64 0]) ?_ 1 _ rfl; (with_reducible repeat (first | refine blk_drewN ?_ _ | refine blk_drew ?_ | refine blk_alloc ?_ _)); refine blk_put (cs := #[.int .i64 0, .int .i64 0]) ?_ 0 _ rfl; (with_reducible repeat (first | refine blk_drewN ?_ _ | refine blk_drew ?_ | refine blk_alloc ?_ _)); refine blk_far ?_ NB746_757.out _; (with_reducible repeat (first | refine blk_drewN ?_ _ | refine blk_drew ?_ | refine blk_alloc ?_ _)); refine blk_far ?_ NB746_757.out _; (with_reducible repeat (first | refine blk_drewN ?_ _ | refine blk_drew ?_ | refine blk_alloc ?_ _)); exact BK746.out) Try.underlying32 rfl (by kernel_rfl)) rfl ?_
                exact ⟨er_, hb5_ HB.out GE744.out GE745.out GE746.out GE753.out GE757.out⟩
              · replace c45 := Bool.eq_false_iff.mpr c45
                subst c45
                have H1 : (some (0, 0, 4)) = some (r1, r2, r3) := by rw [if_neg (show ¬ (false = true) by decide)] at H; exact H
                clear H
                have H := H1
                clear H1
                simp only [Option.some.injEq, Prod.mk.injEq] at H
                obtain ⟨rfl, rfl, rfl⟩ := H
                have hnb66 := NB744_745.out
                have hnc66 := NB745_744.out
                have hnb67 := NB744_746.out
                have hnc67 := NB746_744.out
                have hcz68_0 := bc_ BK744.out 0 (.bool true) rfl
                have hcz68_1 := bc_ BK744.out 1 (.int .i64 a0_1) rfl
                have hcz68_2 := bc_ BK744.out 2 (.int .i64 a0_2) rfl
                have hcz68_3 := bc_ BK744.out 3 (.int .i64 a0_3) rfl
                have hfz68_0 := blk_frozen BK744.out 0
                have hfz68_1 := blk_frozen BK744.out 1
                have hfz68_2 := blk_frozen BK744.out 2
                have hfz68_3 := blk_frozen BK744.out 3
                have hnb69 := NB745_746.out
                have hnc69 := NB746_745.out
                have hcz70_0 := bc_ BK745.out 0 (.int .i64 a1_0) rfl
                have hcz70_1 := bc_ BK745.out 1 (.int .i64 a1_1) rfl
                have hfz70_0 := blk_frozen BK745.out 0
                have hfz70_1 := blk_frozen BK745.out 1
                go_wp2_with (first | ((with_reducible refine gate_callee (f := 82) rfl ?_); refine goesL_ (some 44) rfl rfl Try.func82 (by kernel_rfl) rfl #[.agg #[.int .i64 a1_0, .int .i64 a1_1], .int .i64 (wrap64 (a2 - a0_3))] rfl arr_ ?_; (with_reducible refine (spec_Between.calls kj3 a1_0 a1_1 (wrap64 (a2 - a0_3)) t750 t751 true _ A42.out).mono ?_); rintro e w71 ⟨rfl, hb⟩; refine ⟨_, rfl, ?_⟩; have n0_ := am_ (bb_ BK744.out hb); have n1_ := am_ (bb_ BK745.out hb); have n2_ := am_ (bb_ BK746.out hb); have n3_ := am_ (below_step (hb3_ HB.out GE744.out GE745.out GE746.out) hb); clear BK744; clear BK745; clear BK746; clear HB; have BK744 := n0_; have BK745 := n1_; have BK746 := n2_; have HB := n3_; clear n0_ n1_ n2_ n3_; (try clear hb); (try clear hb2); (try clear hk); (try clear hi)) | ((with_reducible refine gate_dst (N := 8) rfl ?_); refine box_event ?hg (N := 8) ?hd (cs := #[.int .i64 0, .int .i64 0]) (t := 32) ?hr ?_; (case hd => rfl); (case hg => rfl); (case hr => first|(go_simp;done)|(go_simp;rfl)); intro gb753 hg w72 hbox hb; have n0_ := am_ (bb_ BK744.out hb); have n1_ := am_ (bb_ BK745.out hb); have n2_ := am_ (bb_ BK746.out hb); have n3_ := am_ (below_step (hb3_ HB.out GE744.out GE745.out GE746.out) hb); have n4_ := am_ (hbox); have n5_ := am_ (hy_ hg (hb3_ HB.out GE744.out GE745.out GE746.out) : w.heap.size ≤ gb753); have n6_ := am_ (hy_ hg (hb3_ HB.out GE744.out GE745.out GE746.out) : w.heap.size ≤ gb753); have n7_ := am_ ((bl_ hg BK744.out : gb744 ≠ gb753)); have n8_ := am_ ((bg_ hg BK744.out : gb753 ≠ gb744)); have n9_ := am_ ((bl_ hg BK745.out : gb745 ≠ gb753)); have n10_ := am_ ((bg_ hg BK745.out : gb753 ≠ gb745)); have n11_ := am_ ((bl_ hg BK746.out : gb746 ≠ gb753)); have n12_ := am_ ((bg_ hg BK746.out : gb753 ≠ gb746)); clear BK744; clear BK745; clear BK746; clear HB; have BK744 := n0_; have BK745 := n1_; have BK746 := n2_; have HB := n3_; have BK753 := n4_; have GW753 := n5_; have GE753 := n6_; have NB744_753 := n7_; have NB753_744 := n8_; have NB745_753 := n9_; have NB753_745 := n10_; have NB746_753 := n11_; have NB753_746 := n12_; clear n0_ n1_ n2_ n3_ n4_ n5_ n6_ n7_ n8_ n9_ n10_ n11_ n12_; clear hb hbox hg; have hnb73 := NB753_744.out; have hnc73 := NB744_753.out; have hnb74 := NB753_745.out; have hnc74 := NB745_753.out; have hnb75 := NB753_746.out; have hnc75 := NB746_753.out; have hcz76_0 := bc_ BK753.out 0 (.int .i64 0) rfl; have hcz76_1 := bc_ BK753.out 1 (.int .i64 0) rfl; have hfz76_0 := blk_frozen BK753.out 0; have hfz76_1 := blk_frozen BK753.out 1; have hcz77_0 := bc_ BK744.out 0 (.bool true) rfl; have hcz77_1 := bc_ BK744.out 1 (.int .i64 a0_1) rfl; have hcz77_2 := bc_ BK744.out 2 (.int .i64 a0_2) rfl; have hcz77_3 := bc_ BK744.out 3 (.int .i64 a0_3) rfl; have hfz77_0 := blk_frozen BK744.out 0; have hfz77_1 := blk_frozen BK744.out 1; have hfz77_2 := blk_frozen BK744.out 2; have hfz77_3 := blk_frozen BK744.out 3) | ((with_reducible refine gate_callee (f := 83) rfl ?_); refine goesL_ (some 54) rfl rfl Try.func83 (by kernel_rfl) rfl #[.agg #[.int .i64 a0_1, .int .i64 a0_2], .agg #[.int .i64 t750, .int .i64 t751]] rfl arr_ ?_; (with_reducible refine (spec_PlusIval.calls a0_1 a0_2 t750 t751 t754 t755 false _ A44.out).mono ?_); rintro e w78 ⟨rfl, hb⟩; refine ⟨_, rfl, ?_⟩; have n0_ := am_ (blk_below (g := gb744) (o := .cells #[.bool true, .int .i64 a0_1, .int .i64 a0_2, .int .i64 a0_3] 62 (0, 0)) (by (with_reducible repeat (first | refine blk_drewN ?_ _ | refine blk_drew ?_ | refine blk_alloc ?_ _)); refine blk_far ?_ NB744_753.out _; (with_reducible repeat (first | refine blk_drewN ?_ _ | refine blk_drew ?_ | refine blk_alloc ?_ _)); refine blk_far ?_ NB744_753.out _; (with_reducible repeat (first | refine blk_drewN ?_ _ | refine blk_drew ?_ | refine blk_alloc ?_ _)); exact BK744.out) hb); have n1_ := am_ (blk_below (g := gb745) (o := .cells #[.int .i64 a1_0, .int .i64 a1_1] 34 (0, 0)) (by (with_reducible repeat (first | refine blk_drewN ?_ _ | refine blk_drew ?_ | refine blk_alloc ?_ _)); refine blk_far ?_ NB745_753.out _; (with_reducible repeat (first | refine blk_drewN ?_ _ | refine blk_drew ?_ | refine blk_alloc ?_ _)); refine blk_far ?_ NB745_753.out _; (with_reducible repeat (first | refine blk_drewN ?_ _ | refine blk_drew ?_ | refine blk_alloc ?_ _)); exact BK745.out) hb); have n2_ := am_ (blk_below (g := gb746) (o := .cells #[.int .i64 0, .int .i64 0] 32 (0, 0)) (by (with_reducible repeat (first | refine blk_drewN ?_ _ | refine blk_drew ?_ | refine blk_alloc ?_ _)); refine blk_far ?_ NB746_753.out _; (with_reducible repeat (first | refine blk_drewN ?_ _ | refine blk_drew ?_ | refine blk_alloc ?_ _)); refine blk_far ?_ NB746_753.out _; (with_reducible repeat (first | refine blk_drewN ?_ _ | refine blk_drew ?_ | refine blk_alloc ?_ _)); exact BK746.out) hb); have n3_ := am_ (blk_below (g := gb753) (o := .cells #[.int .i64 t750, .int .i64 t751] 32 (0, 0)) (by (with_reducible repeat (first | refine blk_drewN ?_ _ | refine blk_drew ?_ | refine blk_alloc ?_ _)); refine blk_put (cs := #[.int .i64 t750, .int .i64 0]) ?_ 1 _ rfl; (with_reducible repeat (first | refine blk_drewN ?_ _ | refine blk_drew ?_ | refine blk_alloc ?_ _)); refine blk_put (cs := #[.int .i64 0, .int .i64 0]) ?_ 0 _ rfl; (with_reducible repeat (first | refine blk_drewN ?_ _ | refine blk_drew ?_ | refine blk_alloc ?_ _)); exact BK753.out) hb); have n4_ := am_ (below_step (hb4_ HB.out GE744.out GE745.out GE746.out GE753.out) hb); clear BK744; clear BK745; clear BK746; clear BK753; clear HB; have BK744 := n0_; have BK745 := n1_; have BK746 := n2_; have BK753 := n3_; have HB := n4_; clear n0_ n1_ n2_ n3_ n4_; (try clear hb); (try clear hb2); (try clear hk); (try clear hi)) | ((with_reducible refine gate_dst (N := 10) rfl ?_); refine box_event ?hg (N := 10) ?hd (cs := #[.int .i64 0, .int .i64 0]) (t := 32) ?hr ?_; (case hd => rfl); (case hg => rfl); (case hr => first|(go_simp;done)|(go_simp;rfl)); intro gb757 hg w79 hbox hb; have n0_ := am_ (bb_ BK744.out hb); have n1_ := am_ (bb_ BK745.out hb); have n2_ := am_ (bb_ BK746.out hb); have n3_ := am_ (bb_ BK753.out hb); have n4_ := am_ (below_step (hb4_ HB.out GE744.out GE745.out GE746.out GE753.out) hb); have n5_ := am_ (hbox); have n6_ := am_ (hy_ hg (hb4_ HB.out GE744.out GE745.out GE746.out GE753.out) : w.heap.size ≤ gb757); have n7_ := am_ (hy_ hg (hb4_ HB.out GE744.out GE745.out GE746.out GE753.out) : w.heap.size ≤ gb757); have n8_ := am_ ((bl_ hg BK744.out : gb744 ≠ gb757)); have n9_ := am_ ((bg_ hg BK744.out : gb757 ≠ gb744)); have n10_ := am_ ((bl_ hg BK745.out : gb745 ≠ gb757)); have n11_ := am_ ((bg_ hg BK745.out : gb757 ≠ gb745)); have n12_ := am_ ((bl_ hg BK746.out : gb746 ≠ gb757)); have n13_ := am_ ((bg_ hg BK746.out : gb757 ≠ gb746)); have n14_ := am_ ((bl_ hg BK753.out : gb753 ≠ gb757)); have n15_ := am_ ((bg_ hg BK753.out : gb757 ≠ gb753)); clear BK744; clear BK745; clear BK746; clear BK753; clear HB; have BK744 := n0_; have BK745 := n1_; have BK746 := n2_; have BK753 := n3_; have HB := n4_; have BK757 := n5_; have GW757 := n6_; have GE757 := n7_; have NB744_757 := n8_; have NB757_744 := n9_; have NB745_757 := n10_; have NB757_745 := n11_; have NB746_757 := n12_; have NB757_746 := n13_; have NB753_757 := n14_; have NB757_753 := n15_; clear n0_ n1_ n2_ n3_ n4_ n5_ n6_ n7_ n8_ n9_ n10_ n11_ n12_ n13_ n14_ n15_; clear hb hbox hg; have hnb80 := NB757_744.out; have hnc80 := NB744_757.out; have hnb81 := NB757_745.out; have hnc81 := NB745_757.out; have hnb82 := NB757_746.out; have hnc82 := NB746_757.out; have hnb83 := NB757_753.out; have hnc83 := NB753_757.out; have hcz84_0 := bc_ BK757.out 0 (.int .i64 0) rfl; have hcz84_1 := bc_ BK757.out 1 (.int .i64 0) rfl; have hfz84_0 := blk_frozen BK757.out 0; have hfz84_1 := blk_frozen BK757.out 1; have hcz85_0 := bc_ BK746.out 0 (.int .i64 0) rfl; have hcz85_1 := bc_ BK746.out 1 (.int .i64 0) rfl; have hfz85_0 := blk_frozen BK746.out 0; have hfz85_1 := blk_frozen BK746.out 1))
                refine bodyPost_ret (results_ct rfl _ _ gb746 32 #[.int .i64 0, .int .i64 0] (0, 0) _ rfl (by (with_reducible repeat (first | refine blk_drewN ?_ _ | refine blk_drew ?_ | refine blk_alloc ?_ _)); refine blk_put (cs := #[.int .i64 0, .int .i64 0]) ?_ 1 _ rfl; (with_reducible repeat (first | refine blk_drewN ?_ _ | refine blk_drew ?_ | refine blk_alloc ?_ _)); refine blk_put (cs := #[.int .i64 0, .int .i64 0]) ?_ 0 _ rfl; (with_reducible repeat (first | refine blk_drewN ?_ _ | refine blk_drew ?_ | refine blk_alloc ?_ _)); refine blk_far ?_ NB746_757.out _; (with_reducible repeat (first | refine blk_drewN ?_ _ | refine blk_drew ?_ | refine blk_alloc ?_ _)); refine blk_far ?_ NB746_757.out _; (with_reducible repeat (first | refine blk_drewN ?_ _ | refine blk_drew ?_ | refine blk_alloc ?_ _)); exact BK746.out) Try.underlying32 rfl (by kernel_rfl)) rfl ?_
                exact ⟨er_, hb5_ HB.out GE744.out GE745.out GE746.out GE753.out GE757.out⟩
            · replace c43 := Bool.eq_false_iff.mpr c43
              subst c43
              have H1 : (some (0, 0, 4)) = some (r1, r2, r3) := by rw [if_neg (show ¬ (false = true) by decide)] at H; exact H
              clear H
              have H := H1
              clear H1
              simp only [Option.some.injEq, Prod.mk.injEq] at H
              obtain ⟨rfl, rfl, rfl⟩ := H
              have hnb86 := NB744_745.out
              have hnc86 := NB745_744.out
              have hnb87 := NB744_746.out
              have hnc87 := NB746_744.out
              have hcz88_0 := bc_ BK744.out 0 (.bool true) rfl
              have hcz88_1 := bc_ BK744.out 1 (.int .i64 a0_1) rfl
              have hcz88_2 := bc_ BK744.out 2 (.int .i64 a0_2) rfl
              have hcz88_3 := bc_ BK744.out 3 (.int .i64 a0_3) rfl
              have hfz88_0 := blk_frozen BK744.out 0
              have hfz88_1 := blk_frozen BK744.out 1
              have hfz88_2 := blk_frozen BK744.out 2
              have hfz88_3 := blk_frozen BK744.out 3
              have hnb89 := NB745_746.out
              have hnc89 := NB746_745.out
              have hcz90_0 := bc_ BK745.out 0 (.int .i64 a1_0) rfl
              have hcz90_1 := bc_ BK745.out 1 (.int .i64 a1_1) rfl
              have hfz90_0 := blk_frozen BK745.out 0
              have hfz90_1 := blk_frozen BK745.out 1
              go_wp2_with (first | ((with_reducible refine gate_callee (f := 82) rfl ?_); refine goesL_ (some 44) rfl rfl Try.func82 (by kernel_rfl) rfl #[.agg #[.int .i64 a1_0, .int .i64 a1_1], .int .i64 (wrap64 (a2 - a0_3))] rfl arr_ ?_; (with_reducible refine (spec_Between.calls kj3 a1_0 a1_1 (wrap64 (a2 - a0_3)) t750 t751 false _ A42.out).mono ?_); rintro e w91 ⟨rfl, hb⟩; refine ⟨_, rfl, ?_⟩; have n0_ := am_ (bb_ BK744.out hb); have n1_ := am_ (bb_ BK745.out hb); have n2_ := am_ (bb_ BK746.out hb); have n3_ := am_ (below_step (hb3_ HB.out GE744.out GE745.out GE746.out) hb); clear BK744; clear BK745; clear BK746; clear HB; have BK744 := n0_; have BK745 := n1_; have BK746 := n2_; have HB := n3_; clear n0_ n1_ n2_ n3_; (try clear hb); (try clear hb2); (try clear hk); (try clear hi)) | ((with_reducible refine gate_dst (N := 8) rfl ?_); refine box_event ?hg (N := 8) ?hd (cs := #[.int .i64 0, .int .i64 0]) (t := 32) ?hr ?_; (case hd => rfl); (case hg => rfl); (case hr => first|(go_simp;done)|(go_simp;rfl)); intro gb753 hg w92 hbox hb; have n0_ := am_ (bb_ BK744.out hb); have n1_ := am_ (bb_ BK745.out hb); have n2_ := am_ (bb_ BK746.out hb); have n3_ := am_ (below_step (hb3_ HB.out GE744.out GE745.out GE746.out) hb); have n4_ := am_ (hbox); have n5_ := am_ (hy_ hg (hb3_ HB.out GE744.out GE745.out GE746.out) : w.heap.size ≤ gb753); have n6_ := am_ (hy_ hg (hb3_ HB.out GE744.out GE745.out GE746.out) : w.heap.size ≤ gb753); have n7_ := am_ ((bl_ hg BK744.out : gb744 ≠ gb753)); have n8_ := am_ ((bg_ hg BK744.out : gb753 ≠ gb744)); have n9_ := am_ ((bl_ hg BK745.out : gb745 ≠ gb753)); have n10_ := am_ ((bg_ hg BK745.out : gb753 ≠ gb745)); have n11_ := am_ ((bl_ hg BK746.out : gb746 ≠ gb753)); have n12_ := am_ ((bg_ hg BK746.out : gb753 ≠ gb746)); clear BK744; clear BK745; clear BK746; clear HB; have BK744 := n0_; have BK745 := n1_; have BK746 := n2_; have HB := n3_; have BK753 := n4_; have GW753 := n5_; have GE753 := n6_; have NB744_753 := n7_; have NB753_744 := n8_; have NB745_753 := n9_; have NB753_745 := n10_; have NB746_753 := n11_; have NB753_746 := n12_; clear n0_ n1_ n2_ n3_ n4_ n5_ n6_ n7_ n8_ n9_ n10_ n11_ n12_; clear hb hbox hg; have hnb93 := NB753_744.out; have hnc93 := NB744_753.out; have hnb94 := NB753_745.out; have hnc94 := NB745_753.out; have hnb95 := NB753_746.out; have hnc95 := NB746_753.out; have hcz96_0 := bc_ BK753.out 0 (.int .i64 0) rfl; have hcz96_1 := bc_ BK753.out 1 (.int .i64 0) rfl; have hfz96_0 := blk_frozen BK753.out 0; have hfz96_1 := blk_frozen BK753.out 1; have hcz97_0 := bc_ BK746.out 0 (.int .i64 0) rfl; have hcz97_1 := bc_ BK746.out 1 (.int .i64 0) rfl; have hfz97_0 := blk_frozen BK746.out 0; have hfz97_1 := blk_frozen BK746.out 1))
              refine bodyPost_ret (results_ct rfl _ _ gb746 32 #[.int .i64 0, .int .i64 0] (0, 0) _ rfl (by (with_reducible repeat (first | refine blk_drewN ?_ _ | refine blk_drew ?_ | refine blk_alloc ?_ _)); refine blk_put (cs := #[.int .i64 0, .int .i64 0]) ?_ 1 _ rfl; (with_reducible repeat (first | refine blk_drewN ?_ _ | refine blk_drew ?_ | refine blk_alloc ?_ _)); refine blk_put (cs := #[.int .i64 0, .int .i64 0]) ?_ 0 _ rfl; (with_reducible repeat (first | refine blk_drewN ?_ _ | refine blk_drew ?_ | refine blk_alloc ?_ _)); refine blk_far ?_ NB746_753.out _; (with_reducible repeat (first | refine blk_drewN ?_ _ | refine blk_drew ?_ | refine blk_alloc ?_ _)); refine blk_far ?_ NB746_753.out _; (with_reducible repeat (first | refine blk_drewN ?_ _ | refine blk_drew ?_ | refine blk_alloc ?_ _)); exact BK746.out) Try.underlying32 rfl (by kernel_rfl)) rfl ?_
              exact ⟨er_, hb4_ HB.out GE744.out GE745.out GE746.out GE753.out⟩
        · replace c35 := Bool.eq_false_iff.mpr c35
          subst c35
          have H1 : (some (0, 0, 2)) = some (r1, r2, r3) := by rw [if_neg (show ¬ (false = true) by decide)] at H; exact H
          clear H
          have H := H1
          clear H1
          simp only [Option.some.injEq, Prod.mk.injEq] at H
          obtain ⟨rfl, rfl, rfl⟩ := H
          have hnb98 := NB744_745.out
          have hnc98 := NB745_744.out
          have hnb99 := NB744_746.out
          have hnc99 := NB746_744.out
          have hcz100_0 := bc_ BK744.out 0 (.bool false) rfl
          have hcz100_1 := bc_ BK744.out 1 (.int .i64 a0_1) rfl
          have hcz100_2 := bc_ BK744.out 2 (.int .i64 a0_2) rfl
          have hcz100_3 := bc_ BK744.out 3 (.int .i64 a0_3) rfl
          have hfz100_0 := blk_frozen BK744.out 0
          have hfz100_1 := blk_frozen BK744.out 1
          have hfz100_2 := blk_frozen BK744.out 2
          have hfz100_3 := blk_frozen BK744.out 3
          have hnb101 := NB746_745.out
          have hnc101 := NB745_746.out
          have hcz102_0 := bc_ BK746.out 0 (.int .i64 0) rfl
          have hcz102_1 := bc_ BK746.out 1 (.int .i64 0) rfl
          have hfz102_0 := blk_frozen BK746.out 0
          have hfz102_1 := blk_frozen BK746.out 1
          go_wp2
          refine bodyPost_ret (results_ct rfl _ _ gb746 32 #[.int .i64 0, .int .i64 0] (0, 0) _ rfl (by (with_reducible repeat (first | refine blk_drewN ?_ _ | refine blk_drew ?_ | refine blk_alloc ?_ _)); refine blk_put (cs := #[.int .i64 0, .int .i64 0]) ?_ 1 _ rfl; (with_reducible repeat (first | refine blk_drewN ?_ _ | refine blk_drew ?_ | refine blk_alloc ?_ _)); refine blk_put (cs := #[.int .i64 0, .int .i64 0]) ?_ 0 _ rfl; (with_reducible repeat (first | refine blk_drewN ?_ _ | refine blk_drew ?_ | refine blk_alloc ?_ _)); exact BK746.out) Try.underlying32 rfl (by kernel_rfl)) rfl ?_
          exact ⟨er_, hb3_ HB.out GE744.out GE745.out GE746.out⟩
end Go.Proofs.Ytejohmompmjhnaa.P
namespace Go.Proofs.Ytejohmompmjhnaa.P
open Go.RowKit Go.Proofs.YtejohmompmjhnaaW.PrintWords Go.Proofs.YtejohmompmjhnaaW.PrintLast Go.Proofs.YtejohmompmjhnaaW.PrintMore
attribute [local go_sem] max2_int min2_int max_two min_two max_three min_three max_four min_four
set_option linter.unusedVariables false
set_option linter.unusedSimpArgs false
mutual
def spec_GateWait.j0 : Nat → Int → Int → Int → Int → Bool → Bool → Int → Int → Int → Int → Int → Int → Int → List (S55) → Option (Int × Bool)
  | 0, _, _, _, _, _, _, _, _, _, _, _, _, _, _ => none
  | k + 1, x2, x4, x5, x6, x29, x759000, x759001, x759002, x759003, x760000, x760001, x761000, x761001, x761002 => if x29 = true then (some (0, false)) else (spec_GateWait.l0 k x2 x4 x5 x6 0 x759000 x759001 x759002 x759003 x760000 x760001 x761000 x761001 x761002)
def spec_GateWait.l0 : Nat → Int → Int → Int → Int → Int → Bool → Int → Int → Int → Int → Int → Int → Int → List (S55) → Option (Int × Bool)
  | 0, _, _, _, _, _, _, _, _, _, _, _, _, _, _ => none
  | k + 1, x2, x4, x5, x6, x16, x759000, x759001, x759002, x759003, x760000, x760001, x761000, x761001, x761002 => if x16 ≤ x6 then ((spec_CarryOn.f k x759000 x759001 x759002 x759003 x760000 x760001 (wrap64 (x5 + x16))).bind fun bt763 => (if bt763.2.2 = 0 then ((spec_GateAsk.f k bt763.1 bt763.2.1 true x760000 x760001 x2 x761000 x761001 x761002 x4).bind fun bt767 => (if bt767.2.2 = 0 then (some (x16, true)) else (spec_GateWait.l0 k x2 x4 x5 x6 (wrap64 (x16 + 1)) x759000 x759001 x759002 x759003 x760000 x760001 x761000 x761001 x761002))) else (spec_GateWait.l0 k x2 x4 x5 x6 (wrap64 (x16 + 1)) x759000 x759001 x759002 x759003 x760000 x760001 x761000 x761001 x761002))) else (some (0, false))
end
def spec_GateWait.f (k : Nat) (a0_0 : Bool) (a0_1 : Int) (a0_2 : Int) (a0_3 : Int) (a1_0 : Int) (a1_1 : Int) (a2 : Int) (a3_0 : Int) (a3_1 : Int) (l3_2 : List (S55)) (a4 : Int) (a5 : Int) (a6 : Int) : Option (Int × Bool) := (spec_l1In.f a6 0 400).bind fun t761 => (if t761 = true then ((spec_l2Time.f a5).bind fun t762 => (spec_GateWait.j0 k a2 a4 a5 a6 (!t762) a0_0 a0_1 a0_2 a0_3 a1_0 a1_1 a3_0 a3_1 l3_2)) else (spec_GateWait.j0 k a2 a4 a5 a6 true a0_0 a0_1 a0_2 a0_3 a1_0 a1_1 a3_0 a3_1 l3_2))
theorem spec_GateWait.mono_l : ∀ k, (∀ y0 y1 y2 y3 y4 y5 y6 y7 y8 y9 y10 y11 y12 y13, LeO (spec_GateWait.j0 k y0 y1 y2 y3 y4 y5 y6 y7 y8 y9 y10 y11 y12 y13) (spec_GateWait.j0 (k + 1) y0 y1 y2 y3 y4 y5 y6 y7 y8 y9 y10 y11 y12 y13)) ∧ (∀ y0 y1 y2 y3 y4 y5 y6 y7 y8 y9 y10 y11 y12 y13, LeO (spec_GateWait.l0 k y0 y1 y2 y3 y4 y5 y6 y7 y8 y9 y10 y11 y12 y13) (spec_GateWait.l0 (k + 1) y0 y1 y2 y3 y4 y5 y6 y7 y8 y9 y10 y11 y12 y13))
  | 0 => ⟨fun _ _ _ _ _ _ _ _ _ _ _ _ _ _ r h => by simp [spec_GateWait.j0] at h, fun _ _ _ _ _ _ _ _ _ _ _ _ _ _ r h => by simp [spec_GateWait.l0] at h⟩
  | k + 1 => by
    obtain ⟨ih0, ih1⟩ := spec_GateWait.mono_l k
    refine ⟨?_, ?_⟩
    · intro y0 y1 y2 y3 y4 y5 y6 y7 y8 y9 y10 y11 y12 y13
      unfold spec_GateWait.j0
      repeat' first
      | (with_reducible exact ih0 _ _ _ _ _ _ _ _ _ _ _ _ _ _)
      | (with_reducible exact ih1 _ _ _ _ _ _ _ _ _ _ _ _ _ _)
      | (with_reducible exact spec_CarryOn.mono _ _ _ _ _ _ _ _)
      | (with_reducible exact spec_GateAsk.mono _ _ _ _ _ _ _ _ _ _ _)
      | (with_reducible exact LeO.refl _)
      | (with_reducible exact LeO.none _)
      | (with_reducible refine LeO.ite ?_ ?_)
      | (with_reducible refine LeO.bind ?_ (fun _ => ?_))
      | exact ih0 _ _ _ _ _ _ _ _ _ _ _ _ _ _
      | exact ih1 _ _ _ _ _ _ _ _ _ _ _ _ _ _
      | exact spec_CarryOn.mono _ _ _ _ _ _ _ _
      | exact spec_GateAsk.mono _ _ _ _ _ _ _ _ _ _ _
      | exact LeO.none _
      | refine LeO.ite ?_ ?_
      | refine LeO.bind ?_ (fun _ => ?_)
    · intro y0 y1 y2 y3 y4 y5 y6 y7 y8 y9 y10 y11 y12 y13
      unfold spec_GateWait.l0
      repeat' first
      | (with_reducible exact ih0 _ _ _ _ _ _ _ _ _ _ _ _ _ _)
      | (with_reducible exact ih1 _ _ _ _ _ _ _ _ _ _ _ _ _ _)
      | (with_reducible exact spec_CarryOn.mono _ _ _ _ _ _ _ _)
      | (with_reducible exact spec_GateAsk.mono _ _ _ _ _ _ _ _ _ _ _)
      | (with_reducible exact LeO.refl _)
      | (with_reducible exact LeO.none _)
      | (with_reducible refine LeO.ite ?_ ?_)
      | (with_reducible refine LeO.bind ?_ (fun _ => ?_))
      | exact ih0 _ _ _ _ _ _ _ _ _ _ _ _ _ _
      | exact ih1 _ _ _ _ _ _ _ _ _ _ _ _ _ _
      | exact spec_CarryOn.mono _ _ _ _ _ _ _ _
      | exact spec_GateAsk.mono _ _ _ _ _ _ _ _ _ _ _
      | exact LeO.none _
      | refine LeO.ite ?_ ?_
      | refine LeO.bind ?_ (fun _ => ?_)
theorem spec_GateWait.mono : ∀ a0 a1 a2 a3 a4 a5 a6 a7 a8 a9 a10 a11 a12 k, LeO (spec_GateWait.f k a0 a1 a2 a3 a4 a5 a6 a7 a8 a9 a10 a11 a12) (spec_GateWait.f (k + 1) a0 a1 a2 a3 a4 a5 a6 a7 a8 a9 a10 a11 a12) := by
  intro a0 a1 a2 a3 a4 a5 a6 a7 a8 a9 a10 a11 a12 k
  obtain ⟨ih0, ih1⟩ := spec_GateWait.mono_l k
  unfold spec_GateWait.f
  repeat' first
      | (with_reducible exact ih0 _ _ _ _ _ _ _ _ _ _ _ _ _ _)
      | (with_reducible exact ih1 _ _ _ _ _ _ _ _ _ _ _ _ _ _)
      | (with_reducible exact spec_CarryOn.mono _ _ _ _ _ _ _ _)
      | (with_reducible exact spec_GateAsk.mono _ _ _ _ _ _ _ _ _ _ _)
      | (with_reducible exact LeO.refl _)
      | (with_reducible exact LeO.none _)
      | (with_reducible refine LeO.ite ?_ ?_)
      | (with_reducible refine LeO.bind ?_ (fun _ => ?_))
      | exact ih0 _ _ _ _ _ _ _ _ _ _ _ _ _ _
      | exact ih1 _ _ _ _ _ _ _ _ _ _ _ _ _ _
      | exact spec_CarryOn.mono _ _ _ _ _ _ _ _
      | exact spec_GateAsk.mono _ _ _ _ _ _ _ _ _ _ _
      | exact LeO.none _
      | refine LeO.ite ?_ ?_
      | refine LeO.bind ?_ (fun _ => ?_)
set_option maxHeartbeats 8000000 in
set_option maxRecDepth 100000 in
theorem spec_GateWait.calls (k : Nat) (a0_0 : Bool) (a0_1 : Int) (a0_2 : Int) (a0_3 : Int) (a1_0 : Int) (a1_1 : Int) (a2 : Int) (a3_0 : Int) (a3_1 : Int) (A3_2 : Option Addr) (c3_2 : Nat) (l3_2 : List (S55)) (a4 : Int) (a5 : Int) (a6 : Int) (r1 : Int) (r2 : Bool) (w : World) (hr3_2 : Kd.C k55 w A3_2 l3_2.length l3_2) (hc3_2 : l3_2.length ≤ c3_2) (h : spec_GateWait.f k a0_0 a0_1 a0_2 a0_3 a1_0 a1_1 a2 a3_0 a3_1 l3_2 a4 a5 a6 = some (r1, r2)) :
    Calls Try.prog 28 #[.agg #[.bool a0_0, .int .i64 a0_1, .int .i64 a0_2, .int .i64 a0_3], .agg #[.int .i64 a1_0, .int .i64 a1_1], .int .i64 a2, .agg #[.int .i64 a3_0, .int .i64 a3_1, .slice A3_2 l3_2.length c3_2], .int .i64 a4, .int .i64 a5, .int .i64 a6] w fun e w' => e = .returned (.tuple #[.int .i64 r1, .bool r2]) ∧ Below w.heap.size w w' := by
  have hu62 := Try.underlying62
  have hu34 := Try.underlying34
  have hu38 := Try.underlying38
  have hu32 := Try.underlying32
  have HR3_2 := Aside0.mk hr3_2
  have HC3_2 := Aside0.mk hc3_2
  clear hr3_2 hc3_2
  have HB := am_ (Below.refl w.heap.size w)
  have H : ((spec_l1In.f a6 0 400).bind fun t761 => (if t761 = true then ((spec_l2Time.f a5).bind fun t762 => (spec_GateWait.j0 k a2 a4 a5 a6 (!t762) a0_0 a0_1 a0_2 a0_3 a1_0 a1_1 a3_0 a3_1 l3_2)) else (spec_GateWait.j0 k a2 a4 a5 a6 true a0_0 a0_1 a0_2 a0_3 a1_0 a1_1 a3_0 a3_1 l3_2))) = some (r1, r2) := h
  clear h
  have HC8 := Aside0.mk H
  clear H
  go_enter Try.func28, Try.ntmps28
  go_upto_region 1 with (first | ((with_reducible refine gate_dst (N := 7) rfl ?_); refine box_event ?hg (N := 7) ?hd (cs := #[.bool a0_0, .int .i64 a0_1, .int .i64 a0_2, .int .i64 a0_3]) (t := 62) ?hr ?_; (case hd => rfl); (case hg => rfl); (case hr => first|(go_simp;done)|(go_simp;rfl)); intro gb758 hg w9 hbox hb; have n0_ := am_ (below_step (hb_ HB.out) hb); have n1_ := am_ (hbox); have n2_ := am_ (hy_ hg (hb_ HB.out) : w.heap.size ≤ gb758); have n3_ := am_ (hy_ hg (hb_ HB.out) : w.heap.size ≤ gb758); clear HB; have HB := n0_; have BK758 := n1_; have GW758 := n2_; have GE758 := n3_; clear n0_ n1_ n2_ n3_; clear hb hbox hg) | ((with_reducible refine gate_dst (N := 8) rfl ?_); refine box_event ?hg (N := 8) ?hd (cs := #[.int .i64 a1_0, .int .i64 a1_1]) (t := 34) ?hr ?_; (case hd => rfl); (case hg => rfl); (case hr => first|(go_simp;done)|(go_simp;rfl)); intro gb759 hg w10 hbox hb; have n0_ := am_ (bb_ BK758.out hb); have n1_ := am_ (below_step (hb1_ HB.out GE758.out) hb); have n2_ := am_ (hbox); have n3_ := am_ (hy_ hg (hb1_ HB.out GE758.out) : w.heap.size ≤ gb759); have n4_ := am_ (hy_ hg (hb1_ HB.out GE758.out) : w.heap.size ≤ gb759); have n5_ := am_ ((bl_ hg BK758.out : gb758 ≠ gb759)); have n6_ := am_ ((bg_ hg BK758.out : gb759 ≠ gb758)); clear BK758; clear HB; have BK758 := n0_; have HB := n1_; have BK759 := n2_; have GW759 := n3_; have GE759 := n4_; have NB758_759 := n5_; have NB759_758 := n6_; clear n0_ n1_ n2_ n3_ n4_ n5_ n6_; clear hb hbox hg) | ((with_reducible refine gate_dst (N := 10) rfl ?_); refine box_event ?hg (N := 10) ?hd (cs := #[.int .i64 a3_0, .int .i64 a3_1, .slice A3_2 l3_2.length c3_2]) (t := 38) ?hr ?_; (case hd => rfl); (case hg => rfl); (case hr => first|(go_simp;done)|(go_simp;rfl)); intro gb760 hg w11 hbox hb; have n0_ := am_ (bb_ BK758.out hb); have n1_ := am_ (bb_ BK759.out hb); have n2_ := am_ (below_step (hb2_ HB.out GE758.out GE759.out) hb); have n3_ := am_ (hbox); have n4_ := am_ (hy_ hg (hb2_ HB.out GE758.out GE759.out) : w.heap.size ≤ gb760); have n5_ := am_ (hy_ hg (hb2_ HB.out GE758.out GE759.out) : w.heap.size ≤ gb760); have n6_ := am_ ((bl_ hg BK758.out : gb758 ≠ gb760)); have n7_ := am_ ((bg_ hg BK758.out : gb760 ≠ gb758)); have n8_ := am_ ((bl_ hg BK759.out : gb759 ≠ gb760)); have n9_ := am_ ((bg_ hg BK759.out : gb760 ≠ gb759)); clear BK758; clear BK759; clear HB; have BK758 := n0_; have BK759 := n1_; have HB := n2_; have BK760 := n3_; have GW760 := n4_; have GE760 := n5_; have NB758_760 := n6_; have NB760_758 := n7_; have NB759_760 := n8_; have NB760_759 := n9_; clear n0_ n1_ n2_ n3_ n4_ n5_ n6_ n7_ n8_ n9_; clear hb hbox hg))
  (try simp only [Act.put, List.setIfInBounds_toArray, List.set_cons_zero, List.set_cons_succ])
  go_cut [29] (fun v29 wc => ∃ (kq : Nat) (x29_7 : Bool), v29 = .bool x29_7 ∧ Aside0 (spec_GateWait.j0 kq a2 a4 a5 a6 x29_7 a0_0 a0_1 a0_2 a0_3 a1_0 a1_1 a3_0 a3_1 l3_2 = some (r1, r2)) ∧ Aside0 (kq ≤ k) ∧ Aside0 (wc.heap[gb758]? = some (.cells #[.bool a0_0, .int .i64 a0_1, .int .i64 a0_2, .int .i64 a0_3] 62 (0, 0))) ∧ Aside0 (wc.heap[gb759]? = some (.cells #[.int .i64 a1_0, .int .i64 a1_1] 34 (0, 0))) ∧ Aside0 (wc.heap[gb760]? = some (.cells #[.int .i64 a3_0, .int .i64 a3_1, (.slice A3_2 l3_2.length c3_2)] 38 (0, 0))) ∧ Aside0 (Below w.heap.size w wc))
  case first =>
    have H := HC8.out
    clear HC8
    replace H := Option.bind_eq_some_iff.mp H
    obtain ⟨t761, A120, H⟩ := H
    replace H : (if t761 = true then ((spec_l2Time.f a5).bind fun t762 => (spec_GateWait.j0 k a2 a4 a5 a6 (!t762) a0_0 a0_1 a0_2 a0_3 a1_0 a1_1 a3_0 a3_1 l3_2)) else (spec_GateWait.j0 k a2 a4 a5 a6 true a0_0 a0_1 a0_2 a0_3 a1_0 a1_1 a3_0 a3_1 l3_2)) = some (r1, r2) := H
    have A12 := Aside0.mk A120
    clear A120
    by_cases c13 : t761 = true
    · subst c13
      have H1 : ((spec_l2Time.f a5).bind fun t762 => (spec_GateWait.j0 k a2 a4 a5 a6 (!t762) a0_0 a0_1 a0_2 a0_3 a1_0 a1_1 a3_0 a3_1 l3_2)) = some (r1, r2) := by rw [if_pos rfl] at H; exact H
      clear H
      have H := H1
      clear H1
      replace H := Option.bind_eq_some_iff.mp H
      obtain ⟨t762, A140, H⟩ := H
      replace H : (spec_GateWait.j0 k a2 a4 a5 a6 (!t762) a0_0 a0_1 a0_2 a0_3 a1_0 a1_1 a3_0 a3_1 l3_2) = some (r1, r2) := H
      have A14 := Aside0.mk A140
      clear A140
      have H' := Aside0.mk H
      clear H
      go_wp2_with (first | ((with_reducible refine gate_callee (f := 38) rfl ?_); refine goesL_ (some 23) rfl rfl Try.func38 (by kernel_rfl) rfl #[.int .i64 a6, .int .i64 0, .int .i64 400] rfl arr_ ?_; (with_reducible refine (spec_l1In.calls a6 0 400 true _ A12.out).mono ?_); rintro e w' ⟨rfl, ⟨nd, rfl⟩⟩; refine ⟨_, rfl, ?_⟩) | (go_at_call 67; (with_reducible refine (spec_l2Time.calls a5 t762 _ A14.out).mono ?_); rintro e w' ⟨rfl, ⟨nd, rfl⟩⟩))
      go_meet
      case rel => exact ⟨_, (!t762), (by first | rfl | (simp; done) | (simp [*]; done)), H', ⟨by first | omega | exact Nat.le_refl _⟩, ⟨bk_ BK758.out⟩, ⟨bk_ BK759.out⟩, ⟨bk_ BK760.out⟩, ⟨hb3_ HB.out GE758.out GE759.out GE760.out⟩⟩
    · replace c13 := Bool.eq_false_iff.mpr c13
      subst c13
      have H1 : (spec_GateWait.j0 k a2 a4 a5 a6 true a0_0 a0_1 a0_2 a0_3 a1_0 a1_1 a3_0 a3_1 l3_2) = some (r1, r2) := by rw [if_neg (show ¬ (false = true) by decide)] at H; exact H
      clear H
      have H := H1
      clear H1
      have H' := Aside0.mk H
      clear H
      go_wp2_with (first | ((with_reducible refine gate_callee (f := 38) rfl ?_); refine goesL_ (some 23) rfl rfl Try.func38 (by kernel_rfl) rfl #[.int .i64 a6, .int .i64 0, .int .i64 400] rfl arr_ ?_; (with_reducible refine (spec_l1In.calls a6 0 400 false _ A12.out).mono ?_); rintro e w' ⟨rfl, ⟨nd, rfl⟩⟩; refine ⟨_, rfl, ?_⟩))
      go_meet
      case rel => exact ⟨_, (true), (by first | rfl | (simp; done) | (simp [*]; done)), H', ⟨by first | omega | exact Nat.le_refl _⟩, ⟨bk_ BK758.out⟩, ⟨bk_ BK759.out⟩, ⟨bk_ BK760.out⟩, ⟨hb3_ HB.out GE758.out GE759.out GE760.out⟩⟩
  case rest =>
    clear HC8
    try clear c1
    try clear c2
    try clear p2
    try clear c3
    try clear c13
    obtain ⟨kq, x29_7, rfl, HA, HJ7, BK758, BK759, BK760, HB⟩ := hcut
    cases kq with
    | zero => exact absurd HA.out (by simp [spec_GateWait.j0])
    | succ kj7 =>
      have H := HA.out
      clear HA
      simp only [spec_GateWait.j0] at H
      by_cases c15 : x29_7 = true
      · subst c15
        have H1 : (some (0, false)) = some (r1, r2) := by rw [if_pos rfl] at H; exact H
        clear H
        have H := H1
        clear H1
        simp only [Option.some.injEq, Prod.mk.injEq] at H
        obtain ⟨rfl, rfl⟩ := H
        go_wp2
        go_ret2
        exact ⟨er_, hb3_ HB.out GE758.out GE759.out GE760.out⟩
      · replace c15 := Bool.eq_false_iff.mpr c15
        subst c15
        have H1 : (spec_GateWait.l0 kj7 a2 a4 a5 a6 0 a0_0 a0_1 a0_2 a0_3 a1_0 a1_1 a3_0 a3_1 l3_2) = some (r1, r2) := by rw [if_neg (show ¬ (false = true) by decide)] at H; exact H
        clear H
        have H := H1
        clear H1
        have H' := Aside0.mk H
        clear H
        go_wp2
        go_loopg [16] kj7 (fun kq v16 w' => ∃ (x16_2 : Int), v16 = .int .i64 x16_2 ∧ Aside0 (spec_GateWait.l0 kq a2 a4 a5 a6 x16_2 a0_0 a0_1 a0_2 a0_3 a1_0 a1_1 a3_0 a3_1 l3_2 = some (r1, r2)) ∧ Aside0 (kq ≤ kj7) ∧ Aside0 (w'.heap[gb758]? = some (.cells #[.bool a0_0, .int .i64 a0_1, .int .i64 a0_2, .int .i64 a0_3] 62 (0, 0))) ∧ Aside0 (w'.heap[gb759]? = some (.cells #[.int .i64 a1_0, .int .i64 a1_1] 34 (0, 0))) ∧ Aside0 (w'.heap[gb760]? = some (.cells #[.int .i64 a3_0, .int .i64 a3_1, (.slice A3_2 l3_2.length c3_2)] 38 (0, 0))) ∧ Aside0 (Below w.heap.size w w'))
        case atStart => exact ⟨(0), (by first | rfl | (simp; done) | (simp [*]; done)), H', ⟨Nat.le_refl _⟩, ⟨bk_ BK758.out⟩, ⟨bk_ BK759.out⟩, ⟨bk_ BK760.out⟩, ⟨hb3_ HB.out GE758.out GE759.out GE760.out⟩⟩
        case round =>
          clear H'
          try clear c1
          try clear c2
          try clear p2
          try clear c3
          try clear c13
          try clear c15
          try clear p2
          obtain ⟨x16_2, rfl, HA, HK2, BK758, BK759, BK760, HB⟩ := hrel
          cases gk with
          | zero => exact absurd HA.out (by simp [spec_GateWait.l0])
          | succ k2 =>
            have H := HA.out
            clear HA
            simp only [spec_GateWait.l0] at H
            by_cases c16 : x16_2 ≤ a6
            · rw [if_pos c16] at H
              have c16b0 : decide (x16_2 ≤ a6) = true := decide_eq_true c16
              clear c16
              replace H := Option.bind_eq_some_iff.mp H
              obtain ⟨⟨t763, t764, t765⟩, A170, H⟩ := H
              replace H : (if t765 = 0 then ((spec_GateAsk.f k2 t763 t764 true a1_0 a1_1 a2 a3_0 a3_1 l3_2 a4).bind fun bt767 => (if bt767.2.2 = 0 then (some (x16_2, true)) else (spec_GateWait.l0 k2 a2 a4 a5 a6 (wrap64 (x16_2 + 1)) a0_0 a0_1 a0_2 a0_3 a1_0 a1_1 a3_0 a3_1 l3_2))) else (spec_GateWait.l0 k2 a2 a4 a5 a6 (wrap64 (x16_2 + 1)) a0_0 a0_1 a0_2 a0_3 a1_0 a1_1 a3_0 a3_1 l3_2)) = some (r1, r2) := H
              have A17 := Aside0.mk A170
              clear A170
              by_cases c18 : t765 = 0
              · rw [if_pos c18] at H
                have c18b0 : (t765 == 0) = true := beq_iff_eq.mpr c18
                have c18b1 : (t765 != 0) = false := bne_eq_false_iff_eq.mpr c18
                clear c18
                replace H := Option.bind_eq_some_iff.mp H
                obtain ⟨⟨t767, t768, t769⟩, A190, H⟩ := H
                replace H : (if t769 = 0 then (some (x16_2, true)) else (spec_GateWait.l0 k2 a2 a4 a5 a6 (wrap64 (x16_2 + 1)) a0_0 a0_1 a0_2 a0_3 a1_0 a1_1 a3_0 a3_1 l3_2)) = some (r1, r2) := H
                have A19 := Aside0.mk A190
                clear A190
                by_cases c20 : t769 = 0
                · rw [if_pos c20] at H
                  have c20b0 : (t769 == 0) = true := beq_iff_eq.mpr c20
                  have c20b1 : (t769 != 0) = false := bne_eq_false_iff_eq.mpr c20
                  clear c20
                  simp only [Option.some.injEq, Prod.mk.injEq] at H
                  obtain ⟨rfl, rfl⟩ := H
                  have hnb21 := NB758_759.out
                  have hnc21 := NB759_758.out
                  have hnb22 := NB758_760.out
                  have hnc22 := NB760_758.out
                  have hcz23_0 := bc_ BK758.out 0 (.bool a0_0) rfl
                  have hcz23_1 := bc_ BK758.out 1 (.int .i64 a0_1) rfl
                  have hcz23_2 := bc_ BK758.out 2 (.int .i64 a0_2) rfl
                  have hcz23_3 := bc_ BK758.out 3 (.int .i64 a0_3) rfl
                  have hfz23_0 := blk_frozen BK758.out 0
                  have hfz23_1 := blk_frozen BK758.out 1
                  have hfz23_2 := blk_frozen BK758.out 2
                  have hfz23_3 := blk_frozen BK758.out 3
                  have hnb24 := NB759_760.out
                  have hnc24 := NB760_759.out
                  have hcz25_0 := bc_ BK759.out 0 (.int .i64 a1_0) rfl
                  have hcz25_1 := bc_ BK759.out 1 (.int .i64 a1_1) rfl
                  have hfz25_0 := blk_frozen BK759.out 0
                  have hfz25_1 := blk_frozen BK759.out 1
                  go_wp2_with (first | ((with_reducible refine gate_callee (f := 33) rfl ?_); refine goesL_ (some 41) rfl rfl Try.func33 (by kernel_rfl) rfl #[.agg #[.bool a0_0, .int .i64 a0_1, .int .i64 a0_2, .int .i64 a0_3], .agg #[.int .i64 a1_0, .int .i64 a1_1], .int .i64 (wrap64 (a5 + x16_2))] rfl arr_ ?_; (with_reducible refine (spec_CarryOn.calls k2 a0_0 a0_1 a0_2 a0_3 a1_0 a1_1 (wrap64 (a5 + x16_2)) t763 t764 t765 _ A17.out).mono ?_); rintro e w26 ⟨rfl, hb⟩; refine ⟨_, rfl, ?_⟩; have n0_ := am_ (bb_ BK758.out hb); have n1_ := am_ (bb_ BK759.out hb); have n2_ := am_ (bb_ BK760.out hb); have n3_ := am_ (below_step (hb3_ HB.out GE758.out GE759.out GE760.out) hb); clear BK758; clear BK759; clear BK760; clear HB; have BK758 := n0_; have BK759 := n1_; have BK760 := n2_; have HB := n3_; clear n0_ n1_ n2_ n3_; (try clear hb); (try clear hb2); (try clear hk); (try clear hi)) | ((with_reducible refine gate_dst (N := 17) rfl ?_); refine box_event ?hg (N := 17) ?hd (cs := #[.int .i64 0, .int .i64 0]) (t := 32) ?hr ?_; (case hd => rfl); (case hg => rfl); (case hr => first|(go_simp;done)|(go_simp;rfl)); intro gb766 hg w27 hbox hb; have n0_ := am_ (bb_ BK758.out hb); have n1_ := am_ (bb_ BK759.out hb); have n2_ := am_ (bb_ BK760.out hb); have n3_ := am_ (below_step (hb3_ HB.out GE758.out GE759.out GE760.out) hb); have n4_ := am_ (hbox); have n5_ := am_ (hy_ hg (hb3_ HB.out GE758.out GE759.out GE760.out) : w.heap.size ≤ gb766); have n6_ := am_ (hy_ hg (hb3_ HB.out GE758.out GE759.out GE760.out) : w.heap.size ≤ gb766); have n7_ := am_ ((bl_ hg BK758.out : gb758 ≠ gb766)); have n8_ := am_ ((bg_ hg BK758.out : gb766 ≠ gb758)); have n9_ := am_ ((bl_ hg BK759.out : gb759 ≠ gb766)); have n10_ := am_ ((bg_ hg BK759.out : gb766 ≠ gb759)); have n11_ := am_ ((bl_ hg BK760.out : gb760 ≠ gb766)); have n12_ := am_ ((bg_ hg BK760.out : gb766 ≠ gb760)); clear BK758; clear BK759; clear BK760; clear HB; have BK758 := n0_; have BK759 := n1_; have BK760 := n2_; have HB := n3_; have BK766 := n4_; have GW766 := n5_; have GE766 := n6_; have NB758_766 := n7_; have NB766_758 := n8_; have NB759_766 := n9_; have NB766_759 := n10_; have NB760_766 := n11_; have NB766_760 := n12_; clear n0_ n1_ n2_ n3_ n4_ n5_ n6_ n7_ n8_ n9_ n10_ n11_ n12_; clear hb hbox hg; have hnb28 := NB766_758.out; have hnc28 := NB758_766.out; have hnb29 := NB766_759.out; have hnc29 := NB759_766.out; have hnb30 := NB766_760.out; have hnc30 := NB760_766.out; have hcz31_0 := bc_ BK766.out 0 (.int .i64 0) rfl; have hcz31_1 := bc_ BK766.out 1 (.int .i64 0) rfl; have hfz31_0 := blk_frozen BK766.out 0; have hfz31_1 := blk_frozen BK766.out 1; have hcz32_0 := bc_ BK759.out 0 (.int .i64 a1_0) rfl; have hcz32_1 := bc_ BK759.out 1 (.int .i64 a1_1) rfl; have hfz32_0 := blk_frozen BK759.out 0; have hfz32_1 := blk_frozen BK759.out 1; have hcz33_0 := bc_ BK760.out 0 (.int .i64 a3_0) rfl; have hcz33_1 := bc_ BK760.out 1 (.int .i64 a3_1) rfl; have hcz33_2 := bc_ BK760.out 2 (.slice A3_2 l3_2.length c3_2) rfl; have hfz33_0 := blk_frozen BK760.out 0; have hfz33_1 := blk_frozen BK760.out 1; have hfz33_2 := blk_frozen BK760.out 2) | ((with_reducible refine gate_callee (f := 10) rfl ?_); refine goesL_ (some 52) rfl rfl Try.func10 (by kernel_rfl) rfl #[.agg #[.int .i64 t763, .int .i64 t764], .bool true, .agg #[.int .i64 a1_0, .int .i64 a1_1], .int .i64 a2, .agg #[.int .i64 a3_0, .int .i64 a3_1, .slice A3_2 l3_2.length c3_2], .int .i64 a4] rfl arr_ ?_; (with_reducible refine (spec_GateAsk.calls k2 t763 t764 true a1_0 a1_1 a2 a3_0 a3_1 _ _ l3_2 a4 t767 t768 t769 _ ?side1 ?side2 A19.out).mono ?_); (case side1 => exact Kd.C_below HR3_2.out (hb4_ HB.out GE758.out GE759.out GE760.out GE766.out)); (case side2 => exact HC3_2.out); rintro e w34 ⟨rfl, hb⟩; refine ⟨_, rfl, ?_⟩; have n0_ := am_ (blk_below (g := gb758) (o := .cells #[.bool a0_0, .int .i64 a0_1, .int .i64 a0_2, .int .i64 a0_3] 62 (0, 0)) (by (with_reducible repeat (first | refine blk_drewN ?_ _ | refine blk_drew ?_ | refine blk_alloc ?_ _)); refine blk_far ?_ NB758_766.out _; (with_reducible repeat (first | refine blk_drewN ?_ _ | refine blk_drew ?_ | refine blk_alloc ?_ _)); refine blk_far ?_ NB758_766.out _; (with_reducible repeat (first | refine blk_drewN ?_ _ | refine blk_drew ?_ | refine blk_alloc ?_ _)); exact BK758.out) hb); have n1_ := am_ (blk_below (g := gb759) (o := .cells #[.int .i64 a1_0, .int .i64 a1_1] 34 (0, 0)) (by (with_reducible repeat (first | refine blk_drewN ?_ _ | refine blk_drew ?_ | refine blk_alloc ?_ _)); refine blk_far ?_ NB759_766.out _; (with_reducible repeat (first | refine blk_drewN ?_ _ | refine blk_drew ?_ | refine blk_alloc ?_ _)); refine blk_far ?_ NB759_766.out _; (with_reducible repeat (first | refine blk_drewN ?_ _ | refine blk_drew ?_ | refine blk_alloc ?_ _)); exact BK759.out) hb); have n2_ := am_ (blk_below (g := gb760) (o := .cells #[.int .i64 a3_0, .int .i64 a3_1, .slice A3_2 l3_2.length c3_2] 38 (0, 0)) (by (with_reducible repeat (first | refine blk_drewN ?_ _ | refine blk_drew ?_ | refine blk_alloc ?_ _)); refine blk_far ?_ NB760_766.out _; (with_reducible repeat (first | refine blk_drewN ?_ _ | refine blk_drew ?_ | refine blk_alloc ?_ _)); refine blk_far ?_ NB760_766.out _; (with_reducible repeat (first | refine blk_drewN ?_ _ | refine blk_drew ?_ | refine blk_alloc ?_ _)); exact BK760.out) hb); have n3_ := am_ (blk_below (g := gb766) (o := .cells #[.int .i64 t763, .int .i64 t764] 32 (0, 0)) (by (with_reducible repeat (first | refine blk_drewN ?_ _ | refine blk_drew ?_ | refine blk_alloc ?_ _)); refine blk_put (cs := #[.int .i64 t763, .int .i64 0]) ?_ 1 _ rfl; (with_reducible repeat (first | refine blk_drewN ?_ _ | refine blk_drew ?_ | refine blk_alloc ?_ _)); refine blk_put (cs := #[.int .i64 0, .int .i64 0]) ?_ 0 _ rfl; (with_reducible repeat (first | refine blk_drewN ?_ _ | refine blk_drew ?_ | refine blk_alloc ?_ _)); exact BK766.out) hb); have n4_ := am_ (below_step (hb4_ HB.out GE758.out GE759.out GE760.out GE766.out) hb); clear BK758; clear BK759; clear BK760; clear BK766; clear HB; have BK758 := n0_; have BK759 := n1_; have BK760 := n2_; have BK766 := n3_; have HB := n4_; clear n0_ n1_ n2_ n3_ n4_; (try clear hb); (try clear hb2); (try clear hk); (try clear hi)))
                  go_ret2
                  exact ⟨er_, hb4_ HB.out GE758.out GE759.out GE760.out GE766.out⟩
                · rw [if_neg c20] at H
                  have c20b0 : (t769 == 0) = false := beq_eq_false_iff_ne.mpr c20
                  have c20b1 : (t769 != 0) = true := bne_iff_ne.mpr c20
                  have H' := Aside0.mk H
                  clear H
                  have hnb35 := NB758_759.out
                  have hnc35 := NB759_758.out
                  have hnb36 := NB758_760.out
                  have hnc36 := NB760_758.out
                  have hcz37_0 := bc_ BK758.out 0 (.bool a0_0) rfl
                  have hcz37_1 := bc_ BK758.out 1 (.int .i64 a0_1) rfl
                  have hcz37_2 := bc_ BK758.out 2 (.int .i64 a0_2) rfl
                  have hcz37_3 := bc_ BK758.out 3 (.int .i64 a0_3) rfl
                  have hfz37_0 := blk_frozen BK758.out 0
                  have hfz37_1 := blk_frozen BK758.out 1
                  have hfz37_2 := blk_frozen BK758.out 2
                  have hfz37_3 := blk_frozen BK758.out 3
                  have hnb38 := NB759_760.out
                  have hnc38 := NB760_759.out
                  have hcz39_0 := bc_ BK759.out 0 (.int .i64 a1_0) rfl
                  have hcz39_1 := bc_ BK759.out 1 (.int .i64 a1_1) rfl
                  have hfz39_0 := blk_frozen BK759.out 0
                  have hfz39_1 := blk_frozen BK759.out 1
                  go_wp2_with (first | ((with_reducible refine gate_callee (f := 33) rfl ?_); refine goesL_ (some 41) rfl rfl Try.func33 (by kernel_rfl) rfl #[.agg #[.bool a0_0, .int .i64 a0_1, .int .i64 a0_2, .int .i64 a0_3], .agg #[.int .i64 a1_0, .int .i64 a1_1], .int .i64 (wrap64 (a5 + x16_2))] rfl arr_ ?_; (with_reducible refine (spec_CarryOn.calls k2 a0_0 a0_1 a0_2 a0_3 a1_0 a1_1 (wrap64 (a5 + x16_2)) t763 t764 t765 _ A17.out).mono ?_); rintro e w40 ⟨rfl, hb⟩; refine ⟨_, rfl, ?_⟩; have n0_ := am_ (bb_ BK758.out hb); have n1_ := am_ (bb_ BK759.out hb); have n2_ := am_ (bb_ BK760.out hb); have n3_ := am_ (below_step (hb3_ HB.out GE758.out GE759.out GE760.out) hb); clear BK758; clear BK759; clear BK760; clear HB; have BK758 := n0_; have BK759 := n1_; have BK760 := n2_; have HB := n3_; clear n0_ n1_ n2_ n3_; (try clear hb); (try clear hb2); (try clear hk); (try clear hi)) | ((with_reducible refine gate_dst (N := 17) rfl ?_); refine box_event ?hg (N := 17) ?hd (cs := #[.int .i64 0, .int .i64 0]) (t := 32) ?hr ?_; (case hd => rfl); (case hg => rfl); (case hr => first|(go_simp;done)|(go_simp;rfl)); intro gb766 hg w41 hbox hb; have n0_ := am_ (bb_ BK758.out hb); have n1_ := am_ (bb_ BK759.out hb); have n2_ := am_ (bb_ BK760.out hb); have n3_ := am_ (below_step (hb3_ HB.out GE758.out GE759.out GE760.out) hb); have n4_ := am_ (hbox); have n5_ := am_ (hy_ hg (hb3_ HB.out GE758.out GE759.out GE760.out) : w.heap.size ≤ gb766); have n6_ := am_ (hy_ hg (hb3_ HB.out GE758.out GE759.out GE760.out) : w.heap.size ≤ gb766); have n7_ := am_ ((bl_ hg BK758.out : gb758 ≠ gb766)); have n8_ := am_ ((bg_ hg BK758.out : gb766 ≠ gb758)); have n9_ := am_ ((bl_ hg BK759.out : gb759 ≠ gb766)); have n10_ := am_ ((bg_ hg BK759.out : gb766 ≠ gb759)); have n11_ := am_ ((bl_ hg BK760.out : gb760 ≠ gb766)); have n12_ := am_ ((bg_ hg BK760.out : gb766 ≠ gb760)); clear BK758; clear BK759; clear BK760; clear HB; have BK758 := n0_; have BK759 := n1_; have BK760 := n2_; have HB := n3_; have BK766 := n4_; have GW766 := n5_; have GE766 := n6_; have NB758_766 := n7_; have NB766_758 := n8_; have NB759_766 := n9_; have NB766_759 := n10_; have NB760_766 := n11_; have NB766_760 := n12_; clear n0_ n1_ n2_ n3_ n4_ n5_ n6_ n7_ n8_ n9_ n10_ n11_ n12_; clear hb hbox hg; have hnb42 := NB766_758.out; have hnc42 := NB758_766.out; have hnb43 := NB766_759.out; have hnc43 := NB759_766.out; have hnb44 := NB766_760.out; have hnc44 := NB760_766.out; have hcz45_0 := bc_ BK766.out 0 (.int .i64 0) rfl; have hcz45_1 := bc_ BK766.out 1 (.int .i64 0) rfl; have hfz45_0 := blk_frozen BK766.out 0; have hfz45_1 := blk_frozen BK766.out 1; have hcz46_0 := bc_ BK759.out 0 (.int .i64 a1_0) rfl; have hcz46_1 := bc_ BK759.out 1 (.int .i64 a1_1) rfl; have hfz46_0 := blk_frozen BK759.out 0; have hfz46_1 := blk_frozen BK759.out 1; have hcz47_0 := bc_ BK760.out 0 (.int .i64 a3_0) rfl; have hcz47_1 := bc_ BK760.out 1 (.int .i64 a3_1) rfl; have hcz47_2 := bc_ BK760.out 2 (.slice A3_2 l3_2.length c3_2) rfl; have hfz47_0 := blk_frozen BK760.out 0; have hfz47_1 := blk_frozen BK760.out 1; have hfz47_2 := blk_frozen BK760.out 2) | ((with_reducible refine gate_callee (f := 10) rfl ?_); refine goesL_ (some 52) rfl rfl Try.func10 (by kernel_rfl) rfl #[.agg #[.int .i64 t763, .int .i64 t764], .bool true, .agg #[.int .i64 a1_0, .int .i64 a1_1], .int .i64 a2, .agg #[.int .i64 a3_0, .int .i64 a3_1, .slice A3_2 l3_2.length c3_2], .int .i64 a4] rfl arr_ ?_; (with_reducible refine (spec_GateAsk.calls k2 t763 t764 true a1_0 a1_1 a2 a3_0 a3_1 _ _ l3_2 a4 t767 t768 t769 _ ?side1 ?side2 A19.out).mono ?_); (case side1 => exact Kd.C_below HR3_2.out (hb4_ HB.out GE758.out GE759.out GE760.out GE766.out)); (case side2 => exact HC3_2.out); rintro e w48 ⟨rfl, hb⟩; refine ⟨_, rfl, ?_⟩; have n0_ := am_ (blk_below (g := gb758) (o := .cells #[.bool a0_0, .int .i64 a0_1, .int .i64 a0_2, .int .i64 a0_3] 62 (0, 0)) (by (with_reducible repeat (first | refine blk_drewN ?_ _ | refine blk_drew ?_ | refine blk_alloc ?_ _)); refine blk_far ?_ NB758_766.out _; (with_reducible repeat (first | refine blk_drewN ?_ _ | refine blk_drew ?_ | refine blk_alloc ?_ _)); refine blk_far ?_ NB758_766.out _; (with_reducible repeat (first | refine blk_drewN ?_ _ | refine blk_drew ?_ | refine blk_alloc ?_ _)); exact BK758.out) hb); have n1_ := am_ (blk_below (g := gb759) (o := .cells #[.int .i64 a1_0, .int .i64 a1_1] 34 (0, 0)) (by (with_reducible repeat (first | refine blk_drewN ?_ _ | refine blk_drew ?_ | refine blk_alloc ?_ _)); refine blk_far ?_ NB759_766.out _; (with_reducible repeat (first | refine blk_drewN ?_ _ | refine blk_drew ?_ | refine blk_alloc ?_ _)); refine blk_far ?_ NB759_766.out _; (with_reducible repeat (first | refine blk_drewN ?_ _ | refine blk_drew ?_ | refine blk_alloc ?_ _)); exact BK759.out) hb); have n2_ := am_ (blk_below (g := gb760) (o := .cells #[.int .i64 a3_0, .int .i64 a3_1, .slice A3_2 l3_2.length c3_2] 38 (0, 0)) (by (with_reducible repeat (first | refine blk_drewN ?_ _ | refine blk_drew ?_ | refine blk_alloc ?_ _)); refine blk_far ?_ NB760_766.out _; (with_reducible repeat (first | refine blk_drewN ?_ _ | refine blk_drew ?_ | refine blk_alloc ?_ _)); refine blk_far ?_ NB760_766.out _; (with_reducible repeat (first | refine blk_drewN ?_ _ | refine blk_drew ?_ | refine blk_alloc ?_ _)); exact BK760.out) hb); have n3_ := am_ (blk_below (g := gb766) (o := .cells #[.int .i64 t763, .int .i64 t764] 32 (0, 0)) (by (with_reducible repeat (first | refine blk_drewN ?_ _ | refine blk_drew ?_ | refine blk_alloc ?_ _)); refine blk_put (cs := #[.int .i64 t763, .int .i64 0]) ?_ 1 _ rfl; (with_reducible repeat (first | refine blk_drewN ?_ _ | refine blk_drew ?_ | refine blk_alloc ?_ _)); refine blk_put (cs := #[.int .i64 0, .int .i64 0]) ?_ 0 _ rfl; (with_reducible repeat (first | refine blk_drewN ?_ _ | refine blk_drew ?_ | refine blk_alloc ?_ _)); exact BK766.out) hb); have n4_ := am_ (below_step (hb4_ HB.out GE758.out GE759.out GE760.out GE766.out) hb); clear BK758; clear BK759; clear BK760; clear BK766; clear HB; have BK758 := n0_; have BK759 := n1_; have BK760 := n2_; have BK766 := n3_; have HB := n4_; clear n0_ n1_ n2_ n3_ n4_; (try clear hb); (try clear hb2); (try clear hk); (try clear hi)))
                  go_roundg k2
                  case measure => have := HJ7.out; have := HK2.out; omega
                  case rel => exact ⟨(wrap64 (x16_2 + 1)), (by first | rfl | (simp; done) | (simp [*]; done)), H', ⟨by have := HJ7.out; have := HK2.out; omega⟩, ⟨bk_ BK758.out⟩, ⟨bk_ BK759.out⟩, ⟨bk_ BK760.out⟩, ⟨hb4_ HB.out GE758.out GE759.out GE760.out GE766.out⟩⟩
              · rw [if_neg c18] at H
                have c18b0 : (t765 == 0) = false := beq_eq_false_iff_ne.mpr c18
                have c18b1 : (t765 != 0) = true := bne_iff_ne.mpr c18
                have H' := Aside0.mk H
                clear H
                have hnb49 := NB758_759.out
                have hnc49 := NB759_758.out
                have hnb50 := NB758_760.out
                have hnc50 := NB760_758.out
                have hcz51_0 := bc_ BK758.out 0 (.bool a0_0) rfl
                have hcz51_1 := bc_ BK758.out 1 (.int .i64 a0_1) rfl
                have hcz51_2 := bc_ BK758.out 2 (.int .i64 a0_2) rfl
                have hcz51_3 := bc_ BK758.out 3 (.int .i64 a0_3) rfl
                have hfz51_0 := blk_frozen BK758.out 0
                have hfz51_1 := blk_frozen BK758.out 1
                have hfz51_2 := blk_frozen BK758.out 2
                have hfz51_3 := blk_frozen BK758.out 3
                have hnb52 := NB759_760.out
                have hnc52 := NB760_759.out
                have hcz53_0 := bc_ BK759.out 0 (.int .i64 a1_0) rfl
                have hcz53_1 := bc_ BK759.out 1 (.int .i64 a1_1) rfl
                have hfz53_0 := blk_frozen BK759.out 0
                have hfz53_1 := blk_frozen BK759.out 1
                go_wp2_with (first | ((with_reducible refine gate_callee (f := 33) rfl ?_); refine goesL_ (some 41) rfl rfl Try.func33 (by kernel_rfl) rfl #[.agg #[.bool a0_0, .int .i64 a0_1, .int .i64 a0_2, .int .i64 a0_3], .agg #[.int .i64 a1_0, .int .i64 a1_1], .int .i64 (wrap64 (a5 + x16_2))] rfl arr_ ?_; (with_reducible refine (spec_CarryOn.calls k2 a0_0 a0_1 a0_2 a0_3 a1_0 a1_1 (wrap64 (a5 + x16_2)) t763 t764 t765 _ A17.out).mono ?_); rintro e w54 ⟨rfl, hb⟩; refine ⟨_, rfl, ?_⟩; have n0_ := am_ (bb_ BK758.out hb); have n1_ := am_ (bb_ BK759.out hb); have n2_ := am_ (bb_ BK760.out hb); have n3_ := am_ (below_step (hb3_ HB.out GE758.out GE759.out GE760.out) hb); clear BK758; clear BK759; clear BK760; clear HB; have BK758 := n0_; have BK759 := n1_; have BK760 := n2_; have HB := n3_; clear n0_ n1_ n2_ n3_; (try clear hb); (try clear hb2); (try clear hk); (try clear hi)) | ((with_reducible refine gate_dst (N := 17) rfl ?_); refine box_event ?hg (N := 17) ?hd (cs := #[.int .i64 0, .int .i64 0]) (t := 32) ?hr ?_; (case hd => rfl); (case hg => rfl); (case hr => first|(go_simp;done)|(go_simp;rfl)); intro gb766 hg w55 hbox hb; have n0_ := am_ (bb_ BK758.out hb); have n1_ := am_ (bb_ BK759.out hb); have n2_ := am_ (bb_ BK760.out hb); have n3_ := am_ (below_step (hb3_ HB.out GE758.out GE759.out GE760.out) hb); have n4_ := am_ (hbox); have n5_ := am_ (hy_ hg (hb3_ HB.out GE758.out GE759.out GE760.out) : w.heap.size ≤ gb766); have n6_ := am_ (hy_ hg (hb3_ HB.out GE758.out GE759.out GE760.out) : w.heap.size ≤ gb766); have n7_ := am_ ((bl_ hg BK758.out : gb758 ≠ gb766)); have n8_ := am_ ((bg_ hg BK758.out : gb766 ≠ gb758)); have n9_ := am_ ((bl_ hg BK759.out : gb759 ≠ gb766)); have n10_ := am_ ((bg_ hg BK759.out : gb766 ≠ gb759)); have n11_ := am_ ((bl_ hg BK760.out : gb760 ≠ gb766)); have n12_ := am_ ((bg_ hg BK760.out : gb766 ≠ gb760)); clear BK758; clear BK759; clear BK760; clear HB; have BK758 := n0_; have BK759 := n1_; have BK760 := n2_; have HB := n3_; have BK766 := n4_; have GW766 := n5_; have GE766 := n6_; have NB758_766 := n7_; have NB766_758 := n8_; have NB759_766 := n9_; have NB766_759 := n10_; have NB760_766 := n11_; have NB766_760 := n12_; clear n0_ n1_ n2_ n3_ n4_ n5_ n6_ n7_ n8_ n9_ n10_ n11_ n12_; clear hb hbox hg; have hnb56 := NB766_758.out; have hnc56 := NB758_766.out; have hnb57 := NB766_759.out; have hnc57 := NB759_766.out; have hnb58 := NB766_760.out; have hnc58 := NB760_766.out; have hcz59_0 := bc_ BK766.out 0 (.int .i64 0) rfl; have hcz59_1 := bc_ BK766.out 1 (.int .i64 0) rfl; have hfz59_0 := blk_frozen BK766.out 0; have hfz59_1 := blk_frozen BK766.out 1))
                go_roundg k2
                case measure => have := HJ7.out; have := HK2.out; omega
                case rel => exact ⟨(wrap64 (x16_2 + 1)), (by first | rfl | (simp; done) | (simp [*]; done)), H', ⟨by have := HJ7.out; have := HK2.out; omega⟩, ⟨by (with_reducible repeat (first | refine blk_drewN ?_ _ | refine blk_drew ?_ | refine blk_alloc ?_ _)); refine blk_far ?_ NB758_766.out _; (with_reducible repeat (first | refine blk_drewN ?_ _ | refine blk_drew ?_ | refine blk_alloc ?_ _)); refine blk_far ?_ NB758_766.out _; (with_reducible repeat (first | refine blk_drewN ?_ _ | refine blk_drew ?_ | refine blk_alloc ?_ _)); exact BK758.out⟩, ⟨by (with_reducible repeat (first | refine blk_drewN ?_ _ | refine blk_drew ?_ | refine blk_alloc ?_ _)); refine blk_far ?_ NB759_766.out _; (with_reducible repeat (first | refine blk_drewN ?_ _ | refine blk_drew ?_ | refine blk_alloc ?_ _)); refine blk_far ?_ NB759_766.out _; (with_reducible repeat (first | refine blk_drewN ?_ _ | refine blk_drew ?_ | refine blk_alloc ?_ _)); exact BK759.out⟩, ⟨by (with_reducible repeat (first | refine blk_drewN ?_ _ | refine blk_drew ?_ | refine blk_alloc ?_ _)); refine blk_far ?_ NB760_766.out _; (with_reducible repeat (first | refine blk_drewN ?_ _ | refine blk_drew ?_ | refine blk_alloc ?_ _)); refine blk_far ?_ NB760_766.out _; (with_reducible repeat (first | refine blk_drewN ?_ _ | refine blk_drew ?_ | refine blk_alloc ?_ _)); exact BK760.out⟩, ⟨hb4_ HB.out GE758.out GE759.out GE760.out GE766.out⟩⟩
            · rw [if_neg c16] at H
              have c16b0 : decide (x16_2 ≤ a6) = false := decide_eq_false c16
              clear c16
              simp only [Option.some.injEq, Prod.mk.injEq] at H
              obtain ⟨rfl, rfl⟩ := H
              go_wp2
              go_ret2
              exact ⟨er_, hb3_ HB.out GE758.out GE759.out GE760.out⟩
end Go.Proofs.Ytejohmompmjhnaa.P

namespace Go.Proofs.Ytejohmompmjhnaa.P
open Go.RowKit Go.Proofs.YtejohmompmjhnaaW.PrintWords Go.Proofs.YtejohmompmjhnaaW.PrintLast Go.Proofs.YtejohmompmjhnaaW.PrintMore
attribute [local go_sem] max2_int min2_int max_two min_two max_three min_three max_four min_four
set_option linter.unusedVariables false
set_option linter.unusedSimpArgs false
def laws_toIval.f (a0_0 : Int) (a0_1 : Int) : Option (Int × Int) := some (a0_0, a0_1)
set_option maxHeartbeats 8000000 in
set_option maxRecDepth 100000 in
theorem laws_toIval.calls (a0_0 : Int) (a0_1 : Int) (r1 : Int) (r2 : Int) (w : World) (h : laws_toIval.f a0_0 a0_1 = some (r1, r2)) :
    Calls Try.prog 11 #[.agg #[.int .i64 a0_0, .int .i64 a0_1]] w fun e w' => e = .returned (.agg #[.int .i64 r1, .int .i64 r2]) ∧ Below w.heap.size w w' := by
  have hu23 := Try.underlying23
  have hu32 := Try.underlying32
  have HB := am_ (Below.refl w.heap.size w)
  have H : (some (a0_0, a0_1)) = some (r1, r2) := h
  clear h
  simp only [Option.some.injEq, Prod.mk.injEq] at H
  obtain ⟨rfl, rfl⟩ := H
  go_enter Try.func11, Try.ntmps11
  go_wp2_with (first | ((with_reducible refine gate_dst (N := 1) rfl ?_); refine box_event ?hg (N := 1) ?hd (cs := #[.int .i64 a0_0, .int .i64 a0_1]) (t := 23) ?hr ?_; (case hd => rfl); (case hg => rfl); (case hr => first|(go_simp;done)|(go_simp;rfl)); intro gb199 hg w2 hbox hb; have n0_ := am_ (below_step (hb_ HB.out) hb); have n1_ := am_ (hbox); have n2_ := am_ (hy_ hg (hb_ HB.out) : w.heap.size ≤ gb199); have n3_ := am_ (hy_ hg (hb_ HB.out) : w.heap.size ≤ gb199); clear HB; have HB := n0_; have BK199 := n1_; have GW199 := n2_; have GE199 := n3_; clear n0_ n1_ n2_ n3_; clear hb hbox hg) | ((with_reducible refine gate_dst (N := 2) rfl ?_); refine box_event ?hg (N := 2) ?hd (cs := #[.int .i64 0, .int .i64 0]) (t := 32) ?hr ?_; (case hd => rfl); (case hg => rfl); (case hr => first|(go_simp;done)|(go_simp;rfl)); intro gb200 hg w3 hbox hb; have n0_ := am_ (bb_ BK199.out hb); have n1_ := am_ (below_step (hb1_ HB.out GE199.out) hb); have n2_ := am_ (hbox); have n3_ := am_ (hy_ hg (hb1_ HB.out GE199.out) : w.heap.size ≤ gb200); have n4_ := am_ (hy_ hg (hb1_ HB.out GE199.out) : w.heap.size ≤ gb200); have n5_ := am_ ((bl_ hg BK199.out : gb199 ≠ gb200)); have n6_ := am_ ((bg_ hg BK199.out : gb200 ≠ gb199)); clear BK199; clear HB; have BK199 := n0_; have HB := n1_; have BK200 := n2_; have GW200 := n3_; have GE200 := n4_; have NB199_200 := n5_; have NB200_199 := n6_; clear n0_ n1_ n2_ n3_ n4_ n5_ n6_; clear hb hbox hg) | ((with_reducible refine gate_dst (N := 3) rfl ?_); refine box_event ?hg (N := 3) ?hd (cs := #[.int .i64 0, .int .i64 0]) (t := 32) ?hr ?_; (case hd => rfl); (case hg => rfl); (case hr => first|(go_simp;done)|(go_simp;rfl)); intro gb201 hg w4 hbox hb; have n0_ := am_ (bb_ BK199.out hb); have n1_ := am_ (bb_ BK200.out hb); have n2_ := am_ (below_step (hb2_ HB.out GE199.out GE200.out) hb); have n3_ := am_ (hbox); have n4_ := am_ (hy_ hg (hb2_ HB.out GE199.out GE200.out) : w.heap.size ≤ gb201); have n5_ := am_ (hy_ hg (hb2_ HB.out GE199.out GE200.out) : w.heap.size ≤ gb201); have n6_ := am_ ((bl_ hg BK199.out : gb199 ≠ gb201)); have n7_ := am_ ((bg_ hg BK199.out : gb201 ≠ gb199)); have n8_ := am_ ((bl_ hg BK200.out : gb200 ≠ gb201)); have n9_ := am_ ((bg_ hg BK200.out : gb201 ≠ gb200)); clear BK199; clear BK200; clear HB; have BK199 := n0_; have BK200 := n1_; have HB := n2_; have BK201 := n3_; have GW201 := n4_; have GE201 := n5_; have NB199_201 := n6_; have NB201_199 := n7_; have NB200_201 := n8_; have NB201_200 := n9_; clear n0_ n1_ n2_ n3_ n4_ n5_ n6_ n7_ n8_ n9_; clear hb hbox hg; have hnb5 := NB199_200.out; have hnc5 := NB200_199.out; have hnb6 := NB199_201.out; have hnc6 := NB201_199.out; have hcz7_0 := bc_ BK199.out 0 (.int .i64 a0_0) rfl; have hcz7_1 := bc_ BK199.out 1 (.int .i64 a0_1) rfl; have hfz7_0 := blk_frozen BK199.out 0; have hfz7_1 := blk_frozen BK199.out 1; have hnb8 := NB201_200.out; have hnc8 := NB200_201.out; have hcz9_0 := bc_ BK201.out 0 (.int .i64 0) rfl; have hcz9_1 := bc_ BK201.out 1 (.int .i64 0) rfl; have hfz9_0 := blk_frozen BK201.out 0; have hfz9_1 := blk_frozen BK201.out 1; have hcz10_0 := bc_ BK200.out 0 (.int .i64 0) rfl; have hcz10_1 := bc_ BK200.out 1 (.int .i64 0) rfl; have hfz10_0 := blk_frozen BK200.out 0; have hfz10_1 := blk_frozen BK200.out 1))
  refine bodyPost_ret (results_cell_row rfl _ _ gb200 32 #[.int .i64 a0_0, .int .i64 a0_1] (0, 0) _ rfl (by (with_reducible repeat (first | refine blk_drewN ?_ _ | refine blk_drew ?_ | refine blk_alloc ?_ _)); refine blk_put (cs := #[.int .i64 a0_0, .int .i64 0]) ?_ 1 _ rfl; (with_reducible repeat (first | refine blk_drewN ?_ _ | refine blk_drew ?_ | refine blk_alloc ?_ _)); refine blk_put (cs := #[.int .i64 0, .int .i64 0]) ?_ 0 _ rfl; (with_reducible repeat (first | refine blk_drewN ?_ _ | refine blk_drew ?_ | refine blk_alloc ?_ _)); refine blk_far ?_ NB200_201.out _; (with_reducible repeat (first | refine blk_drewN ?_ _ | refine blk_drew ?_ | refine blk_alloc ?_ _)); refine blk_far ?_ NB200_201.out _; (with_reducible repeat (first | refine blk_drewN ?_ _ | refine blk_drew ?_ | refine blk_alloc ?_ _)); exact BK200.out) Try.underlying32 rfl (by kernel_rfl)) rfl ?_
  exact ⟨er_, hb3_ HB.out GE199.out GE200.out GE201.out⟩
def laws_toLocal.f (a0_0 : Bool) (a0_1 : Int) (a0_2 : Int) (a0_3 : Int) : Option (Bool × Int × Int × Int) := (laws_toIval.f a0_1 a0_2).bind fun bt773 => (some (a0_0, bt773.1, bt773.2, a0_3))
set_option maxHeartbeats 8000000 in
set_option maxRecDepth 100000 in
theorem laws_toLocal.calls (a0_0 : Bool) (a0_1 : Int) (a0_2 : Int) (a0_3 : Int) (r1 : Bool) (r2 : Int) (r3 : Int) (r4 : Int) (w : World) (h : laws_toLocal.f a0_0 a0_1 a0_2 a0_3 = some (r1, r2, r3, r4)) :
    Calls Try.prog 29 #[.agg #[.bool a0_0, .int .i64 a0_1, .int .i64 a0_2, .int .i64 a0_3]] w fun e w' => e = .returned (.agg #[.bool r1, .int .i64 r2, .int .i64 r3, .int .i64 r4]) ∧ Below w.heap.size w w' := by
  have hu59 := Try.underlying59
  have hu62 := Try.underlying62
  have hu23 := Try.underlying23
  have hu32 := Try.underlying32
  have HB := am_ (Below.refl w.heap.size w)
  have H : ((laws_toIval.f a0_1 a0_2).bind fun bt773 => (some (a0_0, bt773.1, bt773.2, a0_3))) = some (r1, r2, r3, r4) := h
  clear h
  replace H := Option.bind_eq_some_iff.mp H
  obtain ⟨⟨t773, t774⟩, A20, H⟩ := H
  replace H : (some (a0_0, t773, t774, a0_3)) = some (r1, r2, r3, r4) := H
  have A2 := Aside0.mk A20
  clear A20
  simp only [Option.some.injEq, Prod.mk.injEq] at H
  obtain ⟨rfl, rfl, rfl, rfl⟩ := H
  go_enter Try.func29, Try.ntmps29
  go_wp2_with (first | ((with_reducible refine gate_dst (N := 1) rfl ?_); refine box_event ?hg (N := 1) ?hd (cs := #[.bool a0_0, .int .i64 a0_1, .int .i64 a0_2, .int .i64 a0_3]) (t := 59) ?hr ?_; (case hd => rfl); (case hg => rfl); (case hr => first|(go_simp;done)|(go_simp;rfl)); intro gb770 hg w3 hbox hb; have n0_ := am_ (below_step (hb_ HB.out) hb); have n1_ := am_ (hbox); have n2_ := am_ (hy_ hg (hb_ HB.out) : w.heap.size ≤ gb770); have n3_ := am_ (hy_ hg (hb_ HB.out) : w.heap.size ≤ gb770); clear HB; have HB := n0_; have BK770 := n1_; have GW770 := n2_; have GE770 := n3_; clear n0_ n1_ n2_ n3_; clear hb hbox hg) | ((with_reducible refine gate_dst (N := 2) rfl ?_); refine box_event ?hg (N := 2) ?hd (cs := #[.bool false, .int .i64 0, .int .i64 0, .int .i64 0]) (t := 62) ?hr ?_; (case hd => rfl); (case hg => rfl); (case hr => first|(go_simp;done)|(go_simp;rfl)); intro gb771 hg w4 hbox hb; have n0_ := am_ (bb_ BK770.out hb); have n1_ := am_ (below_step (hb1_ HB.out GE770.out) hb); have n2_ := am_ (hbox); have n3_ := am_ (hy_ hg (hb1_ HB.out GE770.out) : w.heap.size ≤ gb771); have n4_ := am_ (hy_ hg (hb1_ HB.out GE770.out) : w.heap.size ≤ gb771); have n5_ := am_ ((bl_ hg BK770.out : gb770 ≠ gb771)); have n6_ := am_ ((bg_ hg BK770.out : gb771 ≠ gb770)); clear BK770; clear HB; have BK770 := n0_; have HB := n1_; have BK771 := n2_; have GW771 := n3_; have GE771 := n4_; have NB770_771 := n5_; have NB771_770 := n6_; clear n0_ n1_ n2_ n3_ n4_ n5_ n6_; clear hb hbox hg) | ((with_reducible refine gate_dst (N := 3) rfl ?_); refine box_event ?hg (N := 3) ?hd (cs := #[.bool false, .int .i64 0, .int .i64 0, .int .i64 0]) (t := 62) ?hr ?_; (case hd => rfl); (case hg => rfl); (case hr => first|(go_simp;done)|(go_simp;rfl)); intro gb772 hg w5 hbox hb; have n0_ := am_ (bb_ BK770.out hb); have n1_ := am_ (bb_ BK771.out hb); have n2_ := am_ (below_step (hb2_ HB.out GE770.out GE771.out) hb); have n3_ := am_ (hbox); have n4_ := am_ (hy_ hg (hb2_ HB.out GE770.out GE771.out) : w.heap.size ≤ gb772); have n5_ := am_ (hy_ hg (hb2_ HB.out GE770.out GE771.out) : w.heap.size ≤ gb772); have n6_ := am_ ((bl_ hg BK770.out : gb770 ≠ gb772)); have n7_ := am_ ((bg_ hg BK770.out : gb772 ≠ gb770)); have n8_ := am_ ((bl_ hg BK771.out : gb771 ≠ gb772)); have n9_ := am_ ((bg_ hg BK771.out : gb772 ≠ gb771)); clear BK770; clear BK771; clear HB; have BK770 := n0_; have BK771 := n1_; have HB := n2_; have BK772 := n3_; have GW772 := n4_; have GE772 := n5_; have NB770_772 := n6_; have NB772_770 := n7_; have NB771_772 := n8_; have NB772_771 := n9_; clear n0_ n1_ n2_ n3_ n4_ n5_ n6_ n7_ n8_ n9_; clear hb hbox hg; have hnb6 := NB770_771.out; have hnc6 := NB771_770.out; have hnb7 := NB770_772.out; have hnc7 := NB772_770.out; have hcz8_0 := bc_ BK770.out 0 (.bool a0_0) rfl; have hcz8_1 := bc_ BK770.out 1 (.int .i64 a0_1) rfl; have hcz8_2 := bc_ BK770.out 2 (.int .i64 a0_2) rfl; have hcz8_3 := bc_ BK770.out 3 (.int .i64 a0_3) rfl; have hfz8_0 := blk_frozen BK770.out 0; have hfz8_1 := blk_frozen BK770.out 1; have hfz8_2 := blk_frozen BK770.out 2; have hfz8_3 := blk_frozen BK770.out 3; have hnb9 := NB772_771.out; have hnc9 := NB771_772.out; have hcz10_0 := bc_ BK772.out 0 (.bool false) rfl; have hcz10_1 := bc_ BK772.out 1 (.int .i64 0) rfl; have hcz10_2 := bc_ BK772.out 2 (.int .i64 0) rfl; have hcz10_3 := bc_ BK772.out 3 (.int .i64 0) rfl; have hfz10_0 := blk_frozen BK772.out 0; have hfz10_1 := blk_frozen BK772.out 1; have hfz10_2 := blk_frozen BK772.out 2; have hfz10_3 := blk_frozen BK772.out 3) | ((with_reducible refine gate_callee (f := 11) rfl ?_); refine goesL_ (some 9) rfl rfl Try.func11 (by kernel_rfl) rfl #[.agg #[.int .i64 a0_1, .int .i64 a0_2]] rfl arr_ ?_; (with_reducible refine (laws_toIval.calls a0_1 a0_2 t773 t774 _ A2.out).mono ?_); rintro e w11 ⟨rfl, hb⟩; refine ⟨_, rfl, ?_⟩; have n0_ := am_ (blk_below (g := gb770) (o := .cells #[.bool a0_0, .int .i64 a0_1, .int .i64 a0_2, .int .i64 a0_3] 59 (0, 0)) (by (with_reducible repeat (first | refine blk_drewN ?_ _ | refine blk_drew ?_ | refine blk_alloc ?_ _)); refine blk_far ?_ NB770_772.out _; (with_reducible repeat (first | refine blk_drewN ?_ _ | refine blk_drew ?_ | refine blk_alloc ?_ _)); exact BK770.out) hb); have n1_ := am_ (blk_below (g := gb771) (o := .cells #[.bool false, .int .i64 0, .int .i64 0, .int .i64 0] 62 (0, 0)) (by (with_reducible repeat (first | refine blk_drewN ?_ _ | refine blk_drew ?_ | refine blk_alloc ?_ _)); refine blk_far ?_ NB771_772.out _; (with_reducible repeat (first | refine blk_drewN ?_ _ | refine blk_drew ?_ | refine blk_alloc ?_ _)); exact BK771.out) hb); have n2_ := am_ (blk_below (g := gb772) (o := .cells #[.bool a0_0, .int .i64 0, .int .i64 0, .int .i64 0] 62 (0, 0)) (by (with_reducible repeat (first | refine blk_drewN ?_ _ | refine blk_drew ?_ | refine blk_alloc ?_ _)); refine blk_put (cs := #[.bool false, .int .i64 0, .int .i64 0, .int .i64 0]) ?_ 0 _ rfl; (with_reducible repeat (first | refine blk_drewN ?_ _ | refine blk_drew ?_ | refine blk_alloc ?_ _)); exact BK772.out) hb); have n3_ := am_ (below_step (hb3_ HB.out GE770.out GE771.out GE772.out) hb); clear BK770; clear BK771; clear BK772; clear HB; have BK770 := n0_; have BK771 := n1_; have BK772 := n2_; have HB := n3_; clear n0_ n1_ n2_ n3_; (try clear hb); (try clear hb2); (try clear hk); (try clear hi); have hcz12_0 := bc_ BK772.out 0 (.bool a0_0) rfl; have hcz12_1 := bc_ BK772.out 1 (.int .i64 0) rfl; have hcz12_2 := bc_ BK772.out 2 (.int .i64 0) rfl; have hcz12_3 := bc_ BK772.out 3 (.int .i64 0) rfl; have hfz12_0 := blk_frozen BK772.out 0; have hfz12_1 := blk_frozen BK772.out 1; have hfz12_2 := blk_frozen BK772.out 2; have hfz12_3 := blk_frozen BK772.out 3; have hcz13_0 := bc_ BK770.out 0 (.bool a0_0) rfl; have hcz13_1 := bc_ BK770.out 1 (.int .i64 a0_1) rfl; have hcz13_2 := bc_ BK770.out 2 (.int .i64 a0_2) rfl; have hcz13_3 := bc_ BK770.out 3 (.int .i64 a0_3) rfl; have hfz13_0 := blk_frozen BK770.out 0; have hfz13_1 := blk_frozen BK770.out 1; have hfz13_2 := blk_frozen BK770.out 2; have hfz13_3 := blk_frozen BK770.out 3; have hcz14_0 := bc_ BK771.out 0 (.bool false) rfl; have hcz14_1 := bc_ BK771.out 1 (.int .i64 0) rfl; have hcz14_2 := bc_ BK771.out 2 (.int .i64 0) rfl; have hcz14_3 := bc_ BK771.out 3 (.int .i64 0) rfl; have hfz14_0 := blk_frozen BK771.out 0; have hfz14_1 := blk_frozen BK771.out 1; have hfz14_2 := blk_frozen BK771.out 2; have hfz14_3 := blk_frozen BK771.out 3))
  refine bodyPost_ret (results_cell_row rfl _ _ gb771 62 #[.bool a0_0, .int .i64 t773, .int .i64 t774, .int .i64 a0_3] (0, 0) _ rfl (by (with_reducible repeat (first | refine blk_drewN ?_ _ | refine blk_drew ?_ | refine blk_alloc ?_ _)); refine blk_put (cs := #[.bool a0_0, .int .i64 t773, .int .i64 t774, .int .i64 0]) ?_ 3 _ rfl; (with_reducible repeat (first | refine blk_drewN ?_ _ | refine blk_drew ?_ | refine blk_alloc ?_ _)); refine blk_put (cs := #[.bool a0_0, .int .i64 t773, .int .i64 0, .int .i64 0]) ?_ 2 _ rfl; (with_reducible repeat (first | refine blk_drewN ?_ _ | refine blk_drew ?_ | refine blk_alloc ?_ _)); refine blk_put (cs := #[.bool a0_0, .int .i64 0, .int .i64 0, .int .i64 0]) ?_ 1 _ rfl; (with_reducible repeat (first | refine blk_drewN ?_ _ | refine blk_drew ?_ | refine blk_alloc ?_ _)); refine blk_put (cs := #[.bool false, .int .i64 0, .int .i64 0, .int .i64 0]) ?_ 0 _ rfl; (with_reducible repeat (first | refine blk_drewN ?_ _ | refine blk_drew ?_ | refine blk_alloc ?_ _)); refine blk_far ?_ NB771_772.out _; (with_reducible repeat (first | refine blk_drewN ?_ _ | refine blk_drew ?_ | refine blk_alloc ?_ _)); refine blk_far ?_ NB771_772.out _; (with_reducible repeat (first | refine blk_drewN ?_ _ | refine blk_drew ?_ | refine blk_alloc ?_ _)); refine blk_far ?_ NB771_772.out _; (with_reducible repeat (first | refine blk_drewN ?_ _ | refine blk_drew ?_ | refine blk_alloc ?_ _)); exact BK771.out) Try.underlying62 rfl (by kernel_rfl)) rfl ?_
  exact ⟨er_, hb3_ HB.out GE770.out GE771.out GE772.out⟩
def impl_IvalOk.f (a0_0 : Int) (a0_1 : Int) : Option (Bool) := if (-1000000000000) ≤ a0_0 then (if a0_0 ≤ a0_1 then (some (decide (a0_1 ≤ 1000000000000))) else (some false)) else (some false)
set_option maxHeartbeats 8000000 in
set_option maxRecDepth 100000 in
theorem impl_IvalOk.calls (a0_0 : Int) (a0_1 : Int) (r : Bool) (w : World) (h : impl_IvalOk.f a0_0 a0_1 = some r) :
    Calls Try.prog 43 #[.agg #[.int .i64 a0_0, .int .i64 a0_1]] w fun e w' => e = .returned (.bool r) ∧ Below w.heap.size w w' := by
  have hu32 := Try.underlying32
  have HB := am_ (Below.refl w.heap.size w)
  have H : (if (-1000000000000) ≤ a0_0 then (if a0_0 ≤ a0_1 then (some (decide (a0_1 ≤ 1000000000000))) else (some false)) else (some false)) = some r := h
  clear h
  by_cases c2 : (-1000000000000) ≤ a0_0
  · rw [if_pos c2] at H
    have c2b0 : decide ((-1000000000000) ≤ a0_0) = true := decide_eq_true c2
    clear c2
    by_cases c3 : a0_0 ≤ a0_1
    · rw [if_pos c3] at H
      have c3b0 : decide (a0_0 ≤ a0_1) = true := decide_eq_true c3
      clear c3
      obtain rfl := Option.some.inj H
      go_enter Try.func43, Try.ntmps43
      go_wp2_with (first | ((with_reducible refine gate_dst (N := 1) rfl ?_); refine box_event ?hg (N := 1) ?hd (cs := #[.int .i64 a0_0, .int .i64 a0_1]) (t := 32) ?hr ?_; (case hd => rfl); (case hg => rfl); (case hr => first|(go_simp;done)|(go_simp;rfl)); intro gb221 hg w4 hbox hb; have n0_ := am_ (below_step (hb_ HB.out) hb); have n1_ := am_ (hbox); have n2_ := am_ (hy_ hg (hb_ HB.out) : w.heap.size ≤ gb221); have n3_ := am_ (hy_ hg (hb_ HB.out) : w.heap.size ≤ gb221); clear HB; have HB := n0_; have BK221 := n1_; have GW221 := n2_; have GE221 := n3_; clear n0_ n1_ n2_ n3_; clear hb hbox hg; have hcz5_0 := bc_ BK221.out 0 (.int .i64 a0_0) rfl; have hcz5_1 := bc_ BK221.out 1 (.int .i64 a0_1) rfl; have hfz5_0 := blk_frozen BK221.out 0; have hfz5_1 := blk_frozen BK221.out 1))
      go_ret
      exact ⟨er_, hb1_ HB.out GE221.out⟩
    · rw [if_neg c3] at H
      have c3b0 : decide (a0_0 ≤ a0_1) = false := decide_eq_false c3
      clear c3
      obtain rfl := Option.some.inj H
      go_enter Try.func43, Try.ntmps43
      go_wp2_with (first | ((with_reducible refine gate_dst (N := 1) rfl ?_); refine box_event ?hg (N := 1) ?hd (cs := #[.int .i64 a0_0, .int .i64 a0_1]) (t := 32) ?hr ?_; (case hd => rfl); (case hg => rfl); (case hr => first|(go_simp;done)|(go_simp;rfl)); intro gb221 hg w6 hbox hb; have n0_ := am_ (below_step (hb_ HB.out) hb); have n1_ := am_ (hbox); have n2_ := am_ (hy_ hg (hb_ HB.out) : w.heap.size ≤ gb221); have n3_ := am_ (hy_ hg (hb_ HB.out) : w.heap.size ≤ gb221); clear HB; have HB := n0_; have BK221 := n1_; have GW221 := n2_; have GE221 := n3_; clear n0_ n1_ n2_ n3_; clear hb hbox hg; have hcz7_0 := bc_ BK221.out 0 (.int .i64 a0_0) rfl; have hcz7_1 := bc_ BK221.out 1 (.int .i64 a0_1) rfl; have hfz7_0 := blk_frozen BK221.out 0; have hfz7_1 := blk_frozen BK221.out 1))
      go_ret
      exact ⟨er_, hb1_ HB.out GE221.out⟩
  · rw [if_neg c2] at H
    have c2b0 : decide ((-1000000000000) ≤ a0_0) = false := decide_eq_false c2
    clear c2
    obtain rfl := Option.some.inj H
    go_enter Try.func43, Try.ntmps43
    go_wp2_with (first | ((with_reducible refine gate_dst (N := 1) rfl ?_); refine box_event ?hg (N := 1) ?hd (cs := #[.int .i64 a0_0, .int .i64 a0_1]) (t := 32) ?hr ?_; (case hd => rfl); (case hg => rfl); (case hr => first|(go_simp;done)|(go_simp;rfl)); intro gb221 hg w8 hbox hb; have n0_ := am_ (below_step (hb_ HB.out) hb); have n1_ := am_ (hbox); have n2_ := am_ (hy_ hg (hb_ HB.out) : w.heap.size ≤ gb221); have n3_ := am_ (hy_ hg (hb_ HB.out) : w.heap.size ≤ gb221); clear HB; have HB := n0_; have BK221 := n1_; have GW221 := n2_; have GE221 := n3_; clear n0_ n1_ n2_ n3_; clear hb hbox hg; have hcz9_0 := bc_ BK221.out 0 (.int .i64 a0_0) rfl; have hcz9_1 := bc_ BK221.out 1 (.int .i64 a0_1) rfl; have hfz9_0 := blk_frozen BK221.out 0; have hfz9_1 := blk_frozen BK221.out 1))
    go_ret
    exact ⟨er_, hb1_ HB.out GE221.out⟩
def impl_in.f (a0 : Int) (a1 : Int) (a2 : Int) : Option (Bool) := if a1 ≤ a0 then (some (decide (a0 ≤ a2))) else (some false)
set_option maxHeartbeats 8000000 in
set_option maxRecDepth 100000 in
theorem impl_in.calls (a0 : Int) (a1 : Int) (a2 : Int) (r : Bool) (w : World) (h : impl_in.f a0 a1 a2 = some r) :
    Calls Try.prog 45 #[.int .i64 a0, .int .i64 a1, .int .i64 a2] w fun e w' => e = .returned (.bool r) ∧ Drawn0 w w' := by
  have H : (if a1 ≤ a0 then (some (decide (a0 ≤ a2))) else (some false)) = some r := h
  clear h
  by_cases c4 : a1 ≤ a0
  · rw [if_pos c4] at H
    have c4b0 : decide (a1 ≤ a0) = true := decide_eq_true c4
    clear c4
    obtain rfl := Option.some.inj H
    go_enter Try.func45, Try.ntmps45
    go_wp2
    go_ret
    exact ⟨by first | rfl | (simp; done) | (simp [*]; done), by repeat (first | exact Drawn0.refl _ | apply Drawn0.step)⟩
  · rw [if_neg c4] at H
    have c4b0 : decide (a1 ≤ a0) = false := decide_eq_false c4
    clear c4
    obtain rfl := Option.some.inj H
    go_enter Try.func45, Try.ntmps45
    go_wp2
    go_ret
    exact ⟨by first | rfl | (simp; done) | (simp [*]; done), by repeat (first | exact Drawn0.refl _ | apply Drawn0.step)⟩
def impl_DriftOk.f (a0_0 : Int) (a0_1 : Int) : Option (Bool) := (impl_in.f a0_1 1 1000000).bind fun t223 => (if t223 = true then ((impl_in.f a0_0 0 a0_1).bind fun t224 => (if t224 = true then (some (decide ((wrap64 (2 * a0_0)) ≤ a0_1))) else (some false))) else (some false))
set_option maxHeartbeats 8000000 in
set_option maxRecDepth 100000 in
theorem impl_DriftOk.calls (a0_0 : Int) (a0_1 : Int) (r : Bool) (w : World) (h : impl_DriftOk.f a0_0 a0_1 = some r) :
    Calls Try.prog 44 #[.agg #[.int .i64 a0_0, .int .i64 a0_1]] w fun e w' => e = .returned (.bool r) ∧ Below w.heap.size w w' := by
  have hu34 := Try.underlying34
  have HB := am_ (Below.refl w.heap.size w)
  have H : ((impl_in.f a0_1 1 1000000).bind fun t223 => (if t223 = true then ((impl_in.f a0_0 0 a0_1).bind fun t224 => (if t224 = true then (some (decide ((wrap64 (2 * a0_0)) ≤ a0_1))) else (some false))) else (some false))) = some r := h
  clear h
  replace H := Option.bind_eq_some_iff.mp H
  obtain ⟨t223, A20, H⟩ := H
  replace H : (if t223 = true then ((impl_in.f a0_0 0 a0_1).bind fun t224 => (if t224 = true then (some (decide ((wrap64 (2 * a0_0)) ≤ a0_1))) else (some false))) else (some false)) = some r := H
  have A2 := Aside0.mk A20
  clear A20
  by_cases c3 : t223 = true
  · subst c3
    have H1 : ((impl_in.f a0_0 0 a0_1).bind fun t224 => (if t224 = true then (some (decide ((wrap64 (2 * a0_0)) ≤ a0_1))) else (some false))) = some r := by rw [if_pos rfl] at H; exact H
    clear H
    have H := H1
    clear H1
    replace H := Option.bind_eq_some_iff.mp H
    obtain ⟨t224, A40, H⟩ := H
    replace H : (if t224 = true then (some (decide ((wrap64 (2 * a0_0)) ≤ a0_1))) else (some false)) = some r := H
    have A4 := Aside0.mk A40
    clear A40
    by_cases c5 : t224 = true
    · subst c5
      have H1 : (some (decide ((wrap64 (2 * a0_0)) ≤ a0_1))) = some r := by rw [if_pos rfl] at H; exact H
      clear H
      have H := H1
      clear H1
      obtain rfl := Option.some.inj H
      go_enter Try.func44, Try.ntmps44
      go_wp2_with (first | ((with_reducible refine gate_dst (N := 1) rfl ?_); refine box_event ?hg (N := 1) ?hd (cs := #[.int .i64 a0_0, .int .i64 a0_1]) (t := 34) ?hr ?_; (case hd => rfl); (case hg => rfl); (case hr => first|(go_simp;done)|(go_simp;rfl)); intro gb222 hg w6 hbox hb; have n0_ := am_ (below_step (hb_ HB.out) hb); have n1_ := am_ (hbox); have n2_ := am_ (hy_ hg (hb_ HB.out) : w.heap.size ≤ gb222); have n3_ := am_ (hy_ hg (hb_ HB.out) : w.heap.size ≤ gb222); clear HB; have HB := n0_; have BK222 := n1_; have GW222 := n2_; have GE222 := n3_; clear n0_ n1_ n2_ n3_; clear hb hbox hg; have hcz7_0 := bc_ BK222.out 0 (.int .i64 a0_0) rfl; have hcz7_1 := bc_ BK222.out 1 (.int .i64 a0_1) rfl; have hfz7_0 := blk_frozen BK222.out 0; have hfz7_1 := blk_frozen BK222.out 1) | ((with_reducible refine gate_callee (f := 45) rfl ?_); refine goesL_ (some 5) rfl rfl Try.func45 (by kernel_rfl) rfl #[.int .i64 a0_1, .int .i64 1, .int .i64 1000000] rfl arr_ ?_; (with_reducible refine (impl_in.calls a0_1 1 1000000 true _ A2.out).mono ?_); rintro e w' ⟨rfl, ⟨nd, rfl⟩⟩; refine ⟨_, rfl, ?_⟩) | (go_at_call 45; (with_reducible refine (impl_in.calls a0_0 0 a0_1 true _ A4.out).mono ?_); rintro e w' ⟨rfl, ⟨nd, rfl⟩⟩))
      go_ret
      exact ⟨er_, hb1_ HB.out GE222.out⟩
    · replace c5 := Bool.eq_false_iff.mpr c5
      subst c5
      have H1 : (some false) = some r := by rw [if_neg (show ¬ (false = true) by decide)] at H; exact H
      clear H
      have H := H1
      clear H1
      obtain rfl := Option.some.inj H
      go_enter Try.func44, Try.ntmps44
      go_wp2_with (first | ((with_reducible refine gate_dst (N := 1) rfl ?_); refine box_event ?hg (N := 1) ?hd (cs := #[.int .i64 a0_0, .int .i64 a0_1]) (t := 34) ?hr ?_; (case hd => rfl); (case hg => rfl); (case hr => first|(go_simp;done)|(go_simp;rfl)); intro gb222 hg w8 hbox hb; have n0_ := am_ (below_step (hb_ HB.out) hb); have n1_ := am_ (hbox); have n2_ := am_ (hy_ hg (hb_ HB.out) : w.heap.size ≤ gb222); have n3_ := am_ (hy_ hg (hb_ HB.out) : w.heap.size ≤ gb222); clear HB; have HB := n0_; have BK222 := n1_; have GW222 := n2_; have GE222 := n3_; clear n0_ n1_ n2_ n3_; clear hb hbox hg; have hcz9_0 := bc_ BK222.out 0 (.int .i64 a0_0) rfl; have hcz9_1 := bc_ BK222.out 1 (.int .i64 a0_1) rfl; have hfz9_0 := blk_frozen BK222.out 0; have hfz9_1 := blk_frozen BK222.out 1) | ((with_reducible refine gate_callee (f := 45) rfl ?_); refine goesL_ (some 5) rfl rfl Try.func45 (by kernel_rfl) rfl #[.int .i64 a0_1, .int .i64 1, .int .i64 1000000] rfl arr_ ?_; (with_reducible refine (impl_in.calls a0_1 1 1000000 true _ A2.out).mono ?_); rintro e w' ⟨rfl, ⟨nd, rfl⟩⟩; refine ⟨_, rfl, ?_⟩) | (go_at_call 45; (with_reducible refine (impl_in.calls a0_0 0 a0_1 false _ A4.out).mono ?_); rintro e w' ⟨rfl, ⟨nd, rfl⟩⟩))
      go_ret
      exact ⟨er_, hb1_ HB.out GE222.out⟩
  · replace c3 := Bool.eq_false_iff.mpr c3
    subst c3
    have H1 : (some false) = some r := by rw [if_neg (show ¬ (false = true) by decide)] at H; exact H
    clear H
    have H := H1
    clear H1
    obtain rfl := Option.some.inj H
    go_enter Try.func44, Try.ntmps44
    go_wp2_with (first | ((with_reducible refine gate_dst (N := 1) rfl ?_); refine box_event ?hg (N := 1) ?hd (cs := #[.int .i64 a0_0, .int .i64 a0_1]) (t := 34) ?hr ?_; (case hd => rfl); (case hg => rfl); (case hr => first|(go_simp;done)|(go_simp;rfl)); intro gb222 hg w10 hbox hb; have n0_ := am_ (below_step (hb_ HB.out) hb); have n1_ := am_ (hbox); have n2_ := am_ (hy_ hg (hb_ HB.out) : w.heap.size ≤ gb222); have n3_ := am_ (hy_ hg (hb_ HB.out) : w.heap.size ≤ gb222); clear HB; have HB := n0_; have BK222 := n1_; have GW222 := n2_; have GE222 := n3_; clear n0_ n1_ n2_ n3_; clear hb hbox hg; have hcz11_0 := bc_ BK222.out 0 (.int .i64 a0_0) rfl; have hcz11_1 := bc_ BK222.out 1 (.int .i64 a0_1) rfl; have hfz11_0 := blk_frozen BK222.out 0; have hfz11_1 := blk_frozen BK222.out 1) | ((with_reducible refine gate_callee (f := 45) rfl ?_); refine goesL_ (some 5) rfl rfl Try.func45 (by kernel_rfl) rfl #[.int .i64 a0_1, .int .i64 1, .int .i64 1000000] rfl arr_ ?_; (with_reducible refine (impl_in.calls a0_1 1 1000000 false _ A2.out).mono ?_); rintro e w' ⟨rfl, ⟨nd, rfl⟩⟩; refine ⟨_, rfl, ?_⟩))
    go_ret
    exact ⟨er_, hb1_ HB.out GE222.out⟩
def impl_isTime.f (a0 : Int) : Option (Bool) := (impl_in.f a0 0 1000000000000).bind fun t225 => (some t225)
set_option maxHeartbeats 8000000 in
set_option maxRecDepth 100000 in
theorem impl_isTime.calls (a0 : Int) (r : Bool) (w : World) (h : impl_isTime.f a0 = some r) :
    Calls Try.prog 75 #[.int .i64 a0] w fun e w' => e = .returned (.bool r) ∧ Drawn0 w w' := by
  have H : ((impl_in.f a0 0 1000000000000).bind fun t225 => (some t225)) = some r := h
  clear h
  replace H := Option.bind_eq_some_iff.mp H
  obtain ⟨t225, A20, H⟩ := H
  replace H : (some t225) = some r := H
  have A2 := Aside0.mk A20
  clear A20
  obtain rfl := Option.some.inj H
  go_enter Try.func75, Try.ntmps75
  go_wp2_with (first | ((with_reducible refine gate_callee (f := 45) rfl ?_); refine goesL_ (some 4) rfl rfl Try.func45 (by kernel_rfl) rfl #[.int .i64 a0, .int .i64 0, .int .i64 1000000000000] rfl arr_ ?_; (with_reducible refine (impl_in.calls a0 0 1000000000000 t225 _ A2.out).mono ?_); rintro e w' ⟨rfl, ⟨nd, rfl⟩⟩; refine ⟨_, rfl, ?_⟩))
  go_ret
  exact ⟨by first | rfl | (simp; done) | (simp [*]; done), by repeat (first | exact Drawn0.refl _ | apply Drawn0.step)⟩
def impl_isNode.f (a0 : Int) : Option (Bool) := (impl_in.f a0 0 7).bind fun t226 => (some t226)
set_option maxHeartbeats 8000000 in
set_option maxRecDepth 100000 in
theorem impl_isNode.calls (a0 : Int) (r : Bool) (w : World) (h : impl_isNode.f a0 = some r) :
    Calls Try.prog 47 #[.int .i64 a0] w fun e w' => e = .returned (.bool r) ∧ Drawn0 w w' := by
  have H : ((impl_in.f a0 0 7).bind fun t226 => (some t226)) = some r := h
  clear h
  replace H := Option.bind_eq_some_iff.mp H
  obtain ⟨t226, A20, H⟩ := H
  replace H : (some t226) = some r := H
  have A2 := Aside0.mk A20
  clear A20
  obtain rfl := Option.some.inj H
  go_enter Try.func47, Try.ntmps47
  go_wp2_with (first | ((with_reducible refine gate_callee (f := 45) rfl ?_); refine goesL_ (some 4) rfl rfl Try.func45 (by kernel_rfl) rfl #[.int .i64 a0, .int .i64 0, .int .i64 7] rfl arr_ ?_; (with_reducible refine (impl_in.calls a0 0 7 t226 _ A2.out).mono ?_); rintro e w' ⟨rfl, ⟨nd, rfl⟩⟩; refine ⟨_, rfl, ?_⟩))
  go_ret
  exact ⟨by first | rfl | (simp; done) | (simp [*]; done), by repeat (first | exact Drawn0.refl _ | apply Drawn0.step)⟩
def impl_PlanOk_1.f (a0_0 : Int) (a0_1 : Int) : Option (Bool) := (impl_isNode.f a0_0).bind fun t228 => (if t228 = true then ((impl_in.f a0_1 1 1000000).bind fun t229 => (some (!t229))) else (some true))
set_option maxHeartbeats 8000000 in
set_option maxRecDepth 100000 in
theorem impl_PlanOk_1.calls (a0_0 : Int) (a0_1 : Int) (r : Bool) (w : World) (h : impl_PlanOk_1.f a0_0 a0_1 = some r) :
    Calls Try.prog 86 #[.agg #[.int .i64 a0_0, .int .i64 a0_1]] w fun e w' => e = .returned (.bool r) ∧ Below w.heap.size w w' := by
  have hu55 := Try.underlying55
  have HB := am_ (Below.refl w.heap.size w)
  have H : ((impl_isNode.f a0_0).bind fun t228 => (if t228 = true then ((impl_in.f a0_1 1 1000000).bind fun t229 => (some (!t229))) else (some true))) = some r := h
  clear h
  replace H := Option.bind_eq_some_iff.mp H
  obtain ⟨t228, A20, H⟩ := H
  replace H : (if t228 = true then ((impl_in.f a0_1 1 1000000).bind fun t229 => (some (!t229))) else (some true)) = some r := H
  have A2 := Aside0.mk A20
  clear A20
  by_cases c3 : t228 = true
  · subst c3
    have H1 : ((impl_in.f a0_1 1 1000000).bind fun t229 => (some (!t229))) = some r := by rw [if_pos rfl] at H; exact H
    clear H
    have H := H1
    clear H1
    replace H := Option.bind_eq_some_iff.mp H
    obtain ⟨t229, A40, H⟩ := H
    replace H : (some (!t229)) = some r := H
    have A4 := Aside0.mk A40
    clear A40
    obtain rfl := Option.some.inj H
    go_enter Try.func86, Try.ntmps86
    go_wp2_with (first | ((with_reducible refine gate_dst (N := 1) rfl ?_); refine box_event ?hg (N := 1) ?hd (cs := #[.int .i64 a0_0, .int .i64 a0_1]) (t := 55) ?hr ?_; (case hd => rfl); (case hg => rfl); (case hr => first|(go_simp;done)|(go_simp;rfl)); intro gb227 hg w5 hbox hb; have n0_ := am_ (below_step (hb_ HB.out) hb); have n1_ := am_ (hbox); have n2_ := am_ (hy_ hg (hb_ HB.out) : w.heap.size ≤ gb227); have n3_ := am_ (hy_ hg (hb_ HB.out) : w.heap.size ≤ gb227); clear HB; have HB := n0_; have BK227 := n1_; have GW227 := n2_; have GE227 := n3_; clear n0_ n1_ n2_ n3_; clear hb hbox hg; have hcz6_0 := bc_ BK227.out 0 (.int .i64 a0_0) rfl; have hcz6_1 := bc_ BK227.out 1 (.int .i64 a0_1) rfl; have hfz6_0 := blk_frozen BK227.out 0; have hfz6_1 := blk_frozen BK227.out 1) | ((with_reducible refine gate_callee (f := 47) rfl ?_); refine goesL_ (some 5) rfl rfl Try.func47 (by kernel_rfl) rfl #[.int .i64 a0_0] rfl arr_ ?_; (with_reducible refine (impl_isNode.calls a0_0 true _ A2.out).mono ?_); rintro e w' ⟨rfl, ⟨nd, rfl⟩⟩; refine ⟨_, rfl, ?_⟩) | (go_at_call 45; (with_reducible refine (impl_in.calls a0_1 1 1000000 t229 _ A4.out).mono ?_); rintro e w' ⟨rfl, ⟨nd, rfl⟩⟩))
    go_ret
    exact ⟨er_, hb1_ HB.out GE227.out⟩
  · replace c3 := Bool.eq_false_iff.mpr c3
    subst c3
    have H1 : (some true) = some r := by rw [if_neg (show ¬ (false = true) by decide)] at H; exact H
    clear H
    have H := H1
    clear H1
    obtain rfl := Option.some.inj H
    go_enter Try.func86, Try.ntmps86
    go_wp2_with (first | ((with_reducible refine gate_dst (N := 1) rfl ?_); refine box_event ?hg (N := 1) ?hd (cs := #[.int .i64 a0_0, .int .i64 a0_1]) (t := 55) ?hr ?_; (case hd => rfl); (case hg => rfl); (case hr => first|(go_simp;done)|(go_simp;rfl)); intro gb227 hg w7 hbox hb; have n0_ := am_ (below_step (hb_ HB.out) hb); have n1_ := am_ (hbox); have n2_ := am_ (hy_ hg (hb_ HB.out) : w.heap.size ≤ gb227); have n3_ := am_ (hy_ hg (hb_ HB.out) : w.heap.size ≤ gb227); clear HB; have HB := n0_; have BK227 := n1_; have GW227 := n2_; have GE227 := n3_; clear n0_ n1_ n2_ n3_; clear hb hbox hg; have hcz8_0 := bc_ BK227.out 0 (.int .i64 a0_0) rfl; have hcz8_1 := bc_ BK227.out 1 (.int .i64 a0_1) rfl; have hfz8_0 := blk_frozen BK227.out 0; have hfz8_1 := blk_frozen BK227.out 1) | ((with_reducible refine gate_callee (f := 47) rfl ?_); refine goesL_ (some 5) rfl rfl Try.func47 (by kernel_rfl) rfl #[.int .i64 a0_0] rfl arr_ ?_; (with_reducible refine (impl_isNode.calls a0_0 false _ A2.out).mono ?_); rintro e w' ⟨rfl, ⟨nd, rfl⟩⟩; refine ⟨_, rfl, ?_⟩))
    go_ret
    exact ⟨er_, hb1_ HB.out GE227.out⟩
def slices_IndexFunc_Slot.l0 : Nat → List (S55) → Int → Int → Option (Int)
  | 0, _, _, _ => none
  | k + 1, x0, x7, x8 => if x8 < x7 then (if 0 ≤ x8 then (if x8 < (x0.length : Int) then ((impl_PlanOk_1.f ((rd_T55 x0 x8).f0) ((rd_T55 x0 x8).f1)).bind fun t231 => (if t231 = true then (some x8) else (slices_IndexFunc_Slot.l0 k x0 x7 (wrap64 (x8 + 1))))) else (none)) else (none)) else (some (-1))
def slices_IndexFunc_Slot.f (k : Nat) (l0 : List (S55)) : Option (Int) := slices_IndexFunc_Slot.l0 k l0 (l0.length : Int) 0
theorem slices_IndexFunc_Slot.mono_l : ∀ k, (∀ y0 y1 y2, LeO (slices_IndexFunc_Slot.l0 k y0 y1 y2) (slices_IndexFunc_Slot.l0 (k + 1) y0 y1 y2))
  | 0 => fun _ _ _ r h => by simp [slices_IndexFunc_Slot.l0] at h
  | k + 1 => by
    have ih0 := slices_IndexFunc_Slot.mono_l k
    · intro y0 y1 y2
      unfold slices_IndexFunc_Slot.l0
      repeat' first
      | (with_reducible exact ih0 _ _ _)
      | (with_reducible exact LeO.refl _)
      | (with_reducible exact LeO.none _)
      | (with_reducible refine LeO.ite ?_ ?_)
      | (with_reducible refine LeO.bind ?_ (fun _ => ?_))
      | exact ih0 _ _ _
      | exact LeO.none _
      | refine LeO.ite ?_ ?_
      | refine LeO.bind ?_ (fun _ => ?_)
theorem slices_IndexFunc_Slot.mono : ∀ a0 k, LeO (slices_IndexFunc_Slot.f k a0) (slices_IndexFunc_Slot.f (k + 1) a0) := by
  intro a0 k
  have ih0 := slices_IndexFunc_Slot.mono_l k
  unfold slices_IndexFunc_Slot.f
  repeat' first
      | (with_reducible exact ih0 _ _ _)
      | (with_reducible exact LeO.refl _)
      | (with_reducible exact LeO.none _)
      | (with_reducible refine LeO.ite ?_ ?_)
      | (with_reducible refine LeO.bind ?_ (fun _ => ?_))
      | exact ih0 _ _ _
      | exact LeO.none _
      | refine LeO.ite ?_ ?_
      | refine LeO.bind ?_ (fun _ => ?_)
set_option maxHeartbeats 8000000 in
set_option maxRecDepth 100000 in
theorem slices_IndexFunc_Slot.calls (k : Nat) (A0 : Option Addr) (c0 : Nat) (l0 : List (S55)) (r : Int) (w : World) (hr0 : Kd.C k55 w A0 l0.length l0) (hc0 : l0.length ≤ c0) (h : slices_IndexFunc_Slot.f k l0 = some r) :
    Calls Try.prog 101 #[.slice A0 l0.length c0, .func (.func 86) #[] #[]] w fun e w' => e = .returned (.int .i64 r) ∧ Below w.heap.size w w' := by
  have hu55 := Try.underlying55
  have HR0 := Aside0.mk hr0
  have HC0 := Aside0.mk hc0
  clear hr0 hc0
  have HB := am_ (Below.refl w.heap.size w)
  have H : (slices_IndexFunc_Slot.l0 k l0 (l0.length : Int) 0) = some r := h
  clear h
  have H' := Aside0.mk H
  clear H
  go_enter Try.func101, Try.ntmps101
  go_wp2
  go_loopg [8] k (fun kq v8 w' => ∃ (x8_1 : Int), v8 = .int .i64 x8_1 ∧ Aside0 (slices_IndexFunc_Slot.l0 kq l0 (l0.length : Int) x8_1 = some r) ∧ Aside0 (kq ≤ k) ∧ Aside0 (Below w.heap.size w w'))
  case atStart => exact ⟨(0), (by first | rfl | (simp; done) | (simp [*]; done)), H', ⟨Nat.le_refl _⟩, ⟨hb_ HB.out⟩⟩
  case round =>
    clear H'
    try clear c1
    obtain ⟨x8_1, rfl, HA, HK1, HB⟩ := hrel
    cases gk with
    | zero => exact absurd HA.out (by simp [slices_IndexFunc_Slot.l0])
    | succ k1 =>
      have H := HA.out
      clear HA
      simp only [slices_IndexFunc_Slot.l0] at H
      by_cases c2 : x8_1 < (l0.length : Int)
      · rw [if_pos c2] at H
        have c2b0 : decide (x8_1 < (l0.length : Int)) = true := decide_eq_true c2
        clear c2
        by_cases c3 : 0 ≤ x8_1
        · rw [if_pos c3] at H
          have c3b0 : decide (0 ≤ x8_1) = true := decide_eq_true c3
          clear c3
          by_cases c4 : x8_1 < (l0.length : Int)
          · rw [if_pos c4] at H
            have c4b0 : decide (x8_1 < (l0.length : Int)) = true := decide_eq_true c4
            clear c4
            replace H := Option.bind_eq_some_iff.mp H
            obtain ⟨t231, A50, H⟩ := H
            replace H : (if t231 = true then (some x8_1) else (slices_IndexFunc_Slot.l0 k1 l0 (l0.length : Int) (wrap64 (x8_1 + 1)))) = some r := H
            have A5 := Aside0.mk A50
            clear A50
            by_cases c6 : t231 = true
            · subst c6
              have H1 : (some x8_1) = some r := by rw [if_pos rfl] at H; exact H
              clear H
              have H := H1
              clear H1
              obtain rfl := Option.some.inj H
              have p230 : 0 ≤ (x8_1 : Int) := of_decide_eq_true (by first | (with_reducible assumption) | assumption)
              have q230 : x8_1 < (l0.length : Int) := of_decide_eq_true (by first | (with_reducible assumption) | assumption)
              obtain ⟨ad230, e230, hx230_0, hx230_1⟩ := at_T55 HR0.out x8_1 p230 q230
              cases e230
              replace hx230_0 := (HB.out.cell (World.block_lt_of_cell? w _ hx230_0)).trans hx230_0
              replace hx230_1 := (HB.out.cell (World.block_lt_of_cell? w _ hx230_1)).trans hx230_1
              replace p230 := eq_true p230
              replace q230 := eq_true q230
              go_wp2_with (first | (go_at_call 86; (with_reducible refine (impl_PlanOk_1.calls ((rd_T55 l0 x8_1).f0) ((rd_T55 l0 x8_1).f1) true _ A5.out).mono ?_); rintro e w7 ⟨rfl, hb⟩; have n0_ := am_ (below_step (hb_ HB.out) hb); clear HB; have HB := n0_; clear n0_; (try clear hb); (try clear hb2); (try clear hk); (try clear hi)))
              go_ret
              exact ⟨er_, hb_ HB.out⟩
            · replace c6 := Bool.eq_false_iff.mpr c6
              subst c6
              have H1 : (slices_IndexFunc_Slot.l0 k1 l0 (l0.length : Int) (wrap64 (x8_1 + 1))) = some r := by rw [if_neg (show ¬ (false = true) by decide)] at H; exact H
              clear H
              have H := H1
              clear H1
              have H' := Aside0.mk H
              clear H
              have p230 : 0 ≤ (x8_1 : Int) := of_decide_eq_true (by first | (with_reducible assumption) | assumption)
              have q230 : x8_1 < (l0.length : Int) := of_decide_eq_true (by first | (with_reducible assumption) | assumption)
              obtain ⟨ad230, e230, hx230_0, hx230_1⟩ := at_T55 HR0.out x8_1 p230 q230
              cases e230
              replace hx230_0 := (HB.out.cell (World.block_lt_of_cell? w _ hx230_0)).trans hx230_0
              replace hx230_1 := (HB.out.cell (World.block_lt_of_cell? w _ hx230_1)).trans hx230_1
              replace p230 := eq_true p230
              replace q230 := eq_true q230
              go_wp2_with (first | (go_at_call 86; (with_reducible refine (impl_PlanOk_1.calls ((rd_T55 l0 x8_1).f0) ((rd_T55 l0 x8_1).f1) false _ A5.out).mono ?_); rintro e w8 ⟨rfl, hb⟩; have n0_ := am_ (below_step (hb_ HB.out) hb); clear HB; have HB := n0_; clear n0_; (try clear hb); (try clear hb2); (try clear hk); (try clear hi)))
              go_roundg k1
              case measure => have := HK1.out; omega
              case rel => exact ⟨(wrap64 (x8_1 + 1)), (by first | rfl | (simp; done) | (simp [*]; done)), H', ⟨by have := HK1.out; omega⟩, ⟨hb_ HB.out⟩⟩
          · rw [if_neg c4] at H
            exact absurd H (by simp)
        · rw [if_neg c3] at H
          exact absurd H (by simp)
      · rw [if_neg c2] at H
        have c2b0 : decide (x8_1 < (l0.length : Int)) = false := decide_eq_false c2
        clear c2
        obtain rfl := Option.some.inj H
        go_wp2
        go_ret
        exact ⟨er_, hb_ HB.out⟩
def slices_ContainsFunc_Slot.f (k : Nat) (l0 : List (S55)) : Option (Bool) := (slices_IndexFunc_Slot.f k l0).bind fun t232 => (some (decide (t232 ≥ 0)))
theorem slices_ContainsFunc_Slot.mono : ∀ a0 k, LeO (slices_ContainsFunc_Slot.f k a0) (slices_ContainsFunc_Slot.f (k + 1) a0) := by
  intro a0 k
  unfold slices_ContainsFunc_Slot.f
  repeat' first
      | (with_reducible exact slices_IndexFunc_Slot.mono _ _)
      | (with_reducible exact LeO.refl _)
      | (with_reducible exact LeO.none _)
      | (with_reducible refine LeO.ite ?_ ?_)
      | (with_reducible refine LeO.bind ?_ (fun _ => ?_))
      | exact slices_IndexFunc_Slot.mono _ _
      | exact LeO.none _
      | refine LeO.ite ?_ ?_
      | refine LeO.bind ?_ (fun _ => ?_)
set_option maxHeartbeats 8000000 in
set_option maxRecDepth 100000 in
theorem slices_ContainsFunc_Slot.calls (k : Nat) (A0 : Option Addr) (c0 : Nat) (l0 : List (S55)) (r : Bool) (w : World) (hr0 : Kd.C k55 w A0 l0.length l0) (hc0 : l0.length ≤ c0) (h : slices_ContainsFunc_Slot.f k l0 = some r) :
    Calls Try.prog 85 #[.slice A0 l0.length c0, .func (.func 86) #[] #[]] w fun e w' => e = .returned (.bool r) ∧ Below w.heap.size w w' := by
  have HR0 := Aside0.mk hr0
  have HC0 := Aside0.mk hc0
  clear hr0 hc0
  have HB := am_ (Below.refl w.heap.size w)
  have H : ((slices_IndexFunc_Slot.f k l0).bind fun t232 => (some (decide (t232 ≥ 0)))) = some r := h
  clear h
  replace H := Option.bind_eq_some_iff.mp H
  obtain ⟨t232, A20, H⟩ := H
  replace H : (some (decide (t232 ≥ 0))) = some r := H
  have A2 := Aside0.mk A20
  clear A20
  obtain rfl := Option.some.inj H
  go_enter Try.func85, Try.ntmps85
  go_wp2_with (first | ((with_reducible refine gate_callee (f := 101) rfl ?_); refine goesL_ (some 7) rfl rfl Try.func101 (by kernel_rfl) rfl #[.slice A0 l0.length c0, .func (.func 86) #[] #[]] rfl arr_ ?_; (with_reducible refine (slices_IndexFunc_Slot.calls k _ _ l0 t232 _ ?side1 ?side2 A2.out).mono ?_); (case side1 => repeat (first | exact HR0.out | (with_reducible refine Kd.C_alloc ?_ _) | (with_reducible refine Kd.C_drewN ?_ _) | (with_reducible refine Kd.C_drew ?_))); (case side2 => exact HC0.out); rintro e w3 ⟨rfl, hb⟩; refine ⟨_, rfl, ?_⟩; have n0_ := am_ (below_step (hb_ HB.out) hb); clear HB; have HB := n0_; clear n0_; (try clear hb); (try clear hb2); (try clear hk); (try clear hi)))
  go_ret
  exact ⟨er_, hb_ HB.out⟩
def impl_PlanOk.f (k : Nat) (a0_0 : Int) (a0_1 : Int) (l0_2 : List (S55)) : Option (Bool) := (impl_isTime.f a0_0).bind fun t234 => (if t234 = true then ((impl_in.f a0_1 0 100000).bind fun t235 => (if t235 = true then ((impl_in.f (l0_2.length : Int) 1 12).bind fun t236 => (if t236 = true then ((slices_ContainsFunc_Slot.f k l0_2).bind fun t237 => (some (!t237))) else (some false))) else (some false))) else (some false))
theorem impl_PlanOk.mono : ∀ a0 a1 a2 k, LeO (impl_PlanOk.f k a0 a1 a2) (impl_PlanOk.f (k + 1) a0 a1 a2) := by
  intro a0 a1 a2 k
  unfold impl_PlanOk.f
  repeat' first
      | (with_reducible exact slices_ContainsFunc_Slot.mono _ _)
      | (with_reducible exact LeO.refl _)
      | (with_reducible exact LeO.none _)
      | (with_reducible refine LeO.ite ?_ ?_)
      | (with_reducible refine LeO.bind ?_ (fun _ => ?_))
      | exact slices_ContainsFunc_Slot.mono _ _
      | exact LeO.none _
      | refine LeO.ite ?_ ?_
      | refine LeO.bind ?_ (fun _ => ?_)
set_option maxHeartbeats 8000000 in
set_option maxRecDepth 100000 in
theorem impl_PlanOk.calls (k : Nat) (a0_0 : Int) (a0_1 : Int) (A0_2 : Option Addr) (c0_2 : Nat) (l0_2 : List (S55)) (r : Bool) (w : World) (hr0_2 : Kd.C k55 w A0_2 l0_2.length l0_2) (hc0_2 : l0_2.length ≤ c0_2) (h : impl_PlanOk.f k a0_0 a0_1 l0_2 = some r) :
    Calls Try.prog 46 #[.agg #[.int .i64 a0_0, .int .i64 a0_1, .slice A0_2 l0_2.length c0_2]] w fun e w' => e = .returned (.bool r) ∧ Below w.heap.size w w' := by
  have hu38 := Try.underlying38
  have HR0_2 := Aside0.mk hr0_2
  have HC0_2 := Aside0.mk hc0_2
  clear hr0_2 hc0_2
  have HB := am_ (Below.refl w.heap.size w)
  have H : ((impl_isTime.f a0_0).bind fun t234 => (if t234 = true then ((impl_in.f a0_1 0 100000).bind fun t235 => (if t235 = true then ((impl_in.f (l0_2.length : Int) 1 12).bind fun t236 => (if t236 = true then ((slices_ContainsFunc_Slot.f k l0_2).bind fun t237 => (some (!t237))) else (some false))) else (some false))) else (some false))) = some r := h
  clear h
  replace H := Option.bind_eq_some_iff.mp H
  obtain ⟨t234, A20, H⟩ := H
  replace H : (if t234 = true then ((impl_in.f a0_1 0 100000).bind fun t235 => (if t235 = true then ((impl_in.f (l0_2.length : Int) 1 12).bind fun t236 => (if t236 = true then ((slices_ContainsFunc_Slot.f k l0_2).bind fun t237 => (some (!t237))) else (some false))) else (some false))) else (some false)) = some r := H
  have A2 := Aside0.mk A20
  clear A20
  by_cases c3 : t234 = true
  · subst c3
    have H1 : ((impl_in.f a0_1 0 100000).bind fun t235 => (if t235 = true then ((impl_in.f (l0_2.length : Int) 1 12).bind fun t236 => (if t236 = true then ((slices_ContainsFunc_Slot.f k l0_2).bind fun t237 => (some (!t237))) else (some false))) else (some false))) = some r := by rw [if_pos rfl] at H; exact H
    clear H
    have H := H1
    clear H1
    replace H := Option.bind_eq_some_iff.mp H
    obtain ⟨t235, A40, H⟩ := H
    replace H : (if t235 = true then ((impl_in.f (l0_2.length : Int) 1 12).bind fun t236 => (if t236 = true then ((slices_ContainsFunc_Slot.f k l0_2).bind fun t237 => (some (!t237))) else (some false))) else (some false)) = some r := H
    have A4 := Aside0.mk A40
    clear A40
    by_cases c5 : t235 = true
    · subst c5
      have H1 : ((impl_in.f (l0_2.length : Int) 1 12).bind fun t236 => (if t236 = true then ((slices_ContainsFunc_Slot.f k l0_2).bind fun t237 => (some (!t237))) else (some false))) = some r := by rw [if_pos rfl] at H; exact H
      clear H
      have H := H1
      clear H1
      replace H := Option.bind_eq_some_iff.mp H
      obtain ⟨t236, A60, H⟩ := H
      replace H : (if t236 = true then ((slices_ContainsFunc_Slot.f k l0_2).bind fun t237 => (some (!t237))) else (some false)) = some r := H
      have A6 := Aside0.mk A60
      clear A60
      by_cases c7 : t236 = true
      · subst c7
        have H1 : ((slices_ContainsFunc_Slot.f k l0_2).bind fun t237 => (some (!t237))) = some r := by rw [if_pos rfl] at H; exact H
        clear H
        have H := H1
        clear H1
        replace H := Option.bind_eq_some_iff.mp H
        obtain ⟨t237, A80, H⟩ := H
        replace H : (some (!t237)) = some r := H
        have A8 := Aside0.mk A80
        clear A80
        obtain rfl := Option.some.inj H
        go_enter Try.func46, Try.ntmps46
        go_wp2_with (first | ((with_reducible refine gate_dst (N := 1) rfl ?_); (try (refine gate_guard (by rfl) ?_; dsimp only)); refine box_event ?hg (N := 1) ?hd (cs := #[.int .i64 a0_0, .int .i64 a0_1, .slice A0_2 l0_2.length c0_2]) (t := 38) ?hr ?_; (case hd => rfl); (case hg => rfl); (case hr => first|(go_simp;done)|(go_simp;rfl)); intro gb233 hg w9 hbox hb; have n0_ := am_ (below_step (hb_ HB.out) hb); have n1_ := am_ (hbox); have n2_ := am_ (hy_ hg (hb_ HB.out) : w.heap.size ≤ gb233); have n3_ := am_ (hy_ hg (hb_ HB.out) : w.heap.size ≤ gb233); clear HB; have HB := n0_; have BK233 := n1_; have GW233 := n2_; have GE233 := n3_; clear n0_ n1_ n2_ n3_; clear hb hbox hg; have hcz10_0 := bc_ BK233.out 0 (.int .i64 a0_0) rfl; have hcz10_1 := bc_ BK233.out 1 (.int .i64 a0_1) rfl; have hcz10_2 := bc_ BK233.out 2 (.slice A0_2 l0_2.length c0_2) rfl; have hfz10_0 := blk_frozen BK233.out 0; have hfz10_1 := blk_frozen BK233.out 1; have hfz10_2 := blk_frozen BK233.out 2) | ((with_reducible refine gate_callee (f := 75) rfl ?_); refine goesL_ (some 5) rfl rfl Try.func75 (by kernel_rfl) rfl #[.int .i64 a0_0] rfl arr_ ?_; (with_reducible refine (impl_isTime.calls a0_0 true _ A2.out).mono ?_); rintro e w' ⟨rfl, ⟨nd, rfl⟩⟩; refine ⟨_, rfl, ?_⟩) | (go_at_call 45; (with_reducible refine (impl_in.calls a0_1 0 100000 true _ A4.out).mono ?_); rintro e w' ⟨rfl, ⟨nd, rfl⟩⟩) | (go_at_call 45; (with_reducible refine (impl_in.calls (l0_2.length : Int) 1 12 true _ A6.out).mono ?_); rintro e w' ⟨rfl, ⟨nd, rfl⟩⟩) | (go_at_call 85; (with_reducible refine (slices_ContainsFunc_Slot.calls k _ _ l0_2 t237 _ ?side1 ?side2 A8.out).mono ?_); (case side1 => repeat (first | exact (Kd.C_below HR0_2.out (hb1_ HB.out GE233.out)) | (with_reducible refine Kd.C_alloc ?_ _) | (with_reducible refine Kd.C_drewN ?_ _) | (with_reducible refine Kd.C_drew ?_))); (case side2 => exact HC0_2.out); rintro e w11 ⟨rfl, hb⟩; have n0_ := am_ (bb_ BK233.out hb); have n1_ := am_ (below_step (hb1_ HB.out GE233.out) hb); clear BK233; clear HB; have BK233 := n0_; have HB := n1_; clear n0_ n1_; (try clear hb); (try clear hb2); (try clear hk); (try clear hi)))
        go_ret
        exact ⟨er_, hb1_ HB.out GE233.out⟩
      · replace c7 := Bool.eq_false_iff.mpr c7
        subst c7
        have H1 : (some false) = some r := by rw [if_neg (show ¬ (false = true) by decide)] at H; exact H
        clear H
        have H := H1
        clear H1
        obtain rfl := Option.some.inj H
        go_enter Try.func46, Try.ntmps46
        go_wp2_with (first | ((with_reducible refine gate_dst (N := 1) rfl ?_); (try (refine gate_guard (by rfl) ?_; dsimp only)); refine box_event ?hg (N := 1) ?hd (cs := #[.int .i64 a0_0, .int .i64 a0_1, .slice A0_2 l0_2.length c0_2]) (t := 38) ?hr ?_; (case hd => rfl); (case hg => rfl); (case hr => first|(go_simp;done)|(go_simp;rfl)); intro gb233 hg w12 hbox hb; have n0_ := am_ (below_step (hb_ HB.out) hb); have n1_ := am_ (hbox); have n2_ := am_ (hy_ hg (hb_ HB.out) : w.heap.size ≤ gb233); have n3_ := am_ (hy_ hg (hb_ HB.out) : w.heap.size ≤ gb233); clear HB; have HB := n0_; have BK233 := n1_; have GW233 := n2_; have GE233 := n3_; clear n0_ n1_ n2_ n3_; clear hb hbox hg; have hcz13_0 := bc_ BK233.out 0 (.int .i64 a0_0) rfl; have hcz13_1 := bc_ BK233.out 1 (.int .i64 a0_1) rfl; have hcz13_2 := bc_ BK233.out 2 (.slice A0_2 l0_2.length c0_2) rfl; have hfz13_0 := blk_frozen BK233.out 0; have hfz13_1 := blk_frozen BK233.out 1; have hfz13_2 := blk_frozen BK233.out 2) | ((with_reducible refine gate_callee (f := 75) rfl ?_); refine goesL_ (some 5) rfl rfl Try.func75 (by kernel_rfl) rfl #[.int .i64 a0_0] rfl arr_ ?_; (with_reducible refine (impl_isTime.calls a0_0 true _ A2.out).mono ?_); rintro e w' ⟨rfl, ⟨nd, rfl⟩⟩; refine ⟨_, rfl, ?_⟩) | (go_at_call 45; (with_reducible refine (impl_in.calls a0_1 0 100000 true _ A4.out).mono ?_); rintro e w' ⟨rfl, ⟨nd, rfl⟩⟩) | (go_at_call 45; (with_reducible refine (impl_in.calls (l0_2.length : Int) 1 12 false _ A6.out).mono ?_); rintro e w' ⟨rfl, ⟨nd, rfl⟩⟩))
        go_ret
        exact ⟨er_, hb1_ HB.out GE233.out⟩
    · replace c5 := Bool.eq_false_iff.mpr c5
      subst c5
      have H1 : (some false) = some r := by rw [if_neg (show ¬ (false = true) by decide)] at H; exact H
      clear H
      have H := H1
      clear H1
      obtain rfl := Option.some.inj H
      go_enter Try.func46, Try.ntmps46
      go_wp2_with (first | ((with_reducible refine gate_dst (N := 1) rfl ?_); (try (refine gate_guard (by rfl) ?_; dsimp only)); refine box_event ?hg (N := 1) ?hd (cs := #[.int .i64 a0_0, .int .i64 a0_1, .slice A0_2 l0_2.length c0_2]) (t := 38) ?hr ?_; (case hd => rfl); (case hg => rfl); (case hr => first|(go_simp;done)|(go_simp;rfl)); intro gb233 hg w14 hbox hb; have n0_ := am_ (below_step (hb_ HB.out) hb); have n1_ := am_ (hbox); have n2_ := am_ (hy_ hg (hb_ HB.out) : w.heap.size ≤ gb233); have n3_ := am_ (hy_ hg (hb_ HB.out) : w.heap.size ≤ gb233); clear HB; have HB := n0_; have BK233 := n1_; have GW233 := n2_; have GE233 := n3_; clear n0_ n1_ n2_ n3_; clear hb hbox hg; have hcz15_0 := bc_ BK233.out 0 (.int .i64 a0_0) rfl; have hcz15_1 := bc_ BK233.out 1 (.int .i64 a0_1) rfl; have hcz15_2 := bc_ BK233.out 2 (.slice A0_2 l0_2.length c0_2) rfl; have hfz15_0 := blk_frozen BK233.out 0; have hfz15_1 := blk_frozen BK233.out 1; have hfz15_2 := blk_frozen BK233.out 2) | ((with_reducible refine gate_callee (f := 75) rfl ?_); refine goesL_ (some 5) rfl rfl Try.func75 (by kernel_rfl) rfl #[.int .i64 a0_0] rfl arr_ ?_; (with_reducible refine (impl_isTime.calls a0_0 true _ A2.out).mono ?_); rintro e w' ⟨rfl, ⟨nd, rfl⟩⟩; refine ⟨_, rfl, ?_⟩) | (go_at_call 45; (with_reducible refine (impl_in.calls a0_1 0 100000 false _ A4.out).mono ?_); rintro e w' ⟨rfl, ⟨nd, rfl⟩⟩))
      go_ret
      exact ⟨er_, hb1_ HB.out GE233.out⟩
  · replace c3 := Bool.eq_false_iff.mpr c3
    subst c3
    have H1 : (some false) = some r := by rw [if_neg (show ¬ (false = true) by decide)] at H; exact H
    clear H
    have H := H1
    clear H1
    obtain rfl := Option.some.inj H
    go_enter Try.func46, Try.ntmps46
    go_wp2_with (first | ((with_reducible refine gate_dst (N := 1) rfl ?_); (try (refine gate_guard (by rfl) ?_; dsimp only)); refine box_event ?hg (N := 1) ?hd (cs := #[.int .i64 a0_0, .int .i64 a0_1, .slice A0_2 l0_2.length c0_2]) (t := 38) ?hr ?_; (case hd => rfl); (case hg => rfl); (case hr => first|(go_simp;done)|(go_simp;rfl)); intro gb233 hg w16 hbox hb; have n0_ := am_ (below_step (hb_ HB.out) hb); have n1_ := am_ (hbox); have n2_ := am_ (hy_ hg (hb_ HB.out) : w.heap.size ≤ gb233); have n3_ := am_ (hy_ hg (hb_ HB.out) : w.heap.size ≤ gb233); clear HB; have HB := n0_; have BK233 := n1_; have GW233 := n2_; have GE233 := n3_; clear n0_ n1_ n2_ n3_; clear hb hbox hg; have hcz17_0 := bc_ BK233.out 0 (.int .i64 a0_0) rfl; have hcz17_1 := bc_ BK233.out 1 (.int .i64 a0_1) rfl; have hcz17_2 := bc_ BK233.out 2 (.slice A0_2 l0_2.length c0_2) rfl; have hfz17_0 := blk_frozen BK233.out 0; have hfz17_1 := blk_frozen BK233.out 1; have hfz17_2 := blk_frozen BK233.out 2) | ((with_reducible refine gate_callee (f := 75) rfl ?_); refine goesL_ (some 5) rfl rfl Try.func75 (by kernel_rfl) rfl #[.int .i64 a0_0] rfl arr_ ?_; (with_reducible refine (impl_isTime.calls a0_0 false _ A2.out).mono ?_); rintro e w' ⟨rfl, ⟨nd, rfl⟩⟩; refine ⟨_, rfl, ?_⟩))
    go_ret
    exact ⟨er_, hb1_ HB.out GE233.out⟩
def impl_bounded.f (num den x y : Int) : Option (Int × Bool) := (impl_DriftOk.f num den).bind fun t1 => (if t1 = true then ((impl_isTime.f x).bind fun t2 => (if t2 = true then (if y ≤ 1000000000000 then (some (y, true)) else (some (0, false))) else (some (0, false)))) else (some (0, false)))
set_option maxHeartbeats 8000000 in
set_option maxRecDepth 100000 in
theorem impl_bounded.calls (num den x y : Int) (g : Nat) (caps : Array Value) (r1 : Int) (r2 : Bool) (w : World) (fn : Func) (hfn : Try.prog.funcs[g]? = some fn) (hbd : fn.body.isSome = true) (hnm : (fn.name == "runtime.NumGoroutine") = false)
    (hC : impl_DriftOk.f num den = some true → impl_isTime.f x = some true → ∀ W, Below w.heap.size w W → Calls Try.prog g caps W fun e W' => e = .returned (.int .i64 y) ∧ Below W.heap.size W W')
    (h : impl_bounded.f num den x y = some (r1, r2)) :
    Calls Try.prog 90 #[.agg #[.int .i64 num, .int .i64 den], .int .i64 x, .func (.func g) #[] caps] w fun e w' => e = .returned (.tuple #[.int .i64 r1, .bool r2]) ∧ Below w.heap.size w w' := by
  have hu := Try.underlying34
  have HB := am_ (Below.refl w.heap.size w)
  have hen := fun W => enters_ (args := caps) hfn hnm hbd W
  have hC := Aside0.mk hC
  unfold impl_bounded.f at h
  obtain ⟨t1, A1, H⟩ := Option.bind_eq_some_iff.mp h
  clear h
  have A1 := Aside0.mk A1
  cases t1 with
  | false =>
    rw [if_neg (by decide)] at H
    obtain ⟨rfl, rfl⟩ := Prod.mk.inj (Option.some.inj H)
    clear H hC
    go_enter Try.func90, Try.ntmps90
    go_wp2_with (first | ((with_reducible refine gate_dst (N := 3) rfl ?_); refine box_event ?hg (N := 3) ?hd (cs := #[.int .i64 num, .int .i64 den]) (t := 34) ?hr ?_; (case hd => rfl); (case hg => rfl); (case hr => first|(go_simp;done)|(go_simp;rfl)); intro ga hg w1 hbox hb; have n0_ := am_ (below_step (hb_ HB.out) hb); clear HB; have HB := n0_; clear n0_; have Bga := am_ (hbox); clear hb hbox hg; have hcga0_w1 : w1.cell? ⟨ga, 0, none⟩ = some (.int .i64 num) := (blk_cell Bga.out 0).trans rfl; have hzga0_w1 := blk_frozen Bga.out 0; have hcga1_w1 : w1.cell? ⟨ga, 1, none⟩ = some (.int .i64 den) := (blk_cell Bga.out 1).trans rfl; have hzga1_w1 := blk_frozen Bga.out 1) | (go_at_call 44; (with_reducible refine (impl_DriftOk.calls num den false _ A1.out).mono ?_); rintro e w2 ⟨rfl, hb⟩; have oBga := am_ (blk_below (bk_ Bga.out) hb); have n0_ := am_ (below_step (hb_ HB.out) hb); clear HB; have HB := n0_; clear n0_; clear Bga; have Bga := oBga; clear oBga; (try clear hb); have hcga0_w2 : w2.cell? ⟨ga, 0, none⟩ = some (.int .i64 num) := (blk_cell Bga.out 0).trans rfl; have hzga0_w2 := blk_frozen Bga.out 0; have hcga1_w2 : w2.cell? ⟨ga, 1, none⟩ = some (.int .i64 den) := (blk_cell Bga.out 1).trans rfl; have hzga1_w2 := blk_frozen Bga.out 1))
    go_ret2
    exact ⟨rfl, hb_ HB.out⟩
  | true =>
    rw [if_pos rfl] at H
    obtain ⟨t2, A2, H⟩ := Option.bind_eq_some_iff.mp H
    have A2 := Aside0.mk A2
    cases t2 with
    | false =>
      rw [if_neg (by decide)] at H
      obtain ⟨rfl, rfl⟩ := Prod.mk.inj (Option.some.inj H)
      clear H hC
      go_enter Try.func90, Try.ntmps90
      go_wp2_with (first | ((with_reducible refine gate_dst (N := 3) rfl ?_); refine box_event ?hg (N := 3) ?hd (cs := #[.int .i64 num, .int .i64 den]) (t := 34) ?hr ?_; (case hd => rfl); (case hg => rfl); (case hr => first|(go_simp;done)|(go_simp;rfl)); intro ga hg w1 hbox hb; have n0_ := am_ (below_step (hb_ HB.out) hb); clear HB; have HB := n0_; clear n0_; have Bga := am_ (hbox); clear hb hbox hg; have hcga0_w1 : w1.cell? ⟨ga, 0, none⟩ = some (.int .i64 num) := (blk_cell Bga.out 0).trans rfl; have hzga0_w1 := blk_frozen Bga.out 0; have hcga1_w1 : w1.cell? ⟨ga, 1, none⟩ = some (.int .i64 den) := (blk_cell Bga.out 1).trans rfl; have hzga1_w1 := blk_frozen Bga.out 1) | (go_at_call 44; (with_reducible refine (impl_DriftOk.calls num den true _ A1.out).mono ?_); rintro e w2 ⟨rfl, hb⟩; have oBga := am_ (blk_below (bk_ Bga.out) hb); have n0_ := am_ (below_step (hb_ HB.out) hb); clear HB; have HB := n0_; clear n0_; clear Bga; have Bga := oBga; clear oBga; (try clear hb); have hcga0_w2 : w2.cell? ⟨ga, 0, none⟩ = some (.int .i64 num) := (blk_cell Bga.out 0).trans rfl; have hzga0_w2 := blk_frozen Bga.out 0; have hcga1_w2 : w2.cell? ⟨ga, 1, none⟩ = some (.int .i64 den) := (blk_cell Bga.out 1).trans rfl; have hzga1_w2 := blk_frozen Bga.out 1) | (go_at_call 75; (with_reducible refine (impl_isTime.calls x false _ A2.out).mono ?_); rintro e w' ⟨rfl, ⟨nd, rfl⟩⟩))
      go_ret2
      exact ⟨rfl, hb_ HB.out⟩
    | true =>
      rw [if_pos rfl] at H
      by_cases c : y ≤ 1000000000000
      · rw [if_pos c] at H
        obtain ⟨rfl, rfl⟩ := Prod.mk.inj (Option.some.inj H)
        clear H
        have cb : decide (y ≤ 1000000000000) = true := decide_eq_true c
        clear c
        go_enter Try.func90, Try.ntmps90
        go_wp2_with (first | ((with_reducible refine gate_dst (N := 3) rfl ?_); refine box_event ?hg (N := 3) ?hd (cs := #[.int .i64 num, .int .i64 den]) (t := 34) ?hr ?_; (case hd => rfl); (case hg => rfl); (case hr => first|(go_simp;done)|(go_simp;rfl)); intro ga hg w1 hbox hb; have n0_ := am_ (below_step (hb_ HB.out) hb); clear HB; have HB := n0_; clear n0_; have Bga := am_ (hbox); clear hb hbox hg; have hcga0_w1 : w1.cell? ⟨ga, 0, none⟩ = some (.int .i64 num) := (blk_cell Bga.out 0).trans rfl; have hzga0_w1 := blk_frozen Bga.out 0; have hcga1_w1 : w1.cell? ⟨ga, 1, none⟩ = some (.int .i64 den) := (blk_cell Bga.out 1).trans rfl; have hzga1_w1 := blk_frozen Bga.out 1) | (go_at_call 44; (with_reducible refine (impl_DriftOk.calls num den true _ A1.out).mono ?_); rintro e w2 ⟨rfl, hb⟩; have oBga := am_ (blk_below (bk_ Bga.out) hb); have n0_ := am_ (below_step (hb_ HB.out) hb); clear HB; have HB := n0_; clear n0_; clear Bga; have Bga := oBga; clear oBga; (try clear hb); have hcga0_w2 : w2.cell? ⟨ga, 0, none⟩ = some (.int .i64 num) := (blk_cell Bga.out 0).trans rfl; have hzga0_w2 := blk_frozen Bga.out 0; have hcga1_w2 : w2.cell? ⟨ga, 1, none⟩ = some (.int .i64 den) := (blk_cell Bga.out 1).trans rfl; have hzga1_w2 := blk_frozen Bga.out 1) | (go_at_call 75; (with_reducible refine (impl_isTime.calls x true _ A2.out).mono ?_); rintro e w' ⟨rfl, ⟨nd, rfl⟩⟩) | ((with_reducible refine (hC.out A1.out A2.out _ ?_).mono ?_); (exact by repeat (first | (with_reducible first | exact HB.out | apply below_alloc | apply pw_below_drewN | apply below_drew1) | exact HB.out)); rintro e w4 ⟨rfl, hb⟩; have n0_ := am_ (below_step (hb_ HB.out) hb); clear HB; have HB := n0_; clear n0_; (try clear hb)))
        go_ret2
        exact ⟨rfl, hb_ HB.out⟩
      · rw [if_neg c] at H
        obtain ⟨rfl, rfl⟩ := Prod.mk.inj (Option.some.inj H)
        clear H
        have cb : decide (y ≤ 1000000000000) = false := decide_eq_false c
        clear c
        go_enter Try.func90, Try.ntmps90
        go_wp2_with (first | ((with_reducible refine gate_dst (N := 3) rfl ?_); refine box_event ?hg (N := 3) ?hd (cs := #[.int .i64 num, .int .i64 den]) (t := 34) ?hr ?_; (case hd => rfl); (case hg => rfl); (case hr => first|(go_simp;done)|(go_simp;rfl)); intro ga hg w1 hbox hb; have n0_ := am_ (below_step (hb_ HB.out) hb); clear HB; have HB := n0_; clear n0_; have Bga := am_ (hbox); clear hb hbox hg; have hcga0_w1 : w1.cell? ⟨ga, 0, none⟩ = some (.int .i64 num) := (blk_cell Bga.out 0).trans rfl; have hzga0_w1 := blk_frozen Bga.out 0; have hcga1_w1 : w1.cell? ⟨ga, 1, none⟩ = some (.int .i64 den) := (blk_cell Bga.out 1).trans rfl; have hzga1_w1 := blk_frozen Bga.out 1) | (go_at_call 44; (with_reducible refine (impl_DriftOk.calls num den true _ A1.out).mono ?_); rintro e w2 ⟨rfl, hb⟩; have oBga := am_ (blk_below (bk_ Bga.out) hb); have n0_ := am_ (below_step (hb_ HB.out) hb); clear HB; have HB := n0_; clear n0_; clear Bga; have Bga := oBga; clear oBga; (try clear hb); have hcga0_w2 : w2.cell? ⟨ga, 0, none⟩ = some (.int .i64 num) := (blk_cell Bga.out 0).trans rfl; have hzga0_w2 := blk_frozen Bga.out 0; have hcga1_w2 : w2.cell? ⟨ga, 1, none⟩ = some (.int .i64 den) := (blk_cell Bga.out 1).trans rfl; have hzga1_w2 := blk_frozen Bga.out 1) | (go_at_call 75; (with_reducible refine (impl_isTime.calls x true _ A2.out).mono ?_); rintro e w' ⟨rfl, ⟨nd, rfl⟩⟩) | ((with_reducible refine (hC.out A1.out A2.out _ ?_).mono ?_); (exact by repeat (first | (with_reducible first | exact HB.out | apply below_alloc | apply pw_below_drewN | apply below_drew1) | exact HB.out)); rintro e w4 ⟨rfl, hb⟩; have n0_ := am_ (below_step (hb_ HB.out) hb); clear HB; have HB := n0_; clear n0_; (try clear hb)))
        go_ret2
        exact ⟨rfl, hb_ HB.out⟩
end Go.Proofs.Ytejohmompmjhnaa.P
namespace Go.Proofs.Ytejohmompmjhnaa.P
open Go.RowKit Go.Proofs.YtejohmompmjhnaaW.PrintWords Go.Proofs.YtejohmompmjhnaaW.PrintLast Go.Proofs.YtejohmompmjhnaaW.PrintMore
attribute [local go_sem] max2_int min2_int max_two min_two max_three min_three max_four min_four
set_option linter.unusedVariables false
set_option linter.unusedSimpArgs false
set_option maxHeartbeats 8000000 in
set_option maxRecDepth 100000 in
theorem impl_MostTime_1.calls (gx gd : Nat) (num den x : Int) (w : World) (hx : w.heap[gx]? = some (.cells #[.int .i64 x] 3 (0, 0))) (hd : w.heap[gd]? = some (.cells #[.int .i64 num, .int .i64 den] 34 (0, 0))) (hz : wrap64 (den - num) ≠ 0) :
    Calls Try.prog 91 #[.pointer (some ⟨gx, 0, none⟩), .pointer (some ⟨gd, 0, none⟩)] w fun e w' => e = .returned (.int .i64 (wrap64 (Int.tdiv (wrap64 (x * den)) (wrap64 (den - num))))) ∧ Below w.heap.size w w' := by
  have hu0 := Try.underlying34
  have HB := am_ (Below.refl w.heap.size w)
  have h1 : w.cell? ⟨gx, 0, none⟩ = some (.int .i64 x) := (blk_cell hx 0).trans rfl
  have h2 : w.cell? ⟨gd, 0, none⟩ = some (.int .i64 num) := (blk_cell hd 0).trans rfl
  have h3 : w.cell? ⟨gd, 1, none⟩ = some (.int .i64 den) := (blk_cell hd 1).trans rfl
  have z1 := blk_frozen hx 0
  have z2 := blk_frozen hd 0
  have z3 := blk_frozen hd 1
  clear hx hd
  have hz1 : (wrap64 (den - num) == 0) = false := beq_eq_false_iff_ne.mpr hz
  have hz2 : (wrap64 (den - num) != 0) = true := bne_iff_ne.mpr hz
  go_enter Try.func91, Try.ntmps91
  go_wp2
  go_ret
  exact ⟨rfl, hb_ HB.out⟩
end Go.Proofs.Ytejohmompmjhnaa.P
namespace Go.Proofs.Ytejohmompmjhnaa.P
open Go.RowKit Go.Proofs.YtejohmompmjhnaaW.PrintWords Go.Proofs.YtejohmompmjhnaaW.PrintLast Go.Proofs.YtejohmompmjhnaaW.PrintMore
attribute [local go_sem] max2_int min2_int max_two min_two max_three min_three max_four min_four
set_option linter.unusedVariables false
set_option linter.unusedSimpArgs false
def impl_MostTime.f (a0_0 : Int) (a0_1 : Int) (a1 : Int) : Option (Int × Bool) := (impl_DriftOk.f a0_0 a0_1).bind fun t1 => (if t1 = true then (if wrap64 (a0_1 - a0_0) = 0 then none else impl_bounded.f a0_0 a0_1 a1 (wrap64 (Int.tdiv (wrap64 (a1 * a0_1)) (wrap64 (a0_1 - a0_0))))) else (impl_bounded.f a0_0 a0_1 a1 0))
set_option maxHeartbeats 8000000 in
set_option maxRecDepth 100000 in
theorem impl_MostTime.calls (num den x : Int) (r1 : Int) (r2 : Bool) (w : World) (h : impl_MostTime.f num den x = some (r1, r2)) :
    Calls Try.prog 52 #[.agg #[.int .i64 num, .int .i64 den], .int .i64 x] w fun e w' => e = .returned (.tuple #[.int .i64 r1, .bool r2]) ∧ Below w.heap.size w w' := by
  have hu0 := Try.underlying34
  have HB := am_ (Below.refl w.heap.size w)
  unfold impl_MostTime.f at h
  obtain ⟨t1, A1, H⟩ := Option.bind_eq_some_iff.mp h
  clear h
  have A1 := Aside0.mk A1
  cases t1 with
  | false =>
    rw [if_neg (by decide)] at H
    have H := Aside0.mk H
    go_enter Try.func52, Try.ntmps52
    go_wp2_with (first | ((with_reducible refine gate_dst (N := 2) rfl ?_); refine box_event ?hg (N := 2) ?hd (cs := #[.int .i64 num, .int .i64 den]) (t := 34) ?hr ?_; (case hd => rfl); (case hg => rfl); (case hr => first|(go_simp;done)|(go_simp;rfl)); intro gd hg w1 hbox hb; have n0_ := am_ (below_step (hb_ HB.out) hb); clear HB; have HB := n0_; clear n0_; have Bgd := am_ (hbox); clear hb hbox hg; have hcgd0_w1 : w1.cell? ⟨gd, 0, none⟩ = some (.int .i64 num) := (blk_cell Bgd.out 0).trans rfl; have hzgd0_w1 := blk_frozen Bgd.out 0; have hcgd1_w1 : w1.cell? ⟨gd, 1, none⟩ = some (.int .i64 den) := (blk_cell Bgd.out 1).trans rfl; have hzgd1_w1 := blk_frozen Bgd.out 1) | ((with_reducible refine gate_dst (N := 3) rfl ?_); refine box_event ?hg (N := 3) ?hd (cs := #[.int .i64 x]) (t := 3) ?hr ?_; (case hd => rfl); (case hg => rfl); (case hr => first|(go_simp;done)|(go_simp;rfl)); intro gx hg w2 hbox hb; have oBgd := am_ (blk_below (bk_ Bgd.out) hb); have n0_ := am_ (below_step (hb_ HB.out) hb); clear HB; have HB := n0_; clear n0_; clear Bgd; have Bgd := oBgd; clear oBgd; have Bgx := am_ (hbox); clear hb hbox hg; have hcgd0_w2 : w2.cell? ⟨gd, 0, none⟩ = some (.int .i64 num) := (blk_cell Bgd.out 0).trans rfl; have hzgd0_w2 := blk_frozen Bgd.out 0; have hcgd1_w2 : w2.cell? ⟨gd, 1, none⟩ = some (.int .i64 den) := (blk_cell Bgd.out 1).trans rfl; have hzgd1_w2 := blk_frozen Bgd.out 1; have hcgx0_w2 : w2.cell? ⟨gx, 0, none⟩ = some (.int .i64 x) := (blk_cell Bgx.out 0).trans rfl; have hzgx0_w2 := blk_frozen Bgx.out 0) | ((go_at_call 90); (with_reducible refine (impl_bounded.calls num den x 0 91 #[.pointer (some ⟨gx, 0, none⟩), .pointer (some ⟨gd, 0, none⟩)] r1 r2 _ Try.f91 Try.func91 (by kernel_rfl) rfl ?_ H.out).mono ?_); (exact fun h1 => absurd (A1.out.symm.trans h1) (by simp)); rintro e w4 ⟨rfl, hb⟩; have n0_ := am_ (below_step (hb_ HB.out) hb); clear HB; have HB := n0_; clear n0_; (try clear hb)))
    go_ret2
    exact ⟨rfl, hb_ HB.out⟩
  | true =>
    rw [if_pos rfl] at H
    by_cases hz : wrap64 (den - num) = 0
    · rw [if_pos hz] at H; cases H
    rw [if_neg hz] at H
    have HZ := Aside0.mk hz
    clear hz
    have H := Aside0.mk H
    go_enter Try.func52, Try.ntmps52
    go_wp2_with (first | ((with_reducible refine gate_dst (N := 2) rfl ?_); refine box_event ?hg (N := 2) ?hd (cs := #[.int .i64 num, .int .i64 den]) (t := 34) ?hr ?_; (case hd => rfl); (case hg => rfl); (case hr => first|(go_simp;done)|(go_simp;rfl)); intro gd hg w1 hbox hb; have n0_ := am_ (below_step (hb_ HB.out) hb); clear HB; have HB := n0_; clear n0_; have Bgd := am_ (hbox); clear hb hbox hg; have hcgd0_w1 : w1.cell? ⟨gd, 0, none⟩ = some (.int .i64 num) := (blk_cell Bgd.out 0).trans rfl; have hzgd0_w1 := blk_frozen Bgd.out 0; have hcgd1_w1 : w1.cell? ⟨gd, 1, none⟩ = some (.int .i64 den) := (blk_cell Bgd.out 1).trans rfl; have hzgd1_w1 := blk_frozen Bgd.out 1) | ((with_reducible refine gate_dst (N := 3) rfl ?_); refine box_event ?hg (N := 3) ?hd (cs := #[.int .i64 x]) (t := 3) ?hr ?_; (case hd => rfl); (case hg => rfl); (case hr => first|(go_simp;done)|(go_simp;rfl)); intro gx hg w2 hbox hb; have oBgd := am_ (blk_below (bk_ Bgd.out) hb); have n0_ := am_ (below_step (hb_ HB.out) hb); clear HB; have HB := n0_; clear n0_; clear Bgd; have Bgd := oBgd; clear oBgd; have Bgx := am_ (hbox); clear hb hbox hg; have hcgd0_w2 : w2.cell? ⟨gd, 0, none⟩ = some (.int .i64 num) := (blk_cell Bgd.out 0).trans rfl; have hzgd0_w2 := blk_frozen Bgd.out 0; have hcgd1_w2 : w2.cell? ⟨gd, 1, none⟩ = some (.int .i64 den) := (blk_cell Bgd.out 1).trans rfl; have hzgd1_w2 := blk_frozen Bgd.out 1; have hcgx0_w2 : w2.cell? ⟨gx, 0, none⟩ = some (.int .i64 x) := (blk_cell Bgx.out 0).trans rfl; have hzgx0_w2 := blk_frozen Bgx.out 0) | ((go_at_call 90); (with_reducible refine (impl_bounded.calls num den x (wrap64 (Int.tdiv (wrap64 (x * den)) (wrap64 (den - num)))) 91 #[.pointer (some ⟨gx, 0, none⟩), .pointer (some ⟨gd, 0, none⟩)] r1 r2 _ Try.f91 Try.func91 (by kernel_rfl) rfl ?_ H.out).mono ?_); (exact fun _ _ W hW => impl_MostTime_1.calls gx gd num den x W (blk_below (bk_ Bgx.out) hW) (blk_below (bk_ Bgd.out) hW) HZ.out); rintro e w4 ⟨rfl, hb⟩; have n0_ := am_ (below_step (hb_ HB.out) hb); clear HB; have HB := n0_; clear n0_; (try clear hb)))
    go_ret2
    exact ⟨rfl, hb_ HB.out⟩
end Go.Proofs.Ytejohmompmjhnaa.P
