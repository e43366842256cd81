/- Texts of the seat's proofs, part 3: functions of the program told as plain functions, with their contracts, and what is shown of them. No condition. -/
import Derived.Test.YtcgdnfaclbnflaaUKFR
import Derived.Test.YtcgdnfaclbnflaaKFR1
import Derived.Test.YtcgdnfaclbnflaaKFR2
set_option linter.unusedVariables false
set_option linter.unusedSimpArgs false
namespace Go.Proofs.Ytcgdnfaclbnflaa.P
open Go.RowKit Go.Proofs.YtcgdnfaclbnflaaW.PrintWords Go.Proofs.YtcgdnfaclbnflaaW.PrintLast Go.Proofs.YtcgdnfaclbnflaaW.PrintMore
attribute [local go_sem] max2_int min2_int max_two min_two max_three min_three max_four min_four
set_option linter.unusedVariables false
set_option linter.unusedSimpArgs false
def spec_DrawAppRun.f (k : Nat) (l0 : List Int) : Option (Bool × Int × (List (S83))) := (spec_l1New.f k l0).bind fun bt766 => ((spec_l12DrawApp.f bt766.1 bt766.2.1 bt766.2.2).bind fun bt770 => ((spec_l1Size.f l0 30).bind fun t775 => ((spec_l12DrawLooks.f k bt766.1 bt770.2.2.1 bt770.2.2.2 t775).bind fun bt776 => (some (bt770.1, bt770.2.1, bt776.1)))))
set_option maxHeartbeats 8000000 in
set_option maxRecDepth 100000 in
theorem spec_DrawAppRun.calls (k : Nat) (A0 : Option Addr) (c0 : Nat) (l0 : List Int) (r1 : Bool) (r2 : Int) (r3 : List (S83)) (w : World) (hr0 : Kd.C (Kd.int .u8) w A0 l0.length l0) (hc0 : l0.length ≤ c0) (h : spec_DrawAppRun.f k l0 = some (r1, r2, r3)) :
    Calls Try.prog 48 #[.slice A0 l0.length c0] w fun e w' => ∃ v2_ : Value, e = .returned (.tuple #[.agg #[.bool r1, .int .i64 r2], v2_]) ∧ Kd.R k83 83 w' w.heap.size (fun _ => True) v2_ r3 ∧ Below w.heap.size w w' := by
  have hu66 := Try.underlying66
  have HR0 := Aside0.mk hr0
  have HC0 := Aside0.mk hc0
  clear hr0 hc0
  have HB := Aside0.mk (Below.refl w.heap.size w)
  have H : ((spec_l1New.f k l0).bind fun bt766 => ((spec_l12DrawApp.f bt766.1 bt766.2.1 bt766.2.2).bind fun bt770 => ((spec_l1Size.f l0 30).bind fun t775 => ((spec_l12DrawLooks.f k bt766.1 bt770.2.2.1 bt770.2.2.2 t775).bind fun bt776 => (some (bt770.1, bt770.2.1, bt776.1)))))) = some (r1, r2, r3) := h
  clear h
  replace H := Option.bind_eq_some_iff.mp H
  obtain ⟨⟨t766, t767, t768⟩, A20, H⟩ := H
  replace H : ((spec_l12DrawApp.f t766 t767 t768).bind fun bt770 => ((spec_l1Size.f l0 30).bind fun t775 => ((spec_l12DrawLooks.f k t766 bt770.2.2.1 bt770.2.2.2 t775).bind fun bt776 => (some (bt770.1, bt770.2.1, bt776.1))))) = some (r1, r2, r3) := H
  have A2 := Aside0.mk A20
  clear A20
  replace H := Option.bind_eq_some_iff.mp H
  obtain ⟨⟨t770, t771, t772, t773⟩, A30, H⟩ := H
  replace H : ((spec_l1Size.f l0 30).bind fun t775 => ((spec_l12DrawLooks.f k t766 t772 t773 t775).bind fun bt776 => (some (t770, t771, bt776.1)))) = some (r1, r2, r3) := H
  have A3 := Aside0.mk A30
  clear A30
  replace H := Option.bind_eq_some_iff.mp H
  obtain ⟨t775, A40, H⟩ := H
  replace H : ((spec_l12DrawLooks.f k t766 t772 t773 t775).bind fun bt776 => (some (t770, t771, bt776.1))) = some (r1, r2, r3) := H
  have A4 := Aside0.mk A40
  clear A40
  replace H := Option.bind_eq_some_iff.mp H
  obtain ⟨⟨t776, t779, t780⟩, A50, H⟩ := H
  replace H : (some (t770, t771, t776)) = some (r1, r2, r3) := H
  have A5 := Aside0.mk A50
  clear A50
  simp only [Option.some.injEq, Prod.mk.injEq] at H
  obtain ⟨rfl, rfl, rfl⟩ := H
  go_enter Try.func48, Try.ntmps48
  try go_wp2_with (first | ((with_reducible refine gate_dst (N := 2) rfl ?_); refine box_event ?hg (N := 2) ?hd (cs := #[.bool false, .int .i64 0]) (t := 66) ?hr ?_; (case hd => rfl); (case hg => rfl); (case hr => first | (go_simp; done) | (go_simp; rfl)); intro gb765 hg w6 hbox hb; have n0_ := Aside0.mk (below_step (hb_ HB.out) hb); have n1_ := Aside0.mk (hbox); have n2_ := Aside0.mk ((by rw [hg]; exact (below_size (hb_ HB.out)) : w.heap.size ≤ gb765)); have n3_ := Aside0.mk ((by rw [hg]; exact (below_size (hb_ HB.out)) : w.heap.size ≤ gb765)); clear HB; have HB := n0_; have BK765 := n1_; have GW765 := n2_; have GE765 := n3_; clear n0_ n1_ n2_ n3_; clear hb hbox hg) | ((with_reducible refine gate_callee (f := 70) rfl ?_); refine goesL_ (some 7) rfl rfl Try.func70 (by kernel_rfl) rfl #[.slice A0 l0.length c0] rfl arr_ ?_; (with_reducible refine (spec_l1New.calls k _ _ l0 t766 t767 t768 w _ ?side1 ?side2 ?side3 A2.out).mono ?_); (case side1 => repeat (first | (with_reducible first | exact HB.out | apply below_alloc | apply pw_below_drewN | apply below_drew1 | refine below_set ?_ GE765.out) | exact HB.out)); (case side2 => exact HR0.out); (case side3 => exact HC0.out); rintro e w7 ⟨g769, rfl, hi, hb, hb2⟩; refine ⟨_, rfl, ?_⟩; have n0_ := Aside0.mk (blk_below (g := gb765) (o := .cells #[.bool false, .int .i64 0] 66 (0, 0)) (bk_ BK765.out) hb2); have n1_ := Aside0.mk (hb); have n2_ := Aside0.mk (hi); have n3_ := Aside0.mk (IsS146.ne_blk hi (blk_below (g := gb765) (o := .cells #[.bool false, .int .i64 0] 66 (0, 0)) (bk_ BK765.out) hb2) (by decide)); have n4_ := Aside0.mk (Ne.symm (IsS146.ne_blk hi (blk_below (g := gb765) (o := .cells #[.bool false, .int .i64 0] 66 (0, 0)) (bk_ BK765.out) hb2) (by decide))); clear BK765; clear HB; have BK765 := n0_; have HB := n1_; have HI769 := n2_; have NB769_765 := n3_; have NB765_769 := n4_; clear n0_ n1_ n2_ n3_ n4_; (try clear hb); (try clear hb2); (try clear hk); (try clear hi)) | ((with_reducible refine gate_callee (f := 92) rfl ?_); refine goesL_ (some 9) rfl rfl Try.func92 (by kernel_rfl) rfl #[.pointer (some ⟨g769, 0, none⟩)] rfl arr_ ?_; (with_reducible refine (spec_l12DrawApp.calls g769 t766 t767 t768 t770 t771 t772 t773 w _ ?side1 ?side2 A3.out).mono ?_); (case side1 => repeat (first | (with_reducible first | exact HI769.out | apply IsS146.alloc | apply IsS146.drewN | apply IsS146.drew | apply IsS146.set_1 | apply IsS146.set_2 | refine IsS146.far ?_ NB769_765.out _) | exact HI769.out)); (case side2 => repeat (first | (with_reducible first | exact HB.out | apply below_alloc | apply pw_below_drewN | apply below_drew1 | refine below_set ?_ (IsS146.ge HI769.out) | refine below_set ?_ GE765.out) | exact HB.out)); rintro e w8 ⟨rfl, hi, hb, hk⟩; refine ⟨_, rfl, ?_⟩; have n0_ := Aside0.mk (KeepBut.blk hk (g' := gb765) (o := .cells #[.bool false, .int .i64 0] 66 (0, 0)) (bk_ BK765.out) NB765_769.out (by simp)); have n1_ := Aside0.mk (hb); have n2_ := Aside0.mk (hi); clear BK765; clear HB; clear HI769; have BK765 := n0_; have HB := n1_; have HI769 := n2_; clear n0_ n1_ n2_; (try clear hb); (try clear hb2); (try clear hk); (try clear hi)) | ((with_reducible refine gate_dst (N := 5) rfl ?_); refine box_event ?hg (N := 5) ?hd (cs := #[.bool false, .int .i64 0]) (t := 66) ?hr ?_; (case hd => rfl); (case hg => rfl); (case hr => first | (go_simp; done) | (go_simp; rfl)); intro gb774 hg w9 hbox hb; have n0_ := Aside0.mk (bb_ BK765.out hb); have n1_ := Aside0.mk (IsS146.below (by repeat (first | (with_reducible first | exact HI769.out | apply IsS146.alloc | apply IsS146.drewN | apply IsS146.drew | apply IsS146.set_1 | apply IsS146.set_2 | refine IsS146.far ?_ NB769_765.out _) | exact HI769.out)) hb); have n2_ := Aside0.mk (below_step (by repeat (first | (with_reducible first | exact HB.out | apply below_alloc | apply pw_below_drewN | apply below_drew1 | refine below_set ?_ (IsS146.ge HI769.out) | refine below_set ?_ GE765.out) | exact HB.out)) hb); have n3_ := Aside0.mk (hbox); have n4_ := Aside0.mk ((by rw [hg]; exact (below_size (by repeat (first | (with_reducible first | exact HB.out | apply below_alloc | apply pw_below_drewN | apply below_drew1 | refine below_set ?_ (IsS146.ge HI769.out) | refine below_set ?_ GE765.out) | exact HB.out))) : w.heap.size ≤ gb774)); have n5_ := Aside0.mk ((by rw [hg]; exact (below_size (by repeat (first | (with_reducible first | exact HB.out | apply below_alloc | apply pw_below_drewN | apply below_drew1 | refine below_set ?_ (IsS146.ge HI769.out) | refine below_set ?_ GE765.out) | exact HB.out))) : w.heap.size ≤ gb774)); have n6_ := Aside0.mk ((bl_ hg BK765.out : gb765 ≠ gb774)); have n7_ := Aside0.mk ((bg_ hg BK765.out : gb774 ≠ gb765)); have n8_ := Aside0.mk ((by rw [hg]; exact Nat.ne_of_lt (IsS146.lt (show IsS146 w _ g769 t766 t772 t773 from by repeat (first | (with_reducible first | exact HI769.out | apply IsS146.alloc | apply IsS146.drewN | apply IsS146.drew | apply IsS146.set_1 | apply IsS146.set_2 | refine IsS146.far ?_ NB769_765.out _) | exact HI769.out))) : g769 ≠ gb774)); have n9_ := Aside0.mk ((by rw [hg]; exact Nat.ne_of_gt (IsS146.lt (show IsS146 w _ g769 t766 t772 t773 from by repeat (first | (with_reducible first | exact HI769.out | apply IsS146.alloc | apply IsS146.drewN | apply IsS146.drew | apply IsS146.set_1 | apply IsS146.set_2 | refine IsS146.far ?_ NB769_765.out _) | exact HI769.out))) : gb774 ≠ g769)); clear BK765; clear HI769; clear HB; have BK765 := n0_; have HI769 := n1_; have HB := n2_; have BK774 := n3_; have GW774 := n4_; have GE774 := n5_; have NB765_774 := n6_; have NB774_765 := n7_; have NB769_774 := n8_; have NB774_769 := n9_; clear n0_ n1_ n2_ n3_ n4_ n5_ n6_ n7_ n8_ n9_; clear hb hbox hg; have hnb10 := NB774_765.out; have hnc10 := NB765_774.out; have hnb11 := NB774_769.out; have hnc11 := NB769_774.out; have hcz12_0 := bc_ BK774.out 0 (.bool false) rfl; have hcz12_1 := bc_ BK774.out 1 (.int .i64 0) rfl; have hfz12_0 := blk_frozen BK774.out 0; have hfz12_1 := blk_frozen BK774.out 1))
  have n0_ : Aside0 (((w9.setCell ⟨gb774, 0, none⟩ (.bool t770)).setCell ⟨gb774, 1, none⟩ (.int .i64 t771)).heap[gb765]? = some (.cells #[.bool false, .int .i64 0] 66 (0, 0))) := ⟨by (with_reducible repeat (first | refine blk_drewN ?_ _ | refine blk_drew ?_ | refine blk_alloc ?_ _)); refine blk_far ?_ NB765_774.out _; (with_reducible repeat (first | refine blk_drewN ?_ _ | refine blk_drew ?_ | refine blk_alloc ?_ _)); refine blk_far ?_ NB765_774.out _; (with_reducible repeat (first | refine blk_drewN ?_ _ | refine blk_drew ?_ | refine blk_alloc ?_ _)); exact BK765.out⟩
  have n1_ : Aside0 (((w9.setCell ⟨gb774, 0, none⟩ (.bool t770)).setCell ⟨gb774, 1, none⟩ (.int .i64 t771)).heap[gb774]? = some (.cells #[.bool t770, .int .i64 t771] 66 (0, 0))) := ⟨by (with_reducible repeat (first | refine blk_drewN ?_ _ | refine blk_drew ?_ | refine blk_alloc ?_ _)); refine blk_put (cs := #[.bool t770, .int .i64 0]) ?_ 1 _ rfl; (with_reducible repeat (first | refine blk_drewN ?_ _ | refine blk_drew ?_ | refine blk_alloc ?_ _)); refine blk_put (cs := #[.bool false, .int .i64 0]) ?_ 0 _ rfl; (with_reducible repeat (first | refine blk_drewN ?_ _ | refine blk_drew ?_ | refine blk_alloc ?_ _)); exact BK774.out⟩
  have n2_ : Aside0 (IsS146 w ((w9.setCell ⟨gb774, 0, none⟩ (.bool t770)).setCell ⟨gb774, 1, none⟩ (.int .i64 t771)) g769 t766 t772 t773) := ⟨by repeat (first | (with_reducible first | exact HI769.out | apply IsS146.alloc | apply IsS146.drewN | apply IsS146.drew | apply IsS146.set_1 | apply IsS146.set_2 | refine IsS146.far ?_ NB769_765.out _ | refine IsS146.far ?_ NB769_774.out _) | exact HI769.out)⟩
  have n3_ : Aside0 (Below w.heap.size w ((w9.setCell ⟨gb774, 0, none⟩ (.bool t770)).setCell ⟨gb774, 1, none⟩ (.int .i64 t771))) := ⟨by repeat (first | (with_reducible first | exact HB.out | apply below_alloc | apply pw_below_drewN | apply below_drew1 | refine below_set ?_ (IsS146.ge HI769.out) | refine below_set ?_ GE765.out | refine below_set ?_ GE774.out) | exact HB.out)⟩
  (try clear BK765)
  (try clear BK774)
  (try clear HI769)
  (try clear HB)
  generalize ((w9.setCell ⟨gb774, 0, none⟩ (.bool t770)).setCell ⟨gb774, 1, none⟩ (.int .i64 t771)) = w13 at n0_ n1_ n2_ n3_ ⊢
  have BK765 := n0_
  have BK774 := n1_
  have HI769 := n2_
  have HB := n3_
  clear n0_ n1_ n2_ n3_
  have n0_ := Aside0.mk (blk_drew BK765.out)
  have n1_ := Aside0.mk (blk_drew BK774.out)
  have n2_ := Aside0.mk (IsS146.drew HI769.out)
  have n3_ := Aside0.mk (below_drew1 HB.out)
  clear BK765
  clear BK774
  clear HI769
  clear HB
  have BK765 := n0_
  have BK774 := n1_
  have HI769 := n2_
  have HB := n3_
  clear n0_ n1_ n2_ n3_
  refine start_ (n := 7) (S := fun w' => w'.cell? ⟨gb774, 0, none⟩ = some (.bool t770) ∧ w'.cell? ⟨gb774, 1, none⟩ = some (.int .i64 t771)) (ds := []) #[false, false, false, false, false, false, false] (by kernel_rfl) rfl rfl ⟨(blk_cell BK774.out 0).trans rfl, (blk_cell BK774.out 1).trans rfl⟩ (fun hHeld => ?_)
  generalize w13.drew = w14 at BK765 BK774 HI769 HB hHeld ⊢
  refine pure_ (i := 1) (N := some 11) (v := ?_) (a' := ?_) #[false, true, false, false, false, false, false] rfl rfl (by kernel_rfl) (fun _ _ _ h => h) (Or.inl ⟨by rfl, ?_⟩) ?_ ?_
  rotate_left
  · intro w'
    go_simp
    with_reducible rfl
  rotate_left
  · simp only [Act.put, List.setIfInBounds_toArray, List.set_cons_zero, List.set_cons_succ, i64_w, i32_w]
    rfl
  refine pure_ (i := 2) (N := some 12) (v := ?_) (a' := ?_) #[false, true, true, false, false, false, false] rfl rfl (by kernel_rfl) (fun _ _ _ h => h) (Or.inl ⟨by rfl, ?_⟩) ?_ ?_
  rotate_left
  · intro w'
    go_simp
    with_reducible rfl
  rotate_left
  · simp only [Act.put, List.setIfInBounds_toArray, List.set_cons_zero, List.set_cons_succ, i64_w, i32_w]
    rfl
  refine take_ (i := 0) (N := some 10) (v := ?_) (a' := ?_) #[true, true, true, false, false, false, false] rfl rfl (by kernel_rfl) (fun _ _ _ h => h) (Or.inl ⟨by rfl, ?_⟩) hHeld ?_ ?_
  rotate_left
  · rintro w' ⟨s0, s1⟩
    go_simp
    with_reducible rfl
  rotate_left
  · simp only [Act.put, List.setIfInBounds_toArray, List.set_cons_zero, List.set_cons_succ, i64_w, i32_w]
    rfl
  refine one_ (i := 3) (N := some 13) #[true, true, true, true, false, false, false] rfl rfl (by kernel_rfl) (by decide) (fun K hK => ?_)
  refine goes_ Try.func73 (by kernel_rfl) rfl #[.slice A0 l0.length c0, .int .i64 30] (by rfl) rfl rfl arr_ ?_
  with_reducible refine (spec_l1Size.calls _ _ l0 30 t775 _ ?side1 ?side2 A4.out).mono ?_
  (case side1 => exact kc_ (Kd.C_below HR0.out HB.out))
  (case side2 => exact HC0.out)
  rintro e w' ⟨rfl, ⟨nd, rfl⟩⟩
  refine ⟨_, rfl, ?_⟩
  refine hK.out _ _ ⟨(blk_cell BK774.out 0).trans rfl, (blk_cell BK774.out 1).trans rfl⟩ (fun hHeld => ?_)
  clear hK K
  refine norm_ (a' := ?_) ?_ ?_
  rotate_left
  · show Act.put _ (some 13) _ = _
    simp only [Act.put, List.setIfInBounds_toArray, List.set_cons_zero, List.set_cons_succ, i64_w, i32_w]
    rfl
  refine one_ (i := 4) (N := some 14) #[true, true, true, true, true, false, false] rfl rfl (by kernel_rfl) (by decide) (fun K hK => ?_)
  refine goes_ Try.func93 (by kernel_rfl) rfl #[.pointer (some ⟨g769, 0, none⟩), .int .i64 t775] (by rfl) rfl rfl arr_ ?_
  with_reducible refine (spec_l12DrawLooks.calls k g769 t766 t772 t773 t775 t776 t779 t780 w _ ?side1 ?side2 A5.out).mono ?_
  (case side1 => repeat (first | (with_reducible first | exact HI769.out | apply IsS146.alloc | apply IsS146.drewN | apply IsS146.drew | apply IsS146.set_1 | apply IsS146.set_2 | refine IsS146.far ?_ NB769_765.out _ | refine IsS146.far ?_ NB769_774.out _) | exact HI769.out))
  (case side2 => repeat (first | (with_reducible first | exact HB.out | apply below_alloc | apply pw_below_drewN | apply below_drew1 | refine below_set ?_ (IsS146.ge HI769.out) | refine below_set ?_ GE765.out | refine below_set ?_ GE774.out) | exact HB.out))
  rintro e w15 ⟨v777, rfl, ho0, hi, hb, hk⟩
  refine ⟨_, rfl, ?_⟩
  have n0_ := Aside0.mk (KeepBut.blk hk (g' := gb765) (o := .cells #[.bool false, .int .i64 0] 66 (0, 0)) (bk_ BK765.out) NB765_769.out (by simp))
  have n1_ := Aside0.mk (KeepBut.blk hk (g' := gb774) (o := .cells #[.bool t770, .int .i64 t771] 66 (0, 0)) (bk_ BK774.out) NB774_769.out (by simp))
  have n2_ := Aside0.mk (Kd.R_lower ho0 (below_size (by repeat (first | (with_reducible first | exact HB.out | apply below_alloc | apply pw_below_drewN | apply below_drew1 | refine below_set ?_ (IsS146.ge HI769.out) | refine below_set ?_ GE765.out | refine below_set ?_ GE774.out) | exact HB.out))))
  have n3_ := Aside0.mk (hb)
  have n4_ := Aside0.mk (hi)
  clear BK765
  clear BK774
  clear HB
  clear HI769
  have BK765 := n0_
  have BK774 := n1_
  have HO778 := n2_
  have HB := n3_
  have HI769 := n4_
  clear n0_ n1_ n2_ n3_ n4_
  (try clear hb)
  (try clear hb2)
  (try clear hk)
  (try clear hi)
  (try clear ho0)
  refine hK.out _ _ ⟨(blk_cell BK774.out 0).trans rfl, (blk_cell BK774.out 1).trans rfl⟩ (fun hHeld => ?_)
  clear hK K
  refine norm_ (a' := ?_) ?_ ?_
  rotate_left
  · show Act.put _ (some 14) _ = _
    simp only [Act.put, List.setIfInBounds_toArray, List.set_cons_zero, List.set_cons_succ, i64_w, i32_w]
    rfl
  refine one_ (i := 5) (N := none) #[true, true, true, true, true, true, false] rfl rfl (by kernel_rfl) (by decide) (fun K hK => ?_)
  have hs16 : w15.cell? ⟨gb765, 0, none⟩ = some (.bool false) := (blk_cell BK765.out 0).trans rfl
  have hfs16 := blk_frozen BK765.out 0
  have hns16_1 := NB774_765.out
  have hms16_1 := NB765_774.out
  have hs17 : w15.cell? ⟨gb765, 1, none⟩ = some (.int .i64 0) := (blk_cell BK765.out 1).trans rfl
  have hfs17 := blk_frozen BK765.out 1
  have hns17_1 := NB774_765.out
  have hms17_1 := NB765_774.out
  refine skip_ (w1 := ?_) (by rfl) rfl ?_ ?_
  rotate_left
  · go_simp
    rfl
  refine hK.out _ _ ⟨((cell_far (p := ⟨gb765, _, none⟩) NB774_765.out _).trans (((cell_far (p := ⟨gb765, _, none⟩) NB774_765.out _).trans (hHeld.1)))), ((cell_far (p := ⟨gb765, _, none⟩) NB774_765.out _).trans (((cell_far (p := ⟨gb765, _, none⟩) NB774_765.out _).trans (hHeld.2))))⟩ (fun hHeld => ?_)
  clear hK K
  refine pure_ (i := 6) (N := some 3) (v := ?_) (a' := ?_) #[true, true, true, true, true, true, true] rfl rfl (by kernel_rfl) (fun _ _ _ h => h) (Or.inl ⟨by rfl, ?_⟩) ?_ ?_
  rotate_left
  · intro w'
    go_simp
    with_reducible rfl
  rotate_left
  · simp only [Act.put, List.setIfInBounds_toArray, List.set_cons_zero, List.set_cons_succ, i64_w, i32_w]
    rfl
  refine done_ (by kernel_rfl) ?_
  try go_wp2
  refine bodyPost_ret (results_ct rfl _ _ gb765 66 #[.bool t770, .int .i64 t771] (0, 0) _ rfl (by (with_reducible repeat (first | refine blk_drewN ?_ _ | refine blk_drew ?_ | refine blk_alloc ?_ _)); refine blk_put (cs := #[.bool t770, .int .i64 0]) ?_ 1 _ rfl; (with_reducible repeat (first | refine blk_drewN ?_ _ | refine blk_drew ?_ | refine blk_alloc ?_ _)); refine blk_put (cs := #[.bool false, .int .i64 0]) ?_ 0 _ rfl; (with_reducible repeat (first | refine blk_drewN ?_ _ | refine blk_drew ?_ | refine blk_alloc ?_ _)); exact BK765.out) Try.underlying66 rfl (by kernel_rfl)) rfl ?_
  exact ⟨_, er_, by (with_reducible repeat (first | apply Kd.R_alloc | apply Kd.R_drewN | apply Kd.R_drew)); exact Kd.R_mono (Kd.R_far (p := ⟨gb765, 1, none⟩) (Kd.R_far (p := ⟨gb765, 0, none⟩) (Kd.R_types HO778.out BK765.out (by decide)) (fun _ hk => hk.2) (.bool t770)) (fun _ hk => hk.2) (.int .i64 t771)) (fun _ hk => trivial), by repeat (first | (with_reducible first | exact HB.out | apply below_alloc | apply pw_below_drewN | apply below_drew1 | refine below_set ?_ (IsS146.ge HI769.out) | refine below_set ?_ GE765.out | refine below_set ?_ GE774.out) | exact HB.out)⟩
def spec_l1In.f (a0 : Int) (a1 : Int) (a2 : Int) : Option (Bool) := if a0 ≥ a1 then (some (decide (a0 ≤ a2))) else (some false)
set_option maxHeartbeats 8000000 in
set_option maxRecDepth 100000 in
theorem spec_l1In.calls (a0 : Int) (a1 : Int) (a2 : Int) (r : Bool) (w : World) (h : spec_l1In.f a0 a1 a2 = some r) :
    Calls Try.prog 65 #[.int .i64 a0, .int .i64 a1, .int .i64 a2] w fun e w' => e = .returned (.bool r) ∧ Drawn0 w w' := by
  have H : (if a0 ≥ a1 then (some (decide (a0 ≤ a2))) else (some false)) = some r := h
  clear h
  by_cases c4 : a0 ≥ a1
  · rw [if_pos c4] at H
    have c4b0 : decide (a1 ≤ a0) = true := decide_eq_true c4
    clear c4
    obtain rfl := Option.some.inj H
    go_enter Try.func65, Try.ntmps65
    go_wp2
    go_ret
    exact ⟨by first | rfl | (simp; done) | (simp [*]; done), by repeat (first | exact Drawn0.refl _ | apply Drawn0.step)⟩
  · rw [if_neg c4] at H
    have c4b0 : decide (a1 ≤ a0) = false := decide_eq_false c4
    clear c4
    obtain rfl := Option.some.inj H
    go_enter Try.func65, Try.ntmps65
    go_wp2
    go_ret
    exact ⟨by first | rfl | (simp; done) | (simp [*]; done), by repeat (first | exact Drawn0.refl _ | apply Drawn0.step)⟩
def spec_IvalOk.f (a0_0 : Int) (a0_1 : Int) : Option (Bool) := if a0_0 ≤ a0_1 then ((spec_l1In.f a0_0 (-1000000000000) 1000000000000).bind fun t527 => (if t527 = true then ((spec_l1In.f a0_1 (-1000000000000) 1000000000000).bind fun t528 => (some t528)) else (some false))) else (some false)
set_option maxHeartbeats 8000000 in
set_option maxRecDepth 100000 in
theorem spec_IvalOk.calls (a0_0 : Int) (a0_1 : Int) (r : Bool) (w : World) (h : spec_IvalOk.f a0_0 a0_1 = some r) :
    Calls Try.prog 49 #[.agg #[.int .i64 a0_0, .int .i64 a0_1]] w fun e w' => e = .returned (.bool r) ∧ Below w.heap.size w w' := by
  have hu81 := Try.underlying81
  have HB := Aside0.mk (Below.refl w.heap.size w)
  have H : (if a0_0 ≤ a0_1 then ((spec_l1In.f a0_0 (-1000000000000) 1000000000000).bind fun t527 => (if t527 = true then ((spec_l1In.f a0_1 (-1000000000000) 1000000000000).bind fun t528 => (some t528)) else (some false))) else (some false)) = some r := h
  clear h
  by_cases c2 : a0_0 ≤ a0_1
  · rw [if_pos c2] at H
    have c2b0 : decide (a0_0 ≤ a0_1) = true := decide_eq_true c2
    clear c2
    replace H := Option.bind_eq_some_iff.mp H
    obtain ⟨t527, A30, H⟩ := H
    replace H : (if t527 = true then ((spec_l1In.f a0_1 (-1000000000000) 1000000000000).bind fun t528 => (some t528)) else (some false)) = some r := H
    have A3 := Aside0.mk A30
    clear A30
    by_cases c4 : t527 = true
    · subst c4
      have H1 : ((spec_l1In.f a0_1 (-1000000000000) 1000000000000).bind fun t528 => (some t528)) = some r := by rw [if_pos rfl] at H; exact H
      clear H
      have H := H1
      clear H1
      replace H := Option.bind_eq_some_iff.mp H
      obtain ⟨t528, A50, H⟩ := H
      replace H : (some t528) = some r := H
      have A5 := Aside0.mk A50
      clear A50
      obtain rfl := Option.some.inj H
      go_enter Try.func49, Try.ntmps49
      go_wp2_with (first | ((with_reducible refine gate_dst (N := 1) rfl ?_); refine box_event ?hg (N := 1) ?hd (cs := #[.int .i64 a0_0, .int .i64 a0_1]) (t := 81) ?hr ?_; (case hd => rfl); (case hg => rfl); (case hr => first | (go_simp; done) | (go_simp; rfl)); intro gb526 hg w6 hbox hb; have n0_ := Aside0.mk (below_step (hb_ HB.out) hb); have n1_ := Aside0.mk (hbox); have n2_ := Aside0.mk ((by rw [hg]; exact (below_size (hb_ HB.out)) : w.heap.size ≤ gb526)); have n3_ := Aside0.mk ((by rw [hg]; exact (below_size (hb_ HB.out)) : w.heap.size ≤ gb526)); clear HB; have HB := n0_; have BK526 := n1_; have GW526 := n2_; have GE526 := n3_; clear n0_ n1_ n2_ n3_; clear hb hbox hg; have hcz7_0 := bc_ BK526.out 0 (.int .i64 a0_0) rfl; have hcz7_1 := bc_ BK526.out 1 (.int .i64 a0_1) rfl; have hfz7_0 := blk_frozen BK526.out 0; have hfz7_1 := blk_frozen BK526.out 1) | (go_at_call 65; (with_reducible refine (spec_l1In.calls a0_0 (-1000000000000) 1000000000000 true _ A3.out).mono ?_); rintro e w' ⟨rfl, ⟨nd, rfl⟩⟩) | (go_at_call 65; (with_reducible refine (spec_l1In.calls a0_1 (-1000000000000) 1000000000000 t528 _ A5.out).mono ?_); rintro e w' ⟨rfl, ⟨nd, rfl⟩⟩))
      go_ret
      exact ⟨er_, hb1_ HB.out GE526.out⟩
    · replace c4 := Bool.eq_false_iff.mpr c4
      subst c4
      have H1 : (some false) = some r := by rw [if_neg (show ¬ (false = true) by decide)] at H; exact H
      clear H
      have H := H1
      clear H1
      obtain rfl := Option.some.inj H
      go_enter Try.func49, Try.ntmps49
      go_wp2_with (first | ((with_reducible refine gate_dst (N := 1) rfl ?_); refine box_event ?hg (N := 1) ?hd (cs := #[.int .i64 a0_0, .int .i64 a0_1]) (t := 81) ?hr ?_; (case hd => rfl); (case hg => rfl); (case hr => first | (go_simp; done) | (go_simp; rfl)); intro gb526 hg w8 hbox hb; have n0_ := Aside0.mk (below_step (hb_ HB.out) hb); have n1_ := Aside0.mk (hbox); have n2_ := Aside0.mk ((by rw [hg]; exact (below_size (hb_ HB.out)) : w.heap.size ≤ gb526)); have n3_ := Aside0.mk ((by rw [hg]; exact (below_size (hb_ HB.out)) : w.heap.size ≤ gb526)); clear HB; have HB := n0_; have BK526 := n1_; have GW526 := n2_; have GE526 := n3_; clear n0_ n1_ n2_ n3_; clear hb hbox hg; have hcz9_0 := bc_ BK526.out 0 (.int .i64 a0_0) rfl; have hcz9_1 := bc_ BK526.out 1 (.int .i64 a0_1) rfl; have hfz9_0 := blk_frozen BK526.out 0; have hfz9_1 := blk_frozen BK526.out 1) | (go_at_call 65; (with_reducible refine (spec_l1In.calls a0_0 (-1000000000000) 1000000000000 false _ A3.out).mono ?_); rintro e w' ⟨rfl, ⟨nd, rfl⟩⟩))
      go_ret
      exact ⟨er_, hb1_ HB.out GE526.out⟩
  · rw [if_neg c2] at H
    have c2b0 : decide (a0_0 ≤ a0_1) = false := decide_eq_false c2
    clear c2
    obtain rfl := Option.some.inj H
    go_enter Try.func49, Try.ntmps49
    go_wp2_with (first | ((with_reducible refine gate_dst (N := 1) rfl ?_); refine box_event ?hg (N := 1) ?hd (cs := #[.int .i64 a0_0, .int .i64 a0_1]) (t := 81) ?hr ?_; (case hd => rfl); (case hg => rfl); (case hr => first | (go_simp; done) | (go_simp; rfl)); intro gb526 hg w10 hbox hb; have n0_ := Aside0.mk (below_step (hb_ HB.out) hb); have n1_ := Aside0.mk (hbox); have n2_ := Aside0.mk ((by rw [hg]; exact (below_size (hb_ HB.out)) : w.heap.size ≤ gb526)); have n3_ := Aside0.mk ((by rw [hg]; exact (below_size (hb_ HB.out)) : w.heap.size ≤ gb526)); clear HB; have HB := n0_; have BK526 := n1_; have GW526 := n2_; have GE526 := n3_; clear n0_ n1_ n2_ n3_; clear hb hbox hg; have hcz11_0 := bc_ BK526.out 0 (.int .i64 a0_0) rfl; have hcz11_1 := bc_ BK526.out 1 (.int .i64 a0_1) rfl; have hfz11_0 := blk_frozen BK526.out 0; have hfz11_1 := blk_frozen BK526.out 1))
    go_ret
    exact ⟨er_, hb1_ HB.out GE526.out⟩
def impl_Holds.f (a0_0 : Int) (a0_1 : Int) (a1 : Int) : Option (Bool) := (impl_IvalOk.f a0_0 a0_1).bind fun t782 => (if t782 = true then ((impl_in.f a1 a0_0 a0_1).bind fun t783 => (some t783)) else (some false))
set_option maxHeartbeats 8000000 in
set_option maxRecDepth 100000 in
theorem impl_Holds.calls (a0_0 : Int) (a0_1 : Int) (a1 : Int) (r : Bool) (w : World) (h : impl_Holds.f a0_0 a0_1 a1 = some r) :
    Calls Try.prog 56 #[.agg #[.int .i64 a0_0, .int .i64 a0_1], .int .i64 a1] w fun e w' => e = .returned (.bool r) ∧ Below w.heap.size w w' := by
  have hu81 := Try.underlying81
  have HB := Aside0.mk (Below.refl w.heap.size w)
  have H : ((impl_IvalOk.f a0_0 a0_1).bind fun t782 => (if t782 = true then ((impl_in.f a1 a0_0 a0_1).bind fun t783 => (some t783)) else (some false))) = some r := h
  clear h
  replace H := Option.bind_eq_some_iff.mp H
  obtain ⟨t782, A30, H⟩ := H
  replace H : (if t782 = true then ((impl_in.f a1 a0_0 a0_1).bind fun t783 => (some t783)) else (some false)) = some r := H
  have A3 := Aside0.mk A30
  clear A30
  by_cases c4 : t782 = true
  · subst c4
    have H1 : ((impl_in.f a1 a0_0 a0_1).bind fun t783 => (some t783)) = some r := by rw [if_pos rfl] at H; exact H
    clear H
    have H := H1
    clear H1
    replace H := Option.bind_eq_some_iff.mp H
    obtain ⟨t783, A50, H⟩ := H
    replace H : (some t783) = some r := H
    have A5 := Aside0.mk A50
    clear A50
    obtain rfl := Option.some.inj H
    go_enter Try.func56, Try.ntmps56
    go_wp2_with (first | ((with_reducible refine gate_dst (N := 2) rfl ?_); refine box_event ?hg (N := 2) ?hd (cs := #[.int .i64 a0_0, .int .i64 a0_1]) (t := 81) ?hr ?_; (case hd => rfl); (case hg => rfl); (case hr => first | (go_simp; done) | (go_simp; rfl)); intro gb781 hg w6 hbox hb; have n0_ := Aside0.mk (below_step (hb_ HB.out) hb); have n1_ := Aside0.mk (hbox); have n2_ := Aside0.mk ((by rw [hg]; exact (below_size (hb_ HB.out)) : w.heap.size ≤ gb781)); have n3_ := Aside0.mk ((by rw [hg]; exact (below_size (hb_ HB.out)) : w.heap.size ≤ gb781)); clear HB; have HB := n0_; have BK781 := n1_; have GW781 := n2_; have GE781 := n3_; clear n0_ n1_ n2_ n3_; clear hb hbox hg; have hcz7_0 := bc_ BK781.out 0 (.int .i64 a0_0) rfl; have hcz7_1 := bc_ BK781.out 1 (.int .i64 a0_1) rfl; have hfz7_0 := blk_frozen BK781.out 0; have hfz7_1 := blk_frozen BK781.out 1) | ((with_reducible refine gate_callee (f := 94) rfl ?_); refine goesL_ (some 6) rfl rfl Try.func94 (by kernel_rfl) rfl #[.agg #[.int .i64 a0_0, .int .i64 a0_1]] rfl arr_ ?_; (with_reducible refine (impl_IvalOk.calls a0_0 a0_1 true _ A3.out).mono ?_); rintro e w8 ⟨rfl, hb⟩; refine ⟨_, rfl, ?_⟩; have n0_ := Aside0.mk (bb_ BK781.out hb); have n1_ := Aside0.mk (below_step (hb1_ HB.out GE781.out) hb); clear BK781; clear HB; have BK781 := n0_; have HB := n1_; clear n0_ n1_; (try clear hb); (try clear hb2); (try clear hk); (try clear hi); have hcz9_0 := bc_ BK781.out 0 (.int .i64 a0_0) rfl; have hcz9_1 := bc_ BK781.out 1 (.int .i64 a0_1) rfl; have hfz9_0 := blk_frozen BK781.out 0; have hfz9_1 := blk_frozen BK781.out 1) | (go_at_call 67; (with_reducible refine (impl_in.calls a1 a0_0 a0_1 t783 _ A5.out).mono ?_); rintro e w' ⟨rfl, ⟨nd, rfl⟩⟩))
    go_ret
    exact ⟨er_, hb1_ HB.out GE781.out⟩
  · replace c4 := Bool.eq_false_iff.mpr c4
    subst c4
    have H1 : (some false) = some r := by rw [if_neg (show ¬ (false = true) by decide)] at H; exact H
    clear H
    have H := H1
    clear H1
    obtain rfl := Option.some.inj H
    go_enter Try.func56, Try.ntmps56
    go_wp2_with (first | ((with_reducible refine gate_dst (N := 2) rfl ?_); refine box_event ?hg (N := 2) ?hd (cs := #[.int .i64 a0_0, .int .i64 a0_1]) (t := 81) ?hr ?_; (case hd => rfl); (case hg => rfl); (case hr => first | (go_simp; done) | (go_simp; rfl)); intro gb781 hg w10 hbox hb; have n0_ := Aside0.mk (below_step (hb_ HB.out) hb); have n1_ := Aside0.mk (hbox); have n2_ := Aside0.mk ((by rw [hg]; exact (below_size (hb_ HB.out)) : w.heap.size ≤ gb781)); have n3_ := Aside0.mk ((by rw [hg]; exact (below_size (hb_ HB.out)) : w.heap.size ≤ gb781)); clear HB; have HB := n0_; have BK781 := n1_; have GW781 := n2_; have GE781 := n3_; clear n0_ n1_ n2_ n3_; clear hb hbox hg; have hcz11_0 := bc_ BK781.out 0 (.int .i64 a0_0) rfl; have hcz11_1 := bc_ BK781.out 1 (.int .i64 a0_1) rfl; have hfz11_0 := blk_frozen BK781.out 0; have hfz11_1 := blk_frozen BK781.out 1) | ((with_reducible refine gate_callee (f := 94) rfl ?_); refine goesL_ (some 6) rfl rfl Try.func94 (by kernel_rfl) rfl #[.agg #[.int .i64 a0_0, .int .i64 a0_1]] rfl arr_ ?_; (with_reducible refine (impl_IvalOk.calls a0_0 a0_1 false _ A3.out).mono ?_); rintro e w12 ⟨rfl, hb⟩; refine ⟨_, rfl, ?_⟩; have n0_ := Aside0.mk (bb_ BK781.out hb); have n1_ := Aside0.mk (below_step (hb1_ HB.out GE781.out) hb); clear BK781; clear HB; have BK781 := n0_; have HB := n1_; clear n0_ n1_; (try clear hb); (try clear hb2); (try clear hk); (try clear hi)))
    go_ret
    exact ⟨er_, hb1_ HB.out GE781.out⟩
end Go.Proofs.Ytcgdnfaclbnflaa.P
namespace Go.Proofs.Ytcgdnfaclbnflaa.P
open Go.RowKit Go.Proofs.YtcgdnfaclbnflaaW.PrintWords Go.Proofs.YtcgdnfaclbnflaaW.PrintLast Go.Proofs.YtcgdnfaclbnflaaW.PrintMore
attribute [local go_sem] max2_int min2_int max_two min_two max_three min_three max_four min_four
set_option linter.unusedVariables false
set_option linter.unusedSimpArgs false
mutual
def impl_ReadsOk.j0 : Nat → List (S83) → List (S88) → Bool → Option (Bool)
  | 0, _, _, _ => none
  | k + 1, x0, x1, x20 => if x20 = true then (some false) else (impl_ReadsOk.l0 k x1 false 0 x0 (x0.length : Int) 0)
def impl_ReadsOk.l0 : Nat → List (S88) → Bool → Int → List (S83) → Int → Int → Option (Bool)
  | 0, _, _, _, _, _, _ => none
  | k + 1, x1, x5, x6, x21, x22, x23 => if x23 < x22 then (if 0 ≤ x23 then (if x23 < (x21.length : Int) then (if x23 < (x1.length : Int) then (if (rd_T83 x21 x23).f0 = true then ((impl_IvalOk.f ((rd_T83 x21 x23).f1.f0) ((rd_T83 x21 x23).f1.f1)).bind fun t810 => (impl_ReadsOk.j2 k x1 x5 x6 x21 x22 x23 (!t810) ((rd_T83 x21 x23).f0) ((rd_T83 x21 x23).f1.f0) ((rd_T83 x21 x23).f1.f1) ((rd_T88 x1 x23).f0) ((rd_T88 x1 x23).f1) ((rd_T88 x1 x23).f2))) else (impl_ReadsOk.j2 k x1 x5 x6 x21 x22 x23 false ((rd_T83 x21 x23).f0) ((rd_T83 x21 x23).f1.f0) ((rd_T83 x21 x23).f1.f1) ((rd_T88 x1 x23).f0) ((rd_T88 x1 x23).f1) ((rd_T88 x1 x23).f2))) else (none)) else (none)) else (none)) else (some true)
def impl_ReadsOk.j2 : Nat → List (S88) → Bool → Int → List (S83) → Int → Int → Bool → Bool → Int → Int → Int → Bool → Int → Option (Bool)
  | 0, _, _, _, _, _, _, _, _, _, _, _, _, _ => none
  | k + 1, x1, x5, x6, x21, x22, x23, x39, x808000, x808001, x808002, x810000, x810001, x810002 => if x39 = true then (some false) else (if x810002 = 2 then (if x808000 = true then (some false) else (if x5 = true then (some false) else (if x810000 = 0 then (if x810001 = false then (impl_ReadsOk.l0 k x1 x5 x6 x21 x22 (wrap64 (x23 + 1))) else (some false)) else (some false)))) else (if x808000 = true then (if x810001 = true then (if x810002 = 0 then (if x5 = true then (if x810000 = x6 then (if x810000 > x808002 then (impl_ReadsOk.l0 k x1 true x810000 x21 x22 (wrap64 (x23 + 1))) else (some false)) else (some false)) else (some false)) else (some false)) else (if x810002 = 0 then ((impl_Holds.f x808001 x808002 x810000).bind fun t811 => (if t811 = true then (if x5 = true then (if x810000 ≥ x6 then (impl_ReadsOk.l0 k x1 true x810000 x21 x22 (wrap64 (x23 + 1))) else (some false)) else (impl_ReadsOk.l0 k x1 true x810000 x21 x22 (wrap64 (x23 + 1)))) else (some false))) else (some false))) else (if x810002 = 0 then (if x810001 = true then (if x5 = true then (if x810000 = x6 then (impl_ReadsOk.l0 k x1 true x810000 x21 x22 (wrap64 (x23 + 1))) else (some false)) else (some false)) else (some false)) else (some false))))
end
def impl_ReadsOk.f (k : Nat) (l0 : List (S83)) (l1 : List (S88)) : Option (Bool) := if (l0.length : Int) > 200 then (impl_ReadsOk.j0 k l0 l1 true) else (impl_ReadsOk.j0 k l0 l1 ((l1.length : Int) != (l0.length : Int)))
set_option maxHeartbeats 8000000 in
set_option maxRecDepth 100000 in
theorem impl_ReadsOk.calls (k : Nat) (A0 : Option Addr) (c0 : Nat) (l0 : List (S83)) (A1 : Option Addr) (c1 : Nat) (l1 : List (S88)) (r : Bool) (w : World) (hr0 : Kd.C k83 w A0 l0.length l0) (hc0 : l0.length ≤ c0) (hr1 : Kd.C k88 w A1 l1.length l1) (hc1 : l1.length ≤ c1) (h : impl_ReadsOk.f k l0 l1 = some r) :
    Calls Try.prog 50 #[.slice A0 l0.length c0, .slice A1 l1.length c1] w fun e w' => e = .returned (.bool r) ∧ Below w.heap.size w w' := by
  have hu83 := Try.underlying83
  have hu88 := Try.underlying88
  have hu81 := Try.underlying81
  have HR0 := Aside0.mk hr0
  have HC0 := Aside0.mk hc0
  clear hr0 hc0
  have HR1 := Aside0.mk hr1
  have HC1 := Aside0.mk hc1
  clear hr1 hc1
  have HB := Aside0.mk (Below.refl w.heap.size w)
  have H : (if (l0.length : Int) > 200 then (impl_ReadsOk.j0 k l0 l1 true) else (impl_ReadsOk.j0 k l0 l1 ((l1.length : Int) != (l0.length : Int)))) = some r := h
  clear h
  have HC3 := Aside0.mk H
  clear H
  go_enter Try.func50, Try.ntmps50
  go_upto_region 1 with (fail)
  repeat (go_quiet (fail); go_upto_region 1 with (fail))
  go_cut [20] (fun v20 wc => ∃ (kq : Nat) (x20_2 : Bool), v20 = .bool x20_2 ∧ Aside0 (impl_ReadsOk.j0 kq l0 l1 x20_2 = some r) ∧ Aside0 (kq ≤ k) ∧ Aside0 (Below w.heap.size w wc))
  case first =>
    have H := HC3.out
    clear HC3
    by_cases c4 : (l0.length : Int) > 200
    · rw [if_pos c4] at H
      have c4b0 : decide (200 < (l0.length : Int)) = true := decide_eq_true c4
      have c4b1 : decide (200 < l0.length) = true := decide_eq_true (by omega)
      clear c4
      (first | rw [c4b0] | (simp only [i64_w, i32_w]; rw [c4b0]) | skip)
      have H' := Aside0.mk H
      clear H
      go_wp2
      repeat (go_quiet (fail); try go_wp2)
      go_meet
      case rel => exact ⟨_, (true), (by first | rfl | (simp; done) | (simp [*]; done)), H', ⟨by first | omega | exact Nat.le_refl _⟩, ⟨hb_ HB.out⟩⟩
    · rw [if_neg c4] at H
      have c4b0 : decide (200 < (l0.length : Int)) = false := decide_eq_false c4
      have c4b1 : decide (200 < l0.length) = false := decide_eq_false (by omega)
      clear c4
      (first | rw [c4b0] | (simp only [i64_w, i32_w]; rw [c4b0]) | skip)
      have H' := Aside0.mk H
      clear H
      go_wp2
      repeat (go_quiet (fail); try go_wp2)
      go_meet
      case rel => exact ⟨_, (((l1.length : Int) != (l0.length : Int))), (by first | rfl | (simp; done) | (simp [*]; done)), H', ⟨by first | omega | exact Nat.le_refl _⟩, ⟨hb_ HB.out⟩⟩
  case rest =>
    clear HC3
    try clear c1
    try clear p2
    try clear c4
    try clear c4b0
    try clear c4b1
    obtain ⟨kq, x20_2, rfl, HA, HJ2, HB⟩ := hcut
    cases kq with
    | zero => exact absurd HA.out (by simp [impl_ReadsOk.j0])
    | succ kj2 =>
      have H := HA.out
      clear HA
      simp only [impl_ReadsOk.j0] at H
      by_cases c5 : x20_2 = true
      · subst c5
        have H1 : (some false) = some r := by rw [if_pos rfl] at H; exact H
        clear H
        have H := H1
        clear H1
        obtain rfl := Option.some.inj H
        go_wp2
        repeat (go_quiet (fail); try go_wp2)
        go_ret
        exact ⟨er_, hb_ HB.out⟩
      · replace c5 := Bool.eq_false_iff.mpr c5
        subst c5
        have H1 : (impl_ReadsOk.l0 kj2 l1 false 0 l0 (l0.length : Int) 0) = some r := by rw [if_neg (show ¬ (false = true) by decide)] at H; exact H
        clear H
        have H := H1
        clear H1
        have H' := Aside0.mk H
        clear H
        go_wp2
        repeat (go_quiet (fail); try go_wp2)
        go_loopg [5, 6, 23] kj2 (fun kq v5 v6 v23 w' => ∃ (x5_2 : Bool) (x6_2 : Int) (x23_2 : Int), v5 = .bool x5_2 ∧ v6 = .int .i64 x6_2 ∧ v23 = .int .i64 x23_2 ∧ Aside0 (impl_ReadsOk.l0 kq l1 x5_2 x6_2 l0 (l0.length : Int) x23_2 = some r) ∧ Aside0 (kq ≤ kj2) ∧ Aside0 (Below w.heap.size w w'))
        case atStart => exact ⟨(false), (0), (0), (by first | rfl | (simp; done) | (simp [*]; done)), (by first | rfl | (simp; done) | (simp [*]; done)), (by first | rfl | (simp; done) | (simp [*]; done)), H', ⟨Nat.le_refl _⟩, ⟨hb_ HB.out⟩⟩
        case round =>
          clear H'
          try clear c1
          try clear p2
          try clear c4
          try clear c4b0
          try clear c4b1
          try clear c5
          try clear p2
          obtain ⟨x5_2, x6_2, x23_2, rfl, rfl, rfl, HA, HK2, HB⟩ := hrel
          cases gk with
          | zero => exact absurd HA.out (by simp [impl_ReadsOk.l0])
          | succ k2 =>
            have H := HA.out
            clear HA
            simp only [impl_ReadsOk.l0] at H
            by_cases c6 : x23_2 < (l0.length : Int)
            · rw [if_pos c6] at H
              have c6b0 : decide (x23_2 < (l0.length : Int)) = true := decide_eq_true c6
              clear c6
              by_cases c7 : 0 ≤ x23_2
              · rw [if_pos c7] at H
                have c7b0 : decide (0 ≤ x23_2) = true := decide_eq_true c7
                clear c7
                by_cases c8 : x23_2 < (l0.length : Int)
                · rw [if_pos c8] at H
                  have c8b0 : decide (x23_2 < (l0.length : Int)) = true := decide_eq_true c8
                  clear c8
                  by_cases c9 : x23_2 < (l1.length : Int)
                  · rw [if_pos c9] at H
                    have c9b0 : decide (x23_2 < (l1.length : Int)) = true := decide_eq_true c9
                    clear c9
                    have HC10 := Aside0.mk H
                    clear H
                    have p806 : 0 ≤ (x23_2 : Int) := of_decide_eq_true (by first | (with_reducible assumption) | assumption)
                    have q806 : x23_2 < (l0.length : Int) := of_decide_eq_true (by first | (with_reducible assumption) | assumption)
                    obtain ⟨ad806, e806, hx806_0, hx806_1, hx806_2⟩ := at_T83 HR0.out x23_2 p806 q806
                    cases e806
                    replace hx806_0 := (HB.out.cell (World.block_lt_of_cell? w _ hx806_0)).trans hx806_0
                    replace hx806_1 := (HB.out.cell (World.block_lt_of_cell? w _ hx806_1)).trans hx806_1
                    replace hx806_2 := (HB.out.cell (World.block_lt_of_cell? w _ hx806_2)).trans hx806_2
                    replace p806 := eq_true p806
                    replace q806 := eq_true q806
                    go_upto_region 8 with (first | ((with_reducible refine gate_dst (N := 8) rfl ?_); (try (refine gate_guard (by rfl) ?_; dsimp only)); refine box_event ?hg (N := 8) ?hd (cs := #[.bool false, .int .i64 0, .int .i64 0]) (t := 83) ?hr ?_; (case hd => rfl); (case hg => rfl); (case hr => first | (go_simp; done) | (go_simp; rfl)); intro gb807 hg w11 hbox hb; have n0_ := Aside0.mk (below_step (hb_ HB.out) hb); have n1_ := Aside0.mk (hbox); have n2_ := Aside0.mk ((by rw [hg]; exact (below_size (hb_ HB.out)) : w.heap.size ≤ gb807)); have n3_ := Aside0.mk ((by rw [hg]; exact (below_size (hb_ HB.out)) : w.heap.size ≤ gb807)); clear HB; have HB := n0_; have BK807 := n1_; have GW807 := n2_; have GE807 := n3_; clear n0_ n1_ n2_ n3_; clear hb hbox hg; have hcz12_0 := bc_ BK807.out 0 (.bool false) rfl; have hcz12_1 := bc_ BK807.out 1 (.int .i64 0) rfl; have hcz12_2 := bc_ BK807.out 2 (.int .i64 0) rfl; have hfz12_0 := blk_frozen BK807.out 0; have hfz12_1 := blk_frozen BK807.out 1; have hfz12_2 := blk_frozen BK807.out 2; have p808 : 0 ≤ (x23_2 : Int) := of_decide_eq_true (by first | (with_reducible assumption) | assumption); have q808 : x23_2 < (l1.length : Int) := of_decide_eq_true (by first | (with_reducible assumption) | assumption); obtain ⟨ad808, e808, hx808_0, hx808_1, hx808_2⟩ := at_T88 HR1.out x23_2 p808 q808; cases e808; have hn808_0 : ad808.block ≠ gb807 := Nat.ne_of_lt (Nat.lt_of_lt_of_le (by have := World.block_lt_of_cell? _ _ hx808_0; first | rwa [add_block] at this | exact this) GW807.out); have hn808_1 : ad808.block ≠ gb807 := Nat.ne_of_lt (Nat.lt_of_lt_of_le (by have := World.block_lt_of_cell? _ _ hx808_0; first | rwa [add_block] at this | exact this) GW807.out); have hn808_2 : ad808.block ≠ gb807 := Nat.ne_of_lt (Nat.lt_of_lt_of_le (by have := World.block_lt_of_cell? _ _ hx808_0; first | rwa [add_block] at this | exact this) GW807.out); replace hx808_0 := (HB.out.cell (World.block_lt_of_cell? w _ hx808_0)).trans hx808_0; replace hx808_1 := (HB.out.cell (World.block_lt_of_cell? w _ hx808_1)).trans hx808_1; replace hx808_2 := (HB.out.cell (World.block_lt_of_cell? w _ hx808_2)).trans hx808_2; replace hx808_0 := (cell_far (p := ⟨gb807, 0, none⟩) (by first | (rw [add_block]; exact hn808_0) | (show (Addr.add _ _).block ≠ _; rw [add_block]; exact hn808_0) | exact hn808_0) (.bool ((rd_T83 l0 x23_2).f0))).trans hx808_0; replace hx808_1 := (cell_far (p := ⟨gb807, 0, none⟩) (by first | (rw [add_block]; exact hn808_0) | (show (Addr.add _ _).block ≠ _; rw [add_block]; exact hn808_0) | exact hn808_0) (.bool ((rd_T83 l0 x23_2).f0))).trans hx808_1; replace hx808_2 := (cell_far (p := ⟨gb807, 0, none⟩) (by first | (rw [add_block]; exact hn808_0) | (show (Addr.add _ _).block ≠ _; rw [add_block]; exact hn808_0) | exact hn808_0) (.bool ((rd_T83 l0 x23_2).f0))).trans hx808_2; replace hx808_0 := (cell_far (p := ⟨gb807, 1, none⟩) (by first | (rw [add_block]; exact hn808_1) | (show (Addr.add _ _).block ≠ _; rw [add_block]; exact hn808_1) | exact hn808_1) (.int .i64 ((rd_T83 l0 x23_2).f1.f0))).trans hx808_0; replace hx808_1 := (cell_far (p := ⟨gb807, 1, none⟩) (by first | (rw [add_block]; exact hn808_1) | (show (Addr.add _ _).block ≠ _; rw [add_block]; exact hn808_1) | exact hn808_1) (.int .i64 ((rd_T83 l0 x23_2).f1.f0))).trans hx808_1; replace hx808_2 := (cell_far (p := ⟨gb807, 1, none⟩) (by first | (rw [add_block]; exact hn808_1) | (show (Addr.add _ _).block ≠ _; rw [add_block]; exact hn808_1) | exact hn808_1) (.int .i64 ((rd_T83 l0 x23_2).f1.f0))).trans hx808_2; replace hx808_0 := (cell_far (p := ⟨gb807, 2, none⟩) (by first | (rw [add_block]; exact hn808_2) | (show (Addr.add _ _).block ≠ _; rw [add_block]; exact hn808_2) | exact hn808_2) (.int .i64 ((rd_T83 l0 x23_2).f1.f1))).trans hx808_0; replace hx808_1 := (cell_far (p := ⟨gb807, 2, none⟩) (by first | (rw [add_block]; exact hn808_2) | (show (Addr.add _ _).block ≠ _; rw [add_block]; exact hn808_2) | exact hn808_2) (.int .i64 ((rd_T83 l0 x23_2).f1.f1))).trans hx808_1; replace hx808_2 := (cell_far (p := ⟨gb807, 2, none⟩) (by first | (rw [add_block]; exact hn808_2) | (show (Addr.add _ _).block ≠ _; rw [add_block]; exact hn808_2) | exact hn808_2) (.int .i64 ((rd_T83 l0 x23_2).f1.f1))).trans hx808_2; (try have hy808_0 := fun (n_ : Nat) => (show (((((w11.drewN n_).setCell ⟨gb807, 0, none⟩ (.bool ((rd_T83 l0 x23_2).f0))).setCell ⟨gb807, 1, none⟩ (.int .i64 ((rd_T83 l0 x23_2).f1.f0))).setCell ⟨gb807, 2, none⟩ (.int .i64 ((rd_T83 l0 x23_2).f1.f1)))).cell? _ = some _ from hx808_0)); (try have hy808_1 := fun (n_ : Nat) => (show (((((w11.drewN n_).setCell ⟨gb807, 0, none⟩ (.bool ((rd_T83 l0 x23_2).f0))).setCell ⟨gb807, 1, none⟩ (.int .i64 ((rd_T83 l0 x23_2).f1.f0))).setCell ⟨gb807, 2, none⟩ (.int .i64 ((rd_T83 l0 x23_2).f1.f1)))).cell? _ = some _ from hx808_1)); (try have hy808_2 := fun (n_ : Nat) => (show (((((w11.drewN n_).setCell ⟨gb807, 0, none⟩ (.bool ((rd_T83 l0 x23_2).f0))).setCell ⟨gb807, 1, none⟩ (.int .i64 ((rd_T83 l0 x23_2).f1.f0))).setCell ⟨gb807, 2, none⟩ (.int .i64 ((rd_T83 l0 x23_2).f1.f1)))).cell? _ = some _ from hx808_2)); clear hn808_0; clear hn808_1; clear hn808_2; replace p808 := eq_true p808; replace q808 := eq_true q808) | ((with_reducible refine gate_dst (N := 9) rfl ?_); (try (refine gate_guard (by rfl) ?_; dsimp only)); refine box_event ?hg (N := 9) ?hd (cs := #[.int .i64 0, .bool false, .int .i64 0]) (t := 88) ?hr ?_; (case hd => rfl); (case hg => rfl); (case hr => first | (go_simp; done) | (go_simp; rfl)); intro gb809 hg w13 hbox hb; have n0_ := Aside0.mk (blk_below (g := gb807) (o := .cells #[.bool ((rd_T83 l0 x23_2).f0), .int .i64 ((rd_T83 l0 x23_2).f1.f0), .int .i64 ((rd_T83 l0 x23_2).f1.f1)] 83 (0, 0)) (by (with_reducible repeat (first | refine blk_drewN ?_ _ | refine blk_drew ?_ | refine blk_alloc ?_ _)); refine blk_put (cs := #[.bool ((rd_T83 l0 x23_2).f0), .int .i64 ((rd_T83 l0 x23_2).f1.f0), .int .i64 0]) ?_ 2 _ rfl; (with_reducible repeat (first | refine blk_drewN ?_ _ | refine blk_drew ?_ | refine blk_alloc ?_ _)); refine blk_put (cs := #[.bool ((rd_T83 l0 x23_2).f0), .int .i64 0, .int .i64 0]) ?_ 1 _ rfl; (with_reducible repeat (first | refine blk_drewN ?_ _ | refine blk_drew ?_ | refine blk_alloc ?_ _)); refine blk_put (cs := #[.bool false, .int .i64 0, .int .i64 0]) ?_ 0 _ rfl; (with_reducible repeat (first | refine blk_drewN ?_ _ | refine blk_drew ?_ | refine blk_alloc ?_ _)); exact BK807.out) hb); have n1_ := Aside0.mk (below_step (hb1_ HB.out GE807.out) hb); have n2_ := Aside0.mk (hbox); have n3_ := Aside0.mk ((by rw [hg]; exact (below_size (hb1_ HB.out GE807.out)) : w.heap.size ≤ gb809)); have n4_ := Aside0.mk ((by rw [hg]; exact (below_size (hb1_ HB.out GE807.out)) : w.heap.size ≤ gb809)); have n5_ := Aside0.mk ((by rw [hg]; exact Nat.ne_of_lt (blk_lt (g := gb807) (o := .cells #[.bool ((rd_T83 l0 x23_2).f0), .int .i64 ((rd_T83 l0 x23_2).f1.f0), .int .i64 ((rd_T83 l0 x23_2).f1.f1)] 83 (0, 0)) (by (with_reducible repeat (first | refine blk_drewN ?_ _ | refine blk_drew ?_ | refine blk_alloc ?_ _)); refine blk_put (cs := #[.bool ((rd_T83 l0 x23_2).f0), .int .i64 ((rd_T83 l0 x23_2).f1.f0), .int .i64 0]) ?_ 2 _ rfl; (with_reducible repeat (first | refine blk_drewN ?_ _ | refine blk_drew ?_ | refine blk_alloc ?_ _)); refine blk_put (cs := #[.bool ((rd_T83 l0 x23_2).f0), .int .i64 0, .int .i64 0]) ?_ 1 _ rfl; (with_reducible repeat (first | refine blk_drewN ?_ _ | refine blk_drew ?_ | refine blk_alloc ?_ _)); refine blk_put (cs := #[.bool false, .int .i64 0, .int .i64 0]) ?_ 0 _ rfl; (with_reducible repeat (first | refine blk_drewN ?_ _ | refine blk_drew ?_ | refine blk_alloc ?_ _)); exact BK807.out)) : gb807 ≠ gb809)); have n6_ := Aside0.mk ((by rw [hg]; exact Nat.ne_of_gt (blk_lt (g := gb807) (o := .cells #[.bool ((rd_T83 l0 x23_2).f0), .int .i64 ((rd_T83 l0 x23_2).f1.f0), .int .i64 ((rd_T83 l0 x23_2).f1.f1)] 83 (0, 0)) (by (with_reducible repeat (first | refine blk_drewN ?_ _ | refine blk_drew ?_ | refine blk_alloc ?_ _)); refine blk_put (cs := #[.bool ((rd_T83 l0 x23_2).f0), .int .i64 ((rd_T83 l0 x23_2).f1.f0), .int .i64 0]) ?_ 2 _ rfl; (with_reducible repeat (first | refine blk_drewN ?_ _ | refine blk_drew ?_ | refine blk_alloc ?_ _)); refine blk_put (cs := #[.bool ((rd_T83 l0 x23_2).f0), .int .i64 0, .int .i64 0]) ?_ 1 _ rfl; (with_reducible repeat (first | refine blk_drewN ?_ _ | refine blk_drew ?_ | refine blk_alloc ?_ _)); refine blk_put (cs := #[.bool false, .int .i64 0, .int .i64 0]) ?_ 0 _ rfl; (with_reducible repeat (first | refine blk_drewN ?_ _ | refine blk_drew ?_ | refine blk_alloc ?_ _)); exact BK807.out)) : gb809 ≠ gb807)); clear BK807; clear HB; have BK807 := n0_; have HB := n1_; have BK809 := n2_; have GW809 := n3_; have GE809 := n4_; have NB807_809 := n5_; have NB809_807 := n6_; clear n0_ n1_ n2_ n3_ n4_ n5_ n6_; clear hb hbox hg; have hnb14 := NB809_807.out; have hnc14 := NB807_809.out; have hcz15_0 := bc_ BK809.out 0 (.int .i64 0) rfl; have hcz15_1 := bc_ BK809.out 1 (.bool false) rfl; have hcz15_2 := bc_ BK809.out 2 (.int .i64 0) rfl; have hfz15_0 := blk_frozen BK809.out 0; have hfz15_1 := blk_frozen BK809.out 1; have hfz15_2 := blk_frozen BK809.out 2))
                    repeat (go_quiet (first | ((with_reducible refine gate_dst (N := 8) rfl ?_); (try (refine gate_guard (by rfl) ?_; dsimp only)); refine box_event ?hg (N := 8) ?hd (cs := #[.bool false, .int .i64 0, .int .i64 0]) (t := 83) ?hr ?_; (case hd => rfl); (case hg => rfl); (case hr => first | (go_simp; done) | (go_simp; rfl)); intro gb807 hg w11 hbox hb; have n0_ := Aside0.mk (below_step (hb_ HB.out) hb); have n1_ := Aside0.mk (hbox); have n2_ := Aside0.mk ((by rw [hg]; exact (below_size (hb_ HB.out)) : w.heap.size ≤ gb807)); have n3_ := Aside0.mk ((by rw [hg]; exact (below_size (hb_ HB.out)) : w.heap.size ≤ gb807)); clear HB; have HB := n0_; have BK807 := n1_; have GW807 := n2_; have GE807 := n3_; clear n0_ n1_ n2_ n3_; clear hb hbox hg; have hcz12_0 := bc_ BK807.out 0 (.bool false) rfl; have hcz12_1 := bc_ BK807.out 1 (.int .i64 0) rfl; have hcz12_2 := bc_ BK807.out 2 (.int .i64 0) rfl; have hfz12_0 := blk_frozen BK807.out 0; have hfz12_1 := blk_frozen BK807.out 1; have hfz12_2 := blk_frozen BK807.out 2; have p808 : 0 ≤ (x23_2 : Int) := of_decide_eq_true (by first | (with_reducible assumption) | assumption); have q808 : x23_2 < (l1.length : Int) := of_decide_eq_true (by first | (with_reducible assumption) | assumption); obtain ⟨ad808, e808, hx808_0, hx808_1, hx808_2⟩ := at_T88 HR1.out x23_2 p808 q808; cases e808; have hn808_0 : ad808.block ≠ gb807 := Nat.ne_of_lt (Nat.lt_of_lt_of_le (by have := World.block_lt_of_cell? _ _ hx808_0; first | rwa [add_block] at this | exact this) GW807.out); have hn808_1 : ad808.block ≠ gb807 := Nat.ne_of_lt (Nat.lt_of_lt_of_le (by have := World.block_lt_of_cell? _ _ hx808_0; first | rwa [add_block] at this | exact this) GW807.out); have hn808_2 : ad808.block ≠ gb807 := Nat.ne_of_lt (Nat.lt_of_lt_of_le (by have := World.block_lt_of_cell? _ _ hx808_0; first | rwa [add_block] at this | exact this) GW807.out); replace hx808_0 := (HB.out.cell (World.block_lt_of_cell? w _ hx808_0)).trans hx808_0; replace hx808_1 := (HB.out.cell (World.block_lt_of_cell? w _ hx808_1)).trans hx808_1; replace hx808_2 := (HB.out.cell (World.block_lt_of_cell? w _ hx808_2)).trans hx808_2; replace hx808_0 := (cell_far (p := ⟨gb807, 0, none⟩) (by first | (rw [add_block]; exact hn808_0) | (show (Addr.add _ _).block ≠ _; rw [add_block]; exact hn808_0) | exact hn808_0) (.bool ((rd_T83 l0 x23_2).f0))).trans hx808_0; replace hx808_1 := (cell_far (p := ⟨gb807, 0, none⟩) (by first | (rw [add_block]; exact hn808_0) | (show (Addr.add _ _).block ≠ _; rw [add_block]; exact hn808_0) | exact hn808_0) (.bool ((rd_T83 l0 x23_2).f0))).trans hx808_1; replace hx808_2 := (cell_far (p := ⟨gb807, 0, none⟩) (by first | (rw [add_block]; exact hn808_0) | (show (Addr.add _ _).block ≠ _; rw [add_block]; exact hn808_0) | exact hn808_0) (.bool ((rd_T83 l0 x23_2).f0))).trans hx808_2; replace hx808_0 := (cell_far (p := ⟨gb807, 1, none⟩) (by first | (rw [add_block]; exact hn808_1) | (show (Addr.add _ _).block ≠ _; rw [add_block]; exact hn808_1) | exact hn808_1) (.int .i64 ((rd_T83 l0 x23_2).f1.f0))).trans hx808_0; replace hx808_1 := (cell_far (p := ⟨gb807, 1, none⟩) (by first | (rw [add_block]; exact hn808_1) | (show (Addr.add _ _).block ≠ _; rw [add_block]; exact hn808_1) | exact hn808_1) (.int .i64 ((rd_T83 l0 x23_2).f1.f0))).trans hx808_1; replace hx808_2 := (cell_far (p := ⟨gb807, 1, none⟩) (by first | (rw [add_block]; exact hn808_1) | (show (Addr.add _ _).block ≠ _; rw [add_block]; exact hn808_1) | exact hn808_1) (.int .i64 ((rd_T83 l0 x23_2).f1.f0))).trans hx808_2; replace hx808_0 := (cell_far (p := ⟨gb807, 2, none⟩) (by first | (rw [add_block]; exact hn808_2) | (show (Addr.add _ _).block ≠ _; rw [add_block]; exact hn808_2) | exact hn808_2) (.int .i64 ((rd_T83 l0 x23_2).f1.f1))).trans hx808_0; replace hx808_1 := (cell_far (p := ⟨gb807, 2, none⟩) (by first | (rw [add_block]; exact hn808_2) | (show (Addr.add _ _).block ≠ _; rw [add_block]; exact hn808_2) | exact hn808_2) (.int .i64 ((rd_T83 l0 x23_2).f1.f1))).trans hx808_1; replace hx808_2 := (cell_far (p := ⟨gb807, 2, none⟩) (by first | (rw [add_block]; exact hn808_2) | (show (Addr.add _ _).block ≠ _; rw [add_block]; exact hn808_2) | exact hn808_2) (.int .i64 ((rd_T83 l0 x23_2).f1.f1))).trans hx808_2; (try have hy808_0 := fun (n_ : Nat) => (show (((((w11.drewN n_).setCell ⟨gb807, 0, none⟩ (.bool ((rd_T83 l0 x23_2).f0))).setCell ⟨gb807, 1, none⟩ (.int .i64 ((rd_T83 l0 x23_2).f1.f0))).setCell ⟨gb807, 2, none⟩ (.int .i64 ((rd_T83 l0 x23_2).f1.f1)))).cell? _ = some _ from hx808_0)); (try have hy808_1 := fun (n_ : Nat) => (show (((((w11.drewN n_).setCell ⟨gb807, 0, none⟩ (.bool ((rd_T83 l0 x23_2).f0))).setCell ⟨gb807, 1, none⟩ (.int .i64 ((rd_T83 l0 x23_2).f1.f0))).setCell ⟨gb807, 2, none⟩ (.int .i64 ((rd_T83 l0 x23_2).f1.f1)))).cell? _ = some _ from hx808_1)); (try have hy808_2 := fun (n_ : Nat) => (show (((((w11.drewN n_).setCell ⟨gb807, 0, none⟩ (.bool ((rd_T83 l0 x23_2).f0))).setCell ⟨gb807, 1, none⟩ (.int .i64 ((rd_T83 l0 x23_2).f1.f0))).setCell ⟨gb807, 2, none⟩ (.int .i64 ((rd_T83 l0 x23_2).f1.f1)))).cell? _ = some _ from hx808_2)); clear hn808_0; clear hn808_1; clear hn808_2; replace p808 := eq_true p808; replace q808 := eq_true q808) | ((with_reducible refine gate_dst (N := 9) rfl ?_); (try (refine gate_guard (by rfl) ?_; dsimp only)); refine box_event ?hg (N := 9) ?hd (cs := #[.int .i64 0, .bool false, .int .i64 0]) (t := 88) ?hr ?_; (case hd => rfl); (case hg => rfl); (case hr => first | (go_simp; done) | (go_simp; rfl)); intro gb809 hg w13 hbox hb; have n0_ := Aside0.mk (blk_below (g := gb807) (o := .cells #[.bool ((rd_T83 l0 x23_2).f0), .int .i64 ((rd_T83 l0 x23_2).f1.f0), .int .i64 ((rd_T83 l0 x23_2).f1.f1)] 83 (0, 0)) (by (with_reducible repeat (first | refine blk_drewN ?_ _ | refine blk_drew ?_ | refine blk_alloc ?_ _)); refine blk_put (cs := #[.bool ((rd_T83 l0 x23_2).f0), .int .i64 ((rd_T83 l0 x23_2).f1.f0), .int .i64 0]) ?_ 2 _ rfl; (with_reducible repeat (first | refine blk_drewN ?_ _ | refine blk_drew ?_ | refine blk_alloc ?_ _)); refine blk_put (cs := #[.bool ((rd_T83 l0 x23_2).f0), .int .i64 0, .int .i64 0]) ?_ 1 _ rfl; (with_reducible repeat (first | refine blk_drewN ?_ _ | refine blk_drew ?_ | refine blk_alloc ?_ _)); refine blk_put (cs := #[.bool false, .int .i64 0, .int .i64 0]) ?_ 0 _ rfl; (with_reducible repeat (first | refine blk_drewN ?_ _ | refine blk_drew ?_ | refine blk_alloc ?_ _)); exact BK807.out) hb); have n1_ := Aside0.mk (below_step (hb1_ HB.out GE807.out) hb); have n2_ := Aside0.mk (hbox); have n3_ := Aside0.mk ((by rw [hg]; exact (below_size (hb1_ HB.out GE807.out)) : w.heap.size ≤ gb809)); have n4_ := Aside0.mk ((by rw [hg]; exact (below_size (hb1_ HB.out GE807.out)) : w.heap.size ≤ gb809)); have n5_ := Aside0.mk ((by rw [hg]; exact Nat.ne_of_lt (blk_lt (g := gb807) (o := .cells #[.bool ((rd_T83 l0 x23_2).f0), .int .i64 ((rd_T83 l0 x23_2).f1.f0), .int .i64 ((rd_T83 l0 x23_2).f1.f1)] 83 (0, 0)) (by (with_reducible repeat (first | refine blk_drewN ?_ _ | refine blk_drew ?_ | refine blk_alloc ?_ _)); refine blk_put (cs := #[.bool ((rd_T83 l0 x23_2).f0), .int .i64 ((rd_T83 l0 x23_2).f1.f0), .int .i64 0]) ?_ 2 _ rfl; (with_reducible repeat (first | refine blk_drewN ?_ _ | refine blk_drew ?_ | refine blk_alloc ?_ _)); refine blk_put (cs := #[.bool ((rd_T83 l0 x23_2).f0), .int .i64 0, .int .i64 0]) ?_ 1 _ rfl; (with_reducible repeat (first | refine blk_drewN ?_ _ | refine blk_drew ?_ | refine blk_alloc ?_ _)); refine blk_put (cs := #[.bool false, .int .i64 0, .int .i64 0]) ?_ 0 _ rfl; (with_reducible repeat (first | refine blk_drewN ?_ _ | refine blk_drew ?_ | refine blk_alloc ?_ _)); exact BK807.out)) : gb807 ≠ gb809)); have n6_ := Aside0.mk ((by rw [hg]; exact Nat.ne_of_gt (blk_lt (g := gb807) (o := .cells #[.bool ((rd_T83 l0 x23_2).f0), .int .i64 ((rd_T83 l0 x23_2).f1.f0), .int .i64 ((rd_T83 l0 x23_2).f1.f1)] 83 (0, 0)) (by (with_reducible repeat (first | refine blk_drewN ?_ _ | refine blk_drew ?_ | refine blk_alloc ?_ _)); refine blk_put (cs := #[.bool ((rd_T83 l0 x23_2).f0), .int .i64 ((rd_T83 l0 x23_2).f1.f0), .int .i64 0]) ?_ 2 _ rfl; (with_reducible repeat (first | refine blk_drewN ?_ _ | refine blk_drew ?_ | refine blk_alloc ?_ _)); refine blk_put (cs := #[.bool ((rd_T83 l0 x23_2).f0), .int .i64 0, .int .i64 0]) ?_ 1 _ rfl; (with_reducible repeat (first | refine blk_drewN ?_ _ | refine blk_drew ?_ | refine blk_alloc ?_ _)); refine blk_put (cs := #[.bool false, .int .i64 0, .int .i64 0]) ?_ 0 _ rfl; (with_reducible repeat (first | refine blk_drewN ?_ _ | refine blk_drew ?_ | refine blk_alloc ?_ _)); exact BK807.out)) : gb809 ≠ gb807)); clear BK807; clear HB; have BK807 := n0_; have HB := n1_; have BK809 := n2_; have GW809 := n3_; have GE809 := n4_; have NB807_809 := n5_; have NB809_807 := n6_; clear n0_ n1_ n2_ n3_ n4_ n5_ n6_; clear hb hbox hg; have hnb14 := NB809_807.out; have hnc14 := NB807_809.out; have hcz15_0 := bc_ BK809.out 0 (.int .i64 0) rfl; have hcz15_1 := bc_ BK809.out 1 (.bool false) rfl; have hcz15_2 := bc_ BK809.out 2 (.int .i64 0) rfl; have hfz15_0 := blk_frozen BK809.out 0; have hfz15_1 := blk_frozen BK809.out 1; have hfz15_2 := blk_frozen BK809.out 2)); go_upto_region 8 with (first | ((with_reducible refine gate_dst (N := 8) rfl ?_); (try (refine gate_guard (by rfl) ?_; dsimp only)); refine box_event ?hg (N := 8) ?hd (cs := #[.bool false, .int .i64 0, .int .i64 0]) (t := 83) ?hr ?_; (case hd => rfl); (case hg => rfl); (case hr => first | (go_simp; done) | (go_simp; rfl)); intro gb807 hg w11 hbox hb; have n0_ := Aside0.mk (below_step (hb_ HB.out) hb); have n1_ := Aside0.mk (hbox); have n2_ := Aside0.mk ((by rw [hg]; exact (below_size (hb_ HB.out)) : w.heap.size ≤ gb807)); have n3_ := Aside0.mk ((by rw [hg]; exact (below_size (hb_ HB.out)) : w.heap.size ≤ gb807)); clear HB; have HB := n0_; have BK807 := n1_; have GW807 := n2_; have GE807 := n3_; clear n0_ n1_ n2_ n3_; clear hb hbox hg; have hcz12_0 := bc_ BK807.out 0 (.bool false) rfl; have hcz12_1 := bc_ BK807.out 1 (.int .i64 0) rfl; have hcz12_2 := bc_ BK807.out 2 (.int .i64 0) rfl; have hfz12_0 := blk_frozen BK807.out 0; have hfz12_1 := blk_frozen BK807.out 1; have hfz12_2 := blk_frozen BK807.out 2; have p808 : 0 ≤ (x23_2 : Int) := of_decide_eq_true (by first | (with_reducible assumption) | assumption); have q808 : x23_2 < (l1.length : Int) := of_decide_eq_true (by first | (with_reducible assumption) | assumption); obtain ⟨ad808, e808, hx808_0, hx808_1, hx808_2⟩ := at_T88 HR1.out x23_2 p808 q808; cases e808; have hn808_0 : ad808.block ≠ gb807 := Nat.ne_of_lt (Nat.lt_of_lt_of_le (by have := World.block_lt_of_cell? _ _ hx808_0; first | rwa [add_block] at this | exact this) GW807.out); have hn808_1 : ad808.block ≠ gb807 := Nat.ne_of_lt (Nat.lt_of_lt_of_le (by have := World.block_lt_of_cell? _ _ hx808_0; first | rwa [add_block] at this | exact this) GW807.out); have hn808_2 : ad808.block ≠ gb807 := Nat.ne_of_lt (Nat.lt_of_lt_of_le (by have := World.block_lt_of_cell? _ _ hx808_0; first | rwa [add_block] at this | exact this) GW807.out); replace hx808_0 := (HB.out.cell (World.block_lt_of_cell? w _ hx808_0)).trans hx808_0; replace hx808_1 := (HB.out.cell (World.block_lt_of_cell? w _ hx808_1)).trans hx808_1; replace hx808_2 := (HB.out.cell (World.block_lt_of_cell? w _ hx808_2)).trans hx808_2; replace hx808_0 := (cell_far (p := ⟨gb807, 0, none⟩) (by first | (rw [add_block]; exact hn808_0) | (show (Addr.add _ _).block ≠ _; rw [add_block]; exact hn808_0) | exact hn808_0) (.bool ((rd_T83 l0 x23_2).f0))).trans hx808_0; replace hx808_1 := (cell_far (p := ⟨gb807, 0, none⟩) (by first | (rw [add_block]; exact hn808_0) | (show (Addr.add _ _).block ≠ _; rw [add_block]; exact hn808_0) | exact hn808_0) (.bool ((rd_T83 l0 x23_2).f0))).trans hx808_1; replace hx808_2 := (cell_far (p := ⟨gb807, 0, none⟩) (by first | (rw [add_block]; exact hn808_0) | (show (Addr.add _ _).block ≠ _; rw [add_block]; exact hn808_0) | exact hn808_0) (.bool ((rd_T83 l0 x23_2).f0))).trans hx808_2; replace hx808_0 := (cell_far (p := ⟨gb807, 1, none⟩) (by first | (rw [add_block]; exact hn808_1) | (show (Addr.add _ _).block ≠ _; rw [add_block]; exact hn808_1) | exact hn808_1) (.int .i64 ((rd_T83 l0 x23_2).f1.f0))).trans hx808_0; replace hx808_1 := (cell_far (p := ⟨gb807, 1, none⟩) (by first | (rw [add_block]; exact hn808_1) | (show (Addr.add _ _).block ≠ _; rw [add_block]; exact hn808_1) | exact hn808_1) (.int .i64 ((rd_T83 l0 x23_2).f1.f0))).trans hx808_1; replace hx808_2 := (cell_far (p := ⟨gb807, 1, none⟩) (by first | (rw [add_block]; exact hn808_1) | (show (Addr.add _ _).block ≠ _; rw [add_block]; exact hn808_1) | exact hn808_1) (.int .i64 ((rd_T83 l0 x23_2).f1.f0))).trans hx808_2; replace hx808_0 := (cell_far (p := ⟨gb807, 2, none⟩) (by first | (rw [add_block]; exact hn808_2) | (show (Addr.add _ _).block ≠ _; rw [add_block]; exact hn808_2) | exact hn808_2) (.int .i64 ((rd_T83 l0 x23_2).f1.f1))).trans hx808_0; replace hx808_1 := (cell_far (p := ⟨gb807, 2, none⟩) (by first | (rw [add_block]; exact hn808_2) | (show (Addr.add _ _).block ≠ _; rw [add_block]; exact hn808_2) | exact hn808_2) (.int .i64 ((rd_T83 l0 x23_2).f1.f1))).trans hx808_1; replace hx808_2 := (cell_far (p := ⟨gb807, 2, none⟩) (by first | (rw [add_block]; exact hn808_2) | (show (Addr.add _ _).block ≠ _; rw [add_block]; exact hn808_2) | exact hn808_2) (.int .i64 ((rd_T83 l0 x23_2).f1.f1))).trans hx808_2; (try have hy808_0 := fun (n_ : Nat) => (show (((((w11.drewN n_).setCell ⟨gb807, 0, none⟩ (.bool ((rd_T83 l0 x23_2).f0))).setCell ⟨gb807, 1, none⟩ (.int .i64 ((rd_T83 l0 x23_2).f1.f0))).setCell ⟨gb807, 2, none⟩ (.int .i64 ((rd_T83 l0 x23_2).f1.f1)))).cell? _ = some _ from hx808_0)); (try have hy808_1 := fun (n_ : Nat) => (show (((((w11.drewN n_).setCell ⟨gb807, 0, none⟩ (.bool ((rd_T83 l0 x23_2).f0))).setCell ⟨gb807, 1, none⟩ (.int .i64 ((rd_T83 l0 x23_2).f1.f0))).setCell ⟨gb807, 2, none⟩ (.int .i64 ((rd_T83 l0 x23_2).f1.f1)))).cell? _ = some _ from hx808_1)); (try have hy808_2 := fun (n_ : Nat) => (show (((((w11.drewN n_).setCell ⟨gb807, 0, none⟩ (.bool ((rd_T83 l0 x23_2).f0))).setCell ⟨gb807, 1, none⟩ (.int .i64 ((rd_T83 l0 x23_2).f1.f0))).setCell ⟨gb807, 2, none⟩ (.int .i64 ((rd_T83 l0 x23_2).f1.f1)))).cell? _ = some _ from hx808_2)); clear hn808_0; clear hn808_1; clear hn808_2; replace p808 := eq_true p808; replace q808 := eq_true q808) | ((with_reducible refine gate_dst (N := 9) rfl ?_); (try (refine gate_guard (by rfl) ?_; dsimp only)); refine box_event ?hg (N := 9) ?hd (cs := #[.int .i64 0, .bool false, .int .i64 0]) (t := 88) ?hr ?_; (case hd => rfl); (case hg => rfl); (case hr => first | (go_simp; done) | (go_simp; rfl)); intro gb809 hg w13 hbox hb; have n0_ := Aside0.mk (blk_below (g := gb807) (o := .cells #[.bool ((rd_T83 l0 x23_2).f0), .int .i64 ((rd_T83 l0 x23_2).f1.f0), .int .i64 ((rd_T83 l0 x23_2).f1.f1)] 83 (0, 0)) (by (with_reducible repeat (first | refine blk_drewN ?_ _ | refine blk_drew ?_ | refine blk_alloc ?_ _)); refine blk_put (cs := #[.bool ((rd_T83 l0 x23_2).f0), .int .i64 ((rd_T83 l0 x23_2).f1.f0), .int .i64 0]) ?_ 2 _ rfl; (with_reducible repeat (first | refine blk_drewN ?_ _ | refine blk_drew ?_ | refine blk_alloc ?_ _)); refine blk_put (cs := #[.bool ((rd_T83 l0 x23_2).f0), .int .i64 0, .int .i64 0]) ?_ 1 _ rfl; (with_reducible repeat (first | refine blk_drewN ?_ _ | refine blk_drew ?_ | refine blk_alloc ?_ _)); refine blk_put (cs := #[.bool false, .int .i64 0, .int .i64 0]) ?_ 0 _ rfl; (with_reducible repeat (first | refine blk_drewN ?_ _ | refine blk_drew ?_ | refine blk_alloc ?_ _)); exact BK807.out) hb); have n1_ := Aside0.mk (below_step (hb1_ HB.out GE807.out) hb); have n2_ := Aside0.mk (hbox); have n3_ := Aside0.mk ((by rw [hg]; exact (below_size (hb1_ HB.out GE807.out)) : w.heap.size ≤ gb809)); have n4_ := Aside0.mk ((by rw [hg]; exact (below_size (hb1_ HB.out GE807.out)) : w.heap.size ≤ gb809)); have n5_ := Aside0.mk ((by rw [hg]; exact Nat.ne_of_lt (blk_lt (g := gb807) (o := .cells #[.bool ((rd_T83 l0 x23_2).f0), .int .i64 ((rd_T83 l0 x23_2).f1.f0), .int .i64 ((rd_T83 l0 x23_2).f1.f1)] 83 (0, 0)) (by (with_reducible repeat (first | refine blk_drewN ?_ _ | refine blk_drew ?_ | refine blk_alloc ?_ _)); refine blk_put (cs := #[.bool ((rd_T83 l0 x23_2).f0), .int .i64 ((rd_T83 l0 x23_2).f1.f0), .int .i64 0]) ?_ 2 _ rfl; (with_reducible repeat (first | refine blk_drewN ?_ _ | refine blk_drew ?_ | refine blk_alloc ?_ _)); refine blk_put (cs := #[.bool ((rd_T83 l0 x23_2).f0), .int .i64 0, .int .i64 0]) ?_ 1 _ rfl; (with_reducible repeat (first | refine blk_drewN ?_ _ | refine blk_drew ?_ | refine blk_alloc ?_ _)); refine blk_put (cs := #[.bool false, .int .i64 0, .int .i64 0]) ?_ 0 _ rfl; (with_reducible repeat (first | refine blk_drewN ?_ _ | refine blk_drew ?_ | refine blk_alloc ?_ _)); exact BK807.out)) : gb807 ≠ gb809)); have n6_ := Aside0.mk ((by rw [hg]; exact Nat.ne_of_gt (blk_lt (g := gb807) (o := .cells #[.bool ((rd_T83 l0 x23_2).f0), .int .i64 ((rd_T83 l0 x23_2).f1.f0), .int .i64 ((rd_T83 l0 x23_2).f1.f1)] 83 (0, 0)) (by (with_reducible repeat (first | refine blk_drewN ?_ _ | refine blk_drew ?_ | refine blk_alloc ?_ _)); refine blk_put (cs := #[.bool ((rd_T83 l0 x23_2).f0), .int .i64 ((rd_T83 l0 x23_2).f1.f0), .int .i64 0]) ?_ 2 _ rfl; (with_reducible repeat (first | refine blk_drewN ?_ _ | refine blk_drew ?_ | refine blk_alloc ?_ _)); refine blk_put (cs := #[.bool ((rd_T83 l0 x23_2).f0), .int .i64 0, .int .i64 0]) ?_ 1 _ rfl; (with_reducible repeat (first | refine blk_drewN ?_ _ | refine blk_drew ?_ | refine blk_alloc ?_ _)); refine blk_put (cs := #[.bool false, .int .i64 0, .int .i64 0]) ?_ 0 _ rfl; (with_reducible repeat (first | refine blk_drewN ?_ _ | refine blk_drew ?_ | refine blk_alloc ?_ _)); exact BK807.out)) : gb809 ≠ gb807)); clear BK807; clear HB; have BK807 := n0_; have HB := n1_; have BK809 := n2_; have GW809 := n3_; have GE809 := n4_; have NB807_809 := n5_; have NB809_807 := n6_; clear n0_ n1_ n2_ n3_ n4_ n5_ n6_; clear hb hbox hg; have hnb14 := NB809_807.out; have hnc14 := NB807_809.out; have hcz15_0 := bc_ BK809.out 0 (.int .i64 0) rfl; have hcz15_1 := bc_ BK809.out 1 (.bool false) rfl; have hcz15_2 := bc_ BK809.out 2 (.int .i64 0) rfl; have hfz15_0 := blk_frozen BK809.out 0; have hfz15_1 := blk_frozen BK809.out 1; have hfz15_2 := blk_frozen BK809.out 2)))
                    (try simp only [Act.put, List.setIfInBounds_toArray, List.set_cons_zero, List.set_cons_succ])
                    go_cut [39] (fun v39 wc => ∃ (kq : Nat) (x39_9 : Bool), v39 = .bool x39_9 ∧ Aside0 (impl_ReadsOk.j2 kq l1 x5_2 x6_2 l0 (l0.length : Int) x23_2 x39_9 ((rd_T83 l0 x23_2).f0) ((rd_T83 l0 x23_2).f1.f0) ((rd_T83 l0 x23_2).f1.f1) ((rd_T88 l1 x23_2).f0) ((rd_T88 l1 x23_2).f1) ((rd_T88 l1 x23_2).f2) = some r) ∧ Aside0 (kq ≤ k2) ∧ Aside0 (wc.heap[gb807]? = some (.cells #[.bool ((rd_T83 l0 x23_2).f0), .int .i64 ((rd_T83 l0 x23_2).f1.f0), .int .i64 ((rd_T83 l0 x23_2).f1.f1)] 83 (0, 0))) ∧ Aside0 (wc.heap[gb809]? = some (.cells #[.int .i64 ((rd_T88 l1 x23_2).f0), .bool ((rd_T88 l1 x23_2).f1), .int .i64 ((rd_T88 l1 x23_2).f2)] 88 (0, 0))) ∧ Aside0 (Below w.heap.size w wc))
                    case first =>
                      have H := HC10.out
                      clear HC10
                      obtain ⟨bq16, hbq16⟩ : ∃ b_ : Bool, b_ = ((rd_T83 l0 x23_2).f0) := ⟨_, rfl⟩
                      replace H : (if bq16 = true then ((impl_IvalOk.f ((rd_T83 l0 x23_2).f1.f0) ((rd_T83 l0 x23_2).f1.f1)).bind fun t810 => (impl_ReadsOk.j2 k2 l1 x5_2 x6_2 l0 (l0.length : Int) x23_2 (!t810) bq16 ((rd_T83 l0 x23_2).f1.f0) ((rd_T83 l0 x23_2).f1.f1) ((rd_T88 l1 x23_2).f0) ((rd_T88 l1 x23_2).f1) ((rd_T88 l1 x23_2).f2))) else (impl_ReadsOk.j2 k2 l1 x5_2 x6_2 l0 (l0.length : Int) x23_2 false bq16 ((rd_T83 l0 x23_2).f1.f0) ((rd_T83 l0 x23_2).f1.f1) ((rd_T88 l1 x23_2).f0) ((rd_T88 l1 x23_2).f1) ((rd_T88 l1 x23_2).f2))) = some r := by rw [← hbq16] at H; exact H
                      have Nbq16 := Aside0.mk hbq16
                      clear hbq16
                      (try rw [← Nbq16.out])
                      (try (have n9_ := Aside0.mk (by rw [← Nbq16.out] at BK807; exact BK807.out); clear BK807; have BK807 := n9_; clear n9_))
                      (try (have n9_ := Aside0.mk (by rw [← Nbq16.out] at BK809; exact BK809.out); clear BK809; have BK809 := n9_; clear n9_))
                      by_cases c17 : bq16 = true
                      · subst c17
                        have H1 : ((impl_IvalOk.f ((rd_T83 l0 x23_2).f1.f0) ((rd_T83 l0 x23_2).f1.f1)).bind fun t810 => (impl_ReadsOk.j2 k2 l1 x5_2 x6_2 l0 (l0.length : Int) x23_2 (!t810) true ((rd_T83 l0 x23_2).f1.f0) ((rd_T83 l0 x23_2).f1.f1) ((rd_T88 l1 x23_2).f0) ((rd_T88 l1 x23_2).f1) ((rd_T88 l1 x23_2).f2))) = some r := by rw [if_pos rfl] at H; exact H
                        clear H
                        have H := H1
                        clear H1
                        replace H := Option.bind_eq_some_iff.mp H
                        obtain ⟨t810, A180, H⟩ := H
                        replace H : (impl_ReadsOk.j2 k2 l1 x5_2 x6_2 l0 (l0.length : Int) x23_2 (!t810) true ((rd_T83 l0 x23_2).f1.f0) ((rd_T83 l0 x23_2).f1.f1) ((rd_T88 l1 x23_2).f0) ((rd_T88 l1 x23_2).f1) ((rd_T88 l1 x23_2).f2)) = some r := H
                        have A18 := Aside0.mk A180
                        clear A180
                        have H' := Aside0.mk H
                        clear H
                        have hnb19 := NB807_809.out
                        have hnc19 := NB809_807.out
                        have hcz20_0 := bc_ BK807.out 0 (.bool true) rfl
                        have hcz20_1 : w13.cell? ⟨gb807, 1, none⟩ = some (.int .i64 ((rd_T83 l0 x23_2).f1.f0)) := (blk_cell BK807.out 1).trans rfl
                        have hcz20_2 : w13.cell? ⟨gb807, 2, none⟩ = some (.int .i64 ((rd_T83 l0 x23_2).f1.f1)) := (blk_cell BK807.out 2).trans rfl
                        have hfz20_0 := blk_frozen BK807.out 0
                        have hfz20_1 := blk_frozen BK807.out 1
                        have hfz20_2 := blk_frozen BK807.out 2
                        go_wp2_with (first | (go_at_call 94; (with_reducible refine (impl_IvalOk.calls ((rd_T83 l0 x23_2).f1.f0) ((rd_T83 l0 x23_2).f1.f1) t810 _ A18.out).mono ?_); rintro e w21 ⟨rfl, hb⟩; have n0_ := Aside0.mk (blk_below (g := gb807) (o := .cells #[.bool true, .int .i64 ((rd_T83 l0 x23_2).f1.f0), .int .i64 ((rd_T83 l0 x23_2).f1.f1)] 83 (0, 0)) (by (with_reducible repeat (first | refine blk_drewN ?_ _ | refine blk_drew ?_ | refine blk_alloc ?_ _)); refine blk_far ?_ NB807_809.out _; (with_reducible repeat (first | refine blk_drewN ?_ _ | refine blk_drew ?_ | refine blk_alloc ?_ _)); refine blk_far ?_ NB807_809.out _; (with_reducible repeat (first | refine blk_drewN ?_ _ | refine blk_drew ?_ | refine blk_alloc ?_ _)); refine blk_far ?_ NB807_809.out _; (with_reducible repeat (first | refine blk_drewN ?_ _ | refine blk_drew ?_ | refine blk_alloc ?_ _)); exact BK807.out) hb); have n1_ := Aside0.mk (blk_below (g := gb809) (o := .cells #[.int .i64 ((rd_T88 l1 x23_2).f0), .bool ((rd_T88 l1 x23_2).f1), .int .i64 ((rd_T88 l1 x23_2).f2)] 88 (0, 0)) (by (with_reducible repeat (first | refine blk_drewN ?_ _ | refine blk_drew ?_ | refine blk_alloc ?_ _)); refine blk_put (cs := #[.int .i64 ((rd_T88 l1 x23_2).f0), .bool ((rd_T88 l1 x23_2).f1), .int .i64 0]) ?_ 2 _ rfl; (with_reducible repeat (first | refine blk_drewN ?_ _ | refine blk_drew ?_ | refine blk_alloc ?_ _)); refine blk_put (cs := #[.int .i64 ((rd_T88 l1 x23_2).f0), .bool false, .int .i64 0]) ?_ 1 _ rfl; (with_reducible repeat (first | refine blk_drewN ?_ _ | refine blk_drew ?_ | refine blk_alloc ?_ _)); refine blk_put (cs := #[.int .i64 0, .bool false, .int .i64 0]) ?_ 0 _ rfl; (with_reducible repeat (first | refine blk_drewN ?_ _ | refine blk_drew ?_ | refine blk_alloc ?_ _)); exact BK809.out) hb); have n2_ := Aside0.mk (below_step (hb2_ HB.out GE807.out GE809.out) hb); clear BK807; clear BK809; clear HB; have BK807 := n0_; have BK809 := n1_; have HB := n2_; clear n0_ n1_ n2_; (try clear hb); (try clear hb2); (try clear hk); (try clear hi)))
                        repeat (go_quiet (first | (go_at_call 94; (with_reducible refine (impl_IvalOk.calls ((rd_T83 l0 x23_2).f1.f0) ((rd_T83 l0 x23_2).f1.f1) t810 _ A18.out).mono ?_); rintro e w21 ⟨rfl, hb⟩; have n0_ := Aside0.mk (blk_below (g := gb807) (o := .cells #[.bool true, .int .i64 ((rd_T83 l0 x23_2).f1.f0), .int .i64 ((rd_T83 l0 x23_2).f1.f1)] 83 (0, 0)) (by (with_reducible repeat (first | refine blk_drewN ?_ _ | refine blk_drew ?_ | refine blk_alloc ?_ _)); refine blk_far ?_ NB807_809.out _; (with_reducible repeat (first | refine blk_drewN ?_ _ | refine blk_drew ?_ | refine blk_alloc ?_ _)); refine blk_far ?_ NB807_809.out _; (with_reducible repeat (first | refine blk_drewN ?_ _ | refine blk_drew ?_ | refine blk_alloc ?_ _)); refine blk_far ?_ NB807_809.out _; (with_reducible repeat (first | refine blk_drewN ?_ _ | refine blk_drew ?_ | refine blk_alloc ?_ _)); exact BK807.out) hb); have n1_ := Aside0.mk (blk_below (g := gb809) (o := .cells #[.int .i64 ((rd_T88 l1 x23_2).f0), .bool ((rd_T88 l1 x23_2).f1), .int .i64 ((rd_T88 l1 x23_2).f2)] 88 (0, 0)) (by (with_reducible repeat (first | refine blk_drewN ?_ _ | refine blk_drew ?_ | refine blk_alloc ?_ _)); refine blk_put (cs := #[.int .i64 ((rd_T88 l1 x23_2).f0), .bool ((rd_T88 l1 x23_2).f1), .int .i64 0]) ?_ 2 _ rfl; (with_reducible repeat (first | refine blk_drewN ?_ _ | refine blk_drew ?_ | refine blk_alloc ?_ _)); refine blk_put (cs := #[.int .i64 ((rd_T88 l1 x23_2).f0), .bool false, .int .i64 0]) ?_ 1 _ rfl; (with_reducible repeat (first | refine blk_drewN ?_ _ | refine blk_drew ?_ | refine blk_alloc ?_ _)); refine blk_put (cs := #[.int .i64 0, .bool false, .int .i64 0]) ?_ 0 _ rfl; (with_reducible repeat (first | refine blk_drewN ?_ _ | refine blk_drew ?_ | refine blk_alloc ?_ _)); exact BK809.out) hb); have n2_ := Aside0.mk (below_step (hb2_ HB.out GE807.out GE809.out) hb); clear BK807; clear BK809; clear HB; have BK807 := n0_; have BK809 := n1_; have HB := n2_; clear n0_ n1_ n2_; (try clear hb); (try clear hb2); (try clear hk); (try clear hi))); try go_wp2_with (first | (go_at_call 94; (with_reducible refine (impl_IvalOk.calls ((rd_T83 l0 x23_2).f1.f0) ((rd_T83 l0 x23_2).f1.f1) t810 _ A18.out).mono ?_); rintro e w21 ⟨rfl, hb⟩; have n0_ := Aside0.mk (blk_below (g := gb807) (o := .cells #[.bool true, .int .i64 ((rd_T83 l0 x23_2).f1.f0), .int .i64 ((rd_T83 l0 x23_2).f1.f1)] 83 (0, 0)) (by (with_reducible repeat (first | refine blk_drewN ?_ _ | refine blk_drew ?_ | refine blk_alloc ?_ _)); refine blk_far ?_ NB807_809.out _; (with_reducible repeat (first | refine blk_drewN ?_ _ | refine blk_drew ?_ | refine blk_alloc ?_ _)); refine blk_far ?_ NB807_809.out _; (with_reducible repeat (first | refine blk_drewN ?_ _ | refine blk_drew ?_ | refine blk_alloc ?_ _)); refine blk_far ?_ NB807_809.out _; (with_reducible repeat (first | refine blk_drewN ?_ _ | refine blk_drew ?_ | refine blk_alloc ?_ _)); exact BK807.out) hb); have n1_ := Aside0.mk (blk_below (g := gb809) (o := .cells #[.int .i64 ((rd_T88 l1 x23_2).f0), .bool ((rd_T88 l1 x23_2).f1), .int .i64 ((rd_T88 l1 x23_2).f2)] 88 (0, 0)) (by (with_reducible repeat (first | refine blk_drewN ?_ _ | refine blk_drew ?_ | refine blk_alloc ?_ _)); refine blk_put (cs := #[.int .i64 ((rd_T88 l1 x23_2).f0), .bool ((rd_T88 l1 x23_2).f1), .int .i64 0]) ?_ 2 _ rfl; (with_reducible repeat (first | refine blk_drewN ?_ _ | refine blk_drew ?_ | refine blk_alloc ?_ _)); refine blk_put (cs := #[.int .i64 ((rd_T88 l1 x23_2).f0), .bool false, .int .i64 0]) ?_ 1 _ rfl; (with_reducible repeat (first | refine blk_drewN ?_ _ | refine blk_drew ?_ | refine blk_alloc ?_ _)); refine blk_put (cs := #[.int .i64 0, .bool false, .int .i64 0]) ?_ 0 _ rfl; (with_reducible repeat (first | refine blk_drewN ?_ _ | refine blk_drew ?_ | refine blk_alloc ?_ _)); exact BK809.out) hb); have n2_ := Aside0.mk (below_step (hb2_ HB.out GE807.out GE809.out) hb); clear BK807; clear BK809; clear HB; have BK807 := n0_; have BK809 := n1_; have HB := n2_; clear n0_ n1_ n2_; (try clear hb); (try clear hb2); (try clear hk); (try clear hi))))
                        go_meet
                        case rel => (try rw [← Nbq16.out]); exact ⟨_, (!t810), (by first | rfl | (simp; done) | (simp [*]; done)), H', ⟨by have := HJ2.out; have := HK2.out; first | omega | exact Nat.le_refl _⟩, ⟨bk_ BK807.out⟩, ⟨bk_ BK809.out⟩, ⟨hb2_ HB.out GE807.out GE809.out⟩⟩
                      · replace c17 := Bool.eq_false_iff.mpr c17
                        subst c17
                        have H1 : (impl_ReadsOk.j2 k2 l1 x5_2 x6_2 l0 (l0.length : Int) x23_2 false false ((rd_T83 l0 x23_2).f1.f0) ((rd_T83 l0 x23_2).f1.f1) ((rd_T88 l1 x23_2).f0) ((rd_T88 l1 x23_2).f1) ((rd_T88 l1 x23_2).f2)) = some r := by rw [if_neg (show ¬ (false = true) by decide)] at H; exact H
                        clear H
                        have H := H1
                        clear H1
                        have H' := Aside0.mk H
                        clear H
                        have hnb22 := NB807_809.out
                        have hnc22 := NB809_807.out
                        have hcz23_0 := bc_ BK807.out 0 (.bool false) rfl
                        have hcz23_1 : w13.cell? ⟨gb807, 1, none⟩ = some (.int .i64 ((rd_T83 l0 x23_2).f1.f0)) := (blk_cell BK807.out 1).trans rfl
                        have hcz23_2 : w13.cell? ⟨gb807, 2, none⟩ = some (.int .i64 ((rd_T83 l0 x23_2).f1.f1)) := (blk_cell BK807.out 2).trans rfl
                        have hfz23_0 := blk_frozen BK807.out 0
                        have hfz23_1 := blk_frozen BK807.out 1
                        have hfz23_2 := blk_frozen BK807.out 2
                        go_wp2
                        repeat (go_quiet (fail); try go_wp2)
                        go_meet
                        case rel => (try rw [← Nbq16.out]); exact ⟨_, (false), (by first | rfl | (simp; done) | (simp [*]; done)), H', ⟨by have := HJ2.out; have := HK2.out; first | omega | exact Nat.le_refl _⟩, ⟨by (with_reducible repeat (first | refine blk_drewN ?_ _ | refine blk_drew ?_ | refine blk_alloc ?_ _)); refine blk_far ?_ NB807_809.out _; (with_reducible repeat (first | refine blk_drewN ?_ _ | refine blk_drew ?_ | refine blk_alloc ?_ _)); refine blk_far ?_ NB807_809.out _; (with_reducible repeat (first | refine blk_drewN ?_ _ | refine blk_drew ?_ | refine blk_alloc ?_ _)); refine blk_far ?_ NB807_809.out _; (with_reducible repeat (first | refine blk_drewN ?_ _ | refine blk_drew ?_ | refine blk_alloc ?_ _)); exact BK807.out⟩, ⟨by (with_reducible repeat (first | refine blk_drewN ?_ _ | refine blk_drew ?_ | refine blk_alloc ?_ _)); refine blk_put (cs := #[.int .i64 ((rd_T88 l1 x23_2).f0), .bool ((rd_T88 l1 x23_2).f1), .int .i64 0]) ?_ 2 _ rfl; (with_reducible repeat (first | refine blk_drewN ?_ _ | refine blk_drew ?_ | refine blk_alloc ?_ _)); refine blk_put (cs := #[.int .i64 ((rd_T88 l1 x23_2).f0), .bool false, .int .i64 0]) ?_ 1 _ rfl; (with_reducible repeat (first | refine blk_drewN ?_ _ | refine blk_drew ?_ | refine blk_alloc ?_ _)); refine blk_put (cs := #[.int .i64 0, .bool false, .int .i64 0]) ?_ 0 _ rfl; (with_reducible repeat (first | refine blk_drewN ?_ _ | refine blk_drew ?_ | refine blk_alloc ?_ _)); exact BK809.out⟩, ⟨hb2_ HB.out GE807.out GE809.out⟩⟩
                    case rest =>
                      clear HC10
                      try clear c1
                      try clear q1
                      try clear c2
                      try clear p2
                      try clear c4
                      try clear c4b0
                      try clear c4b1
                      try clear c5
                      try clear c6
                      try clear c6b0
                      try clear c7
                      try clear c7b0
                      try clear c8
                      try clear c8b0
                      try clear p8
                      try clear q8
                      try clear hx8
                      try clear c9
                      try clear c9b0
                      try clear c14
                      try clear q16
                      try clear c17
                      try clear c19
                      try clear c22
                      try clear hcz12_0
                      try clear hcz12_1
                      try clear hcz12_2
                      try clear hcz15_0
                      try clear hcz15_1
                      try clear hcz15_2
                      try clear hcz20_0
                      try clear hcz20_1
                      try clear hcz20_2
                      try clear hcz23_0
                      try clear hcz23_1
                      try clear hcz23_2
                      try clear hfz12_0
                      try clear hfz12_1
                      try clear hfz12_2
                      try clear hfz15_0
                      try clear hfz15_1
                      try clear hfz15_2
                      try clear hfz20_0
                      try clear hfz20_1
                      try clear hfz20_2
                      try clear hfz23_0
                      try clear hfz23_1
                      try clear hfz23_2
                      try clear hx806_0
                      try clear hx806_1
                      try clear hx806_2
                      try clear hx808_0
                      try clear hx808_1
                      try clear hx808_2
                      try clear p2
                      try clear p806
                      try clear p808
                      try clear q806
                      try clear q808
                      obtain ⟨kq, x39_9, rfl, HA, HJ9, BK807, BK809, HB⟩ := hcut
                      cases kq with
                      | zero => exact absurd HA.out (by simp [impl_ReadsOk.j2])
                      | succ kj9 =>
                        have H := HA.out
                        clear HA
                        simp only [impl_ReadsOk.j2] at H
                        by_cases c24 : x39_9 = true
                        · subst c24
                          have H1 : (some false) = some r := by rw [if_pos rfl] at H; exact H
                          clear H
                          have H := H1
                          clear H1
                          obtain rfl := Option.some.inj H
                          go_wp2
                          repeat (go_quiet (fail); try go_wp2)
                          go_ret
                          exact ⟨er_, hb2_ HB.out GE807.out GE809.out⟩
                        · replace c24 := Bool.eq_false_iff.mpr c24
                          subst c24
                          have H1 : (if ((rd_T88 l1 x23_2).f2) = 2 then (if ((rd_T83 l0 x23_2).f0) = true then (some false) else (if x5_2 = true then (some false) else (if ((rd_T88 l1 x23_2).f0) = 0 then (if ((rd_T88 l1 x23_2).f1) = false then (impl_ReadsOk.l0 kj9 l1 x5_2 x6_2 l0 (l0.length : Int) (wrap64 (x23_2 + 1))) else (some false)) else (some false)))) else (if ((rd_T83 l0 x23_2).f0) = true then (if ((rd_T88 l1 x23_2).f1) = true then (if ((rd_T88 l1 x23_2).f2) = 0 then (if x5_2 = true then (if ((rd_T88 l1 x23_2).f0) = x6_2 then (if ((rd_T88 l1 x23_2).f0) > ((rd_T83 l0 x23_2).f1.f1) then (impl_ReadsOk.l0 kj9 l1 true ((rd_T88 l1 x23_2).f0) l0 (l0.length : Int) (wrap64 (x23_2 + 1))) else (some false)) else (some false)) else (some false)) else (some false)) else (if ((rd_T88 l1 x23_2).f2) = 0 then ((impl_Holds.f ((rd_T83 l0 x23_2).f1.f0) ((rd_T83 l0 x23_2).f1.f1) ((rd_T88 l1 x23_2).f0)).bind fun t811 => (if t811 = true then (if x5_2 = true then (if ((rd_T88 l1 x23_2).f0) ≥ x6_2 then (impl_ReadsOk.l0 kj9 l1 true ((rd_T88 l1 x23_2).f0) l0 (l0.length : Int) (wrap64 (x23_2 + 1))) else (some false)) else (impl_ReadsOk.l0 kj9 l1 true ((rd_T88 l1 x23_2).f0) l0 (l0.length : Int) (wrap64 (x23_2 + 1)))) else (some false))) else (some false))) else (if ((rd_T88 l1 x23_2).f2) = 0 then (if ((rd_T88 l1 x23_2).f1) = true then (if x5_2 = true then (if ((rd_T88 l1 x23_2).f0) = x6_2 then (impl_ReadsOk.l0 kj9 l1 true ((rd_T88 l1 x23_2).f0) l0 (l0.length : Int) (wrap64 (x23_2 + 1))) else (some false)) else (some false)) else (some false)) else (some false)))) = some r := by rw [if_neg (show ¬ (false = true) by decide)] at H; exact H
                          clear H
                          have H := H1
                          clear H1
                          by_cases c25 : ((rd_T88 l1 x23_2).f2) = 2
                          · rw [if_pos c25] at H
                            have c25b0 : (((rd_T88 l1 x23_2).f2) == 2) = true := beq_iff_eq.mpr c25
                            have c25b1 : (((rd_T88 l1 x23_2).f2) != 2) = false := bne_eq_false_iff_eq.mpr c25
                            clear c25
                            by_cases c26 : ((rd_T83 l0 x23_2).f0) = true
                            · rw [if_pos c26] at H
                              have c26b0 : ((rd_T83 l0 x23_2).f0) = true := c26
                              clear c26
                              obtain rfl := Option.some.inj H
                              have hnb27 := NB809_807.out
                              have hnc27 := NB807_809.out
                              have hcz28_0 : wc.cell? ⟨gb809, 0, none⟩ = some (.int .i64 ((rd_T88 l1 x23_2).f0)) := (blk_cell BK809.out 0).trans rfl
                              have hcz28_1 : wc.cell? ⟨gb809, 1, none⟩ = some (.bool ((rd_T88 l1 x23_2).f1)) := (blk_cell BK809.out 1).trans rfl
                              have hcz28_2 : wc.cell? ⟨gb809, 2, none⟩ = some (.int .i64 ((rd_T88 l1 x23_2).f2)) := (blk_cell BK809.out 2).trans rfl
                              have hfz28_0 := blk_frozen BK809.out 0
                              have hfz28_1 := blk_frozen BK809.out 1
                              have hfz28_2 := blk_frozen BK809.out 2
                              have hcz29_0 : wc.cell? ⟨gb807, 0, none⟩ = some (.bool ((rd_T83 l0 x23_2).f0)) := (blk_cell BK807.out 0).trans rfl
                              have hcz29_1 : wc.cell? ⟨gb807, 1, none⟩ = some (.int .i64 ((rd_T83 l0 x23_2).f1.f0)) := (blk_cell BK807.out 1).trans rfl
                              have hcz29_2 : wc.cell? ⟨gb807, 2, none⟩ = some (.int .i64 ((rd_T83 l0 x23_2).f1.f1)) := (blk_cell BK807.out 2).trans rfl
                              have hfz29_0 := blk_frozen BK807.out 0
                              have hfz29_1 := blk_frozen BK807.out 1
                              have hfz29_2 := blk_frozen BK807.out 2
                              go_wp2
                              repeat (go_quiet (fail); try go_wp2)
                              go_ret
                              exact ⟨er_, hb2_ HB.out GE807.out GE809.out⟩
                            · rw [if_neg c26] at H
                              have c26b0 : ((rd_T83 l0 x23_2).f0) = false := by simpa using c26
                              clear c26
                              by_cases c30 : x5_2 = true
                              · subst c30
                                have H1 : (some false) = some r := by rw [if_pos rfl] at H; exact H
                                clear H
                                have H := H1
                                clear H1
                                obtain rfl := Option.some.inj H
                                have hnb31 := NB809_807.out
                                have hnc31 := NB807_809.out
                                have hcz32_0 : wc.cell? ⟨gb809, 0, none⟩ = some (.int .i64 ((rd_T88 l1 x23_2).f0)) := (blk_cell BK809.out 0).trans rfl
                                have hcz32_1 : wc.cell? ⟨gb809, 1, none⟩ = some (.bool ((rd_T88 l1 x23_2).f1)) := (blk_cell BK809.out 1).trans rfl
                                have hcz32_2 : wc.cell? ⟨gb809, 2, none⟩ = some (.int .i64 ((rd_T88 l1 x23_2).f2)) := (blk_cell BK809.out 2).trans rfl
                                have hfz32_0 := blk_frozen BK809.out 0
                                have hfz32_1 := blk_frozen BK809.out 1
                                have hfz32_2 := blk_frozen BK809.out 2
                                have hcz33_0 : wc.cell? ⟨gb807, 0, none⟩ = some (.bool ((rd_T83 l0 x23_2).f0)) := (blk_cell BK807.out 0).trans rfl
                                have hcz33_1 : wc.cell? ⟨gb807, 1, none⟩ = some (.int .i64 ((rd_T83 l0 x23_2).f1.f0)) := (blk_cell BK807.out 1).trans rfl
                                have hcz33_2 : wc.cell? ⟨gb807, 2, none⟩ = some (.int .i64 ((rd_T83 l0 x23_2).f1.f1)) := (blk_cell BK807.out 2).trans rfl
                                have hfz33_0 := blk_frozen BK807.out 0
                                have hfz33_1 := blk_frozen BK807.out 1
                                have hfz33_2 := blk_frozen BK807.out 2
                                go_wp2
                                repeat (go_quiet (fail); try go_wp2)
                                go_ret
                                exact ⟨er_, hb2_ HB.out GE807.out GE809.out⟩
                              · replace c30 := Bool.eq_false_iff.mpr c30
                                subst c30
                                have H1 : (if ((rd_T88 l1 x23_2).f0) = 0 then (if ((rd_T88 l1 x23_2).f1) = false then (impl_ReadsOk.l0 kj9 l1 false x6_2 l0 (l0.length : Int) (wrap64 (x23_2 + 1))) else (some false)) else (some false)) = some r := by rw [if_neg (show ¬ (false = true) by decide)] at H; exact H
                                clear H
                                have H := H1
                                clear H1
                                by_cases c34 : ((rd_T88 l1 x23_2).f0) = 0
                                · rw [if_pos c34] at H
                                  have c34b0 : (((rd_T88 l1 x23_2).f0) == 0) = true := beq_iff_eq.mpr c34
                                  have c34b1 : (((rd_T88 l1 x23_2).f0) != 0) = false := bne_eq_false_iff_eq.mpr c34
                                  clear c34
                                  by_cases c35 : ((rd_T88 l1 x23_2).f1) = false
                                  · rw [if_pos c35] at H
                                    have c35b0 : ((rd_T88 l1 x23_2).f1) = false := c35
                                    clear c35
                                    have H' := Aside0.mk H
                                    clear H
                                    have hnb36 := NB809_807.out
                                    have hnc36 := NB807_809.out
                                    have hcz37_0 : wc.cell? ⟨gb809, 0, none⟩ = some (.int .i64 ((rd_T88 l1 x23_2).f0)) := (blk_cell BK809.out 0).trans rfl
                                    have hcz37_1 : wc.cell? ⟨gb809, 1, none⟩ = some (.bool ((rd_T88 l1 x23_2).f1)) := (blk_cell BK809.out 1).trans rfl
                                    have hcz37_2 : wc.cell? ⟨gb809, 2, none⟩ = some (.int .i64 ((rd_T88 l1 x23_2).f2)) := (blk_cell BK809.out 2).trans rfl
                                    have hfz37_0 := blk_frozen BK809.out 0
                                    have hfz37_1 := blk_frozen BK809.out 1
                                    have hfz37_2 := blk_frozen BK809.out 2
                                    have hcz38_0 : wc.cell? ⟨gb807, 0, none⟩ = some (.bool ((rd_T83 l0 x23_2).f0)) := (blk_cell BK807.out 0).trans rfl
                                    have hcz38_1 : wc.cell? ⟨gb807, 1, none⟩ = some (.int .i64 ((rd_T83 l0 x23_2).f1.f0)) := (blk_cell BK807.out 1).trans rfl
                                    have hcz38_2 : wc.cell? ⟨gb807, 2, none⟩ = some (.int .i64 ((rd_T83 l0 x23_2).f1.f1)) := (blk_cell BK807.out 2).trans rfl
                                    have hfz38_0 := blk_frozen BK807.out 0
                                    have hfz38_1 := blk_frozen BK807.out 1
                                    have hfz38_2 := blk_frozen BK807.out 2
                                    go_wp2
                                    repeat (go_quiet (fail); try go_wp2)
                                    go_roundg kj9
                                    case measure => have := HJ2.out; have := HK2.out; have := HJ9.out; omega
                                    case rel => (try rw [← Nbq16.out]); exact ⟨(false), (x6_2), (wrap64 (x23_2 + 1)), (by first | rfl | (simp; done) | (simp [*]; done)), (by first | rfl | (simp; done) | (simp [*]; done)), (by first | rfl | (simp; done) | (simp [*]; done)), H', ⟨by have := HJ2.out; have := HK2.out; have := HJ9.out; omega⟩, ⟨hb2_ HB.out GE807.out GE809.out⟩⟩
                                  · rw [if_neg c35] at H
                                    have c35b0 : ((rd_T88 l1 x23_2).f1) = true := by simpa using c35
                                    clear c35
                                    obtain rfl := Option.some.inj H
                                    have hnb39 := NB809_807.out
                                    have hnc39 := NB807_809.out
                                    have hcz40_0 : wc.cell? ⟨gb809, 0, none⟩ = some (.int .i64 ((rd_T88 l1 x23_2).f0)) := (blk_cell BK809.out 0).trans rfl
                                    have hcz40_1 : wc.cell? ⟨gb809, 1, none⟩ = some (.bool ((rd_T88 l1 x23_2).f1)) := (blk_cell BK809.out 1).trans rfl
                                    have hcz40_2 : wc.cell? ⟨gb809, 2, none⟩ = some (.int .i64 ((rd_T88 l1 x23_2).f2)) := (blk_cell BK809.out 2).trans rfl
                                    have hfz40_0 := blk_frozen BK809.out 0
                                    have hfz40_1 := blk_frozen BK809.out 1
                                    have hfz40_2 := blk_frozen BK809.out 2
                                    have hcz41_0 : wc.cell? ⟨gb807, 0, none⟩ = some (.bool ((rd_T83 l0 x23_2).f0)) := (blk_cell BK807.out 0).trans rfl
                                    have hcz41_1 : wc.cell? ⟨gb807, 1, none⟩ = some (.int .i64 ((rd_T83 l0 x23_2).f1.f0)) := (blk_cell BK807.out 1).trans rfl
                                    have hcz41_2 : wc.cell? ⟨gb807, 2, none⟩ = some (.int .i64 ((rd_T83 l0 x23_2).f1.f1)) := (blk_cell BK807.out 2).trans rfl
                                    have hfz41_0 := blk_frozen BK807.out 0
                                    have hfz41_1 := blk_frozen BK807.out 1
                                    have hfz41_2 := blk_frozen BK807.out 2
                                    go_wp2
                                    repeat (go_quiet (fail); try go_wp2)
                                    go_ret
                                    exact ⟨er_, hb2_ HB.out GE807.out GE809.out⟩
                                · rw [if_neg c34] at H
                                  have c34b0 : (((rd_T88 l1 x23_2).f0) == 0) = false := beq_eq_false_iff_ne.mpr c34
                                  have c34b1 : (((rd_T88 l1 x23_2).f0) != 0) = true := bne_iff_ne.mpr c34
                                  obtain rfl := Option.some.inj H
                                  have hnb42 := NB809_807.out
                                  have hnc42 := NB807_809.out
                                  have hcz43_0 : wc.cell? ⟨gb809, 0, none⟩ = some (.int .i64 ((rd_T88 l1 x23_2).f0)) := (blk_cell BK809.out 0).trans rfl
                                  have hcz43_1 : wc.cell? ⟨gb809, 1, none⟩ = some (.bool ((rd_T88 l1 x23_2).f1)) := (blk_cell BK809.out 1).trans rfl
                                  have hcz43_2 : wc.cell? ⟨gb809, 2, none⟩ = some (.int .i64 ((rd_T88 l1 x23_2).f2)) := (blk_cell BK809.out 2).trans rfl
                                  have hfz43_0 := blk_frozen BK809.out 0
                                  have hfz43_1 := blk_frozen BK809.out 1
                                  have hfz43_2 := blk_frozen BK809.out 2
                                  have hcz44_0 : wc.cell? ⟨gb807, 0, none⟩ = some (.bool ((rd_T83 l0 x23_2).f0)) := (blk_cell BK807.out 0).trans rfl
                                  have hcz44_1 : wc.cell? ⟨gb807, 1, none⟩ = some (.int .i64 ((rd_T83 l0 x23_2).f1.f0)) := (blk_cell BK807.out 1).trans rfl
                                  have hcz44_2 : wc.cell? ⟨gb807, 2, none⟩ = some (.int .i64 ((rd_T83 l0 x23_2).f1.f1)) := (blk_cell BK807.out 2).trans rfl
                                  have hfz44_0 := blk_frozen BK807.out 0
                                  have hfz44_1 := blk_frozen BK807.out 1
                                  have hfz44_2 := blk_frozen BK807.out 2
                                  go_wp2
                                  repeat (go_quiet (fail); try go_wp2)
                                  go_ret
                                  exact ⟨er_, hb2_ HB.out GE807.out GE809.out⟩
                          · rw [if_neg c25] at H
                            have c25b0 : (((rd_T88 l1 x23_2).f2) == 2) = false := beq_eq_false_iff_ne.mpr c25
                            have c25b1 : (((rd_T88 l1 x23_2).f2) != 2) = true := bne_iff_ne.mpr c25
                            by_cases c45 : ((rd_T83 l0 x23_2).f0) = true
                            · rw [if_pos c45] at H
                              have c45b0 : ((rd_T83 l0 x23_2).f0) = true := c45
                              clear c45
                              by_cases c46 : ((rd_T88 l1 x23_2).f1) = true
                              · rw [if_pos c46] at H
                                have c46b0 : ((rd_T88 l1 x23_2).f1) = true := c46
                                clear c46
                                by_cases c47 : ((rd_T88 l1 x23_2).f2) = 0
                                · rw [if_pos c47] at H
                                  have c47b0 : (((rd_T88 l1 x23_2).f2) == 0) = true := beq_iff_eq.mpr c47
                                  have c47b1 : (((rd_T88 l1 x23_2).f2) != 0) = false := bne_eq_false_iff_eq.mpr c47
                                  clear c47
                                  by_cases c48 : x5_2 = true
                                  · subst c48
                                    have H1 : (if ((rd_T88 l1 x23_2).f0) = x6_2 then (if ((rd_T88 l1 x23_2).f0) > ((rd_T83 l0 x23_2).f1.f1) then (impl_ReadsOk.l0 kj9 l1 true ((rd_T88 l1 x23_2).f0) l0 (l0.length : Int) (wrap64 (x23_2 + 1))) else (some false)) else (some false)) = some r := by rw [if_pos rfl] at H; exact H
                                    clear H
                                    have H := H1
                                    clear H1
                                    by_cases c49 : ((rd_T88 l1 x23_2).f0) = x6_2
                                    · rw [if_pos c49] at H
                                      have c49b0 : (((rd_T88 l1 x23_2).f0) == x6_2) = true := beq_iff_eq.mpr c49
                                      have c49b1 : (((rd_T88 l1 x23_2).f0) != x6_2) = false := bne_eq_false_iff_eq.mpr c49
                                      clear c49
                                      by_cases c50 : ((rd_T88 l1 x23_2).f0) > ((rd_T83 l0 x23_2).f1.f1)
                                      · rw [if_pos c50] at H
                                        have c50b0 : decide (((rd_T83 l0 x23_2).f1.f1) < ((rd_T88 l1 x23_2).f0)) = true := decide_eq_true c50
                                        clear c50
                                        have H' := Aside0.mk H
                                        clear H
                                        have hnb51 := NB809_807.out
                                        have hnc51 := NB807_809.out
                                        have hcz52_0 : wc.cell? ⟨gb809, 0, none⟩ = some (.int .i64 ((rd_T88 l1 x23_2).f0)) := (blk_cell BK809.out 0).trans rfl
                                        have hcz52_1 : wc.cell? ⟨gb809, 1, none⟩ = some (.bool ((rd_T88 l1 x23_2).f1)) := (blk_cell BK809.out 1).trans rfl
                                        have hcz52_2 : wc.cell? ⟨gb809, 2, none⟩ = some (.int .i64 ((rd_T88 l1 x23_2).f2)) := (blk_cell BK809.out 2).trans rfl
                                        have hfz52_0 := blk_frozen BK809.out 0
                                        have hfz52_1 := blk_frozen BK809.out 1
                                        have hfz52_2 := blk_frozen BK809.out 2
                                        have hcz53_0 : wc.cell? ⟨gb807, 0, none⟩ = some (.bool ((rd_T83 l0 x23_2).f0)) := (blk_cell BK807.out 0).trans rfl
                                        have hcz53_1 : wc.cell? ⟨gb807, 1, none⟩ = some (.int .i64 ((rd_T83 l0 x23_2).f1.f0)) := (blk_cell BK807.out 1).trans rfl
                                        have hcz53_2 : wc.cell? ⟨gb807, 2, none⟩ = some (.int .i64 ((rd_T83 l0 x23_2).f1.f1)) := (blk_cell BK807.out 2).trans rfl
                                        have hfz53_0 := blk_frozen BK807.out 0
                                        have hfz53_1 := blk_frozen BK807.out 1
                                        have hfz53_2 := blk_frozen BK807.out 2
                                        go_wp2
                                        repeat (go_quiet (fail); try go_wp2)
                                        go_roundg kj9
                                        case measure => have := HJ2.out; have := HK2.out; have := HJ9.out; omega
                                        case rel => (try rw [← Nbq16.out]); exact ⟨(true), (((rd_T88 l1 x23_2).f0)), (wrap64 (x23_2 + 1)), (by first | rfl | (simp; done) | (simp [*]; done)), (by first | rfl | (simp; done) | (simp [*]; done)), (by first | rfl | (simp; done) | (simp [*]; done)), H', ⟨by have := HJ2.out; have := HK2.out; have := HJ9.out; omega⟩, ⟨hb2_ HB.out GE807.out GE809.out⟩⟩
                                      · rw [if_neg c50] at H
                                        have c50b0 : decide (((rd_T83 l0 x23_2).f1.f1) < ((rd_T88 l1 x23_2).f0)) = false := decide_eq_false c50
                                        clear c50
                                        obtain rfl := Option.some.inj H
                                        have hnb54 := NB809_807.out
                                        have hnc54 := NB807_809.out
                                        have hcz55_0 : wc.cell? ⟨gb809, 0, none⟩ = some (.int .i64 ((rd_T88 l1 x23_2).f0)) := (blk_cell BK809.out 0).trans rfl
                                        have hcz55_1 : wc.cell? ⟨gb809, 1, none⟩ = some (.bool ((rd_T88 l1 x23_2).f1)) := (blk_cell BK809.out 1).trans rfl
                                        have hcz55_2 : wc.cell? ⟨gb809, 2, none⟩ = some (.int .i64 ((rd_T88 l1 x23_2).f2)) := (blk_cell BK809.out 2).trans rfl
                                        have hfz55_0 := blk_frozen BK809.out 0
                                        have hfz55_1 := blk_frozen BK809.out 1
                                        have hfz55_2 := blk_frozen BK809.out 2
                                        have hcz56_0 : wc.cell? ⟨gb807, 0, none⟩ = some (.bool ((rd_T83 l0 x23_2).f0)) := (blk_cell BK807.out 0).trans rfl
                                        have hcz56_1 : wc.cell? ⟨gb807, 1, none⟩ = some (.int .i64 ((rd_T83 l0 x23_2).f1.f0)) := (blk_cell BK807.out 1).trans rfl
                                        have hcz56_2 : wc.cell? ⟨gb807, 2, none⟩ = some (.int .i64 ((rd_T83 l0 x23_2).f1.f1)) := (blk_cell BK807.out 2).trans rfl
                                        have hfz56_0 := blk_frozen BK807.out 0
                                        have hfz56_1 := blk_frozen BK807.out 1
                                        have hfz56_2 := blk_frozen BK807.out 2
                                        go_wp2
                                        repeat (go_quiet (fail); try go_wp2)
                                        go_ret
                                        exact ⟨er_, hb2_ HB.out GE807.out GE809.out⟩
                                    · rw [if_neg c49] at H
                                      have c49b0 : (((rd_T88 l1 x23_2).f0) == x6_2) = false := beq_eq_false_iff_ne.mpr c49
                                      have c49b1 : (((rd_T88 l1 x23_2).f0) != x6_2) = true := bne_iff_ne.mpr c49
                                      obtain rfl := Option.some.inj H
                                      have hnb57 := NB809_807.out
                                      have hnc57 := NB807_809.out
                                      have hcz58_0 : wc.cell? ⟨gb809, 0, none⟩ = some (.int .i64 ((rd_T88 l1 x23_2).f0)) := (blk_cell BK809.out 0).trans rfl
                                      have hcz58_1 : wc.cell? ⟨gb809, 1, none⟩ = some (.bool ((rd_T88 l1 x23_2).f1)) := (blk_cell BK809.out 1).trans rfl
                                      have hcz58_2 : wc.cell? ⟨gb809, 2, none⟩ = some (.int .i64 ((rd_T88 l1 x23_2).f2)) := (blk_cell BK809.out 2).trans rfl
                                      have hfz58_0 := blk_frozen BK809.out 0
                                      have hfz58_1 := blk_frozen BK809.out 1
                                      have hfz58_2 := blk_frozen BK809.out 2
                                      have hcz59_0 : wc.cell? ⟨gb807, 0, none⟩ = some (.bool ((rd_T83 l0 x23_2).f0)) := (blk_cell BK807.out 0).trans rfl
                                      have hcz59_1 : wc.cell? ⟨gb807, 1, none⟩ = some (.int .i64 ((rd_T83 l0 x23_2).f1.f0)) := (blk_cell BK807.out 1).trans rfl
                                      have hcz59_2 : wc.cell? ⟨gb807, 2, none⟩ = some (.int .i64 ((rd_T83 l0 x23_2).f1.f1)) := (blk_cell BK807.out 2).trans rfl
                                      have hfz59_0 := blk_frozen BK807.out 0
                                      have hfz59_1 := blk_frozen BK807.out 1
                                      have hfz59_2 := blk_frozen BK807.out 2
                                      go_wp2
                                      repeat (go_quiet (fail); try go_wp2)
                                      go_ret
                                      exact ⟨er_, hb2_ HB.out GE807.out GE809.out⟩
                                  · replace c48 := Bool.eq_false_iff.mpr c48
                                    subst c48
                                    have H1 : (some false) = some r := by rw [if_neg (show ¬ (false = true) by decide)] at H; exact H
                                    clear H
                                    have H := H1
                                    clear H1
                                    obtain rfl := Option.some.inj H
                                    have hnb60 := NB809_807.out
                                    have hnc60 := NB807_809.out
                                    have hcz61_0 : wc.cell? ⟨gb809, 0, none⟩ = some (.int .i64 ((rd_T88 l1 x23_2).f0)) := (blk_cell BK809.out 0).trans rfl
                                    have hcz61_1 : wc.cell? ⟨gb809, 1, none⟩ = some (.bool ((rd_T88 l1 x23_2).f1)) := (blk_cell BK809.out 1).trans rfl
                                    have hcz61_2 : wc.cell? ⟨gb809, 2, none⟩ = some (.int .i64 ((rd_T88 l1 x23_2).f2)) := (blk_cell BK809.out 2).trans rfl
                                    have hfz61_0 := blk_frozen BK809.out 0
                                    have hfz61_1 := blk_frozen BK809.out 1
                                    have hfz61_2 := blk_frozen BK809.out 2
                                    have hcz62_0 : wc.cell? ⟨gb807, 0, none⟩ = some (.bool ((rd_T83 l0 x23_2).f0)) := (blk_cell BK807.out 0).trans rfl
                                    have hcz62_1 : wc.cell? ⟨gb807, 1, none⟩ = some (.int .i64 ((rd_T83 l0 x23_2).f1.f0)) := (blk_cell BK807.out 1).trans rfl
                                    have hcz62_2 : wc.cell? ⟨gb807, 2, none⟩ = some (.int .i64 ((rd_T83 l0 x23_2).f1.f1)) := (blk_cell BK807.out 2).trans rfl
                                    have hfz62_0 := blk_frozen BK807.out 0
                                    have hfz62_1 := blk_frozen BK807.out 1
                                    have hfz62_2 := blk_frozen BK807.out 2
                                    go_wp2
                                    repeat (go_quiet (fail); try go_wp2)
                                    go_ret
                                    exact ⟨er_, hb2_ HB.out GE807.out GE809.out⟩
                                · rw [if_neg c47] at H
                                  have c47b0 : (((rd_T88 l1 x23_2).f2) == 0) = false := beq_eq_false_iff_ne.mpr c47
                                  have c47b1 : (((rd_T88 l1 x23_2).f2) != 0) = true := bne_iff_ne.mpr c47
                                  obtain rfl := Option.some.inj H
                                  have hnb63 := NB809_807.out
                                  have hnc63 := NB807_809.out
                                  have hcz64_0 : wc.cell? ⟨gb809, 0, none⟩ = some (.int .i64 ((rd_T88 l1 x23_2).f0)) := (blk_cell BK809.out 0).trans rfl
                                  have hcz64_1 : wc.cell? ⟨gb809, 1, none⟩ = some (.bool ((rd_T88 l1 x23_2).f1)) := (blk_cell BK809.out 1).trans rfl
                                  have hcz64_2 : wc.cell? ⟨gb809, 2, none⟩ = some (.int .i64 ((rd_T88 l1 x23_2).f2)) := (blk_cell BK809.out 2).trans rfl
                                  have hfz64_0 := blk_frozen BK809.out 0
                                  have hfz64_1 := blk_frozen BK809.out 1
                                  have hfz64_2 := blk_frozen BK809.out 2
                                  have hcz65_0 : wc.cell? ⟨gb807, 0, none⟩ = some (.bool ((rd_T83 l0 x23_2).f0)) := (blk_cell BK807.out 0).trans rfl
                                  have hcz65_1 : wc.cell? ⟨gb807, 1, none⟩ = some (.int .i64 ((rd_T83 l0 x23_2).f1.f0)) := (blk_cell BK807.out 1).trans rfl
                                  have hcz65_2 : wc.cell? ⟨gb807, 2, none⟩ = some (.int .i64 ((rd_T83 l0 x23_2).f1.f1)) := (blk_cell BK807.out 2).trans rfl
                                  have hfz65_0 := blk_frozen BK807.out 0
                                  have hfz65_1 := blk_frozen BK807.out 1
                                  have hfz65_2 := blk_frozen BK807.out 2
                                  go_wp2
                                  repeat (go_quiet (fail); try go_wp2)
                                  go_ret
                                  exact ⟨er_, hb2_ HB.out GE807.out GE809.out⟩
                              · rw [if_neg c46] at H
                                have c46b0 : ((rd_T88 l1 x23_2).f1) = false := by simpa using c46
                                clear c46
                                by_cases c66 : ((rd_T88 l1 x23_2).f2) = 0
                                · rw [if_pos c66] at H
                                  have c66b0 : (((rd_T88 l1 x23_2).f2) == 0) = true := beq_iff_eq.mpr c66
                                  have c66b1 : (((rd_T88 l1 x23_2).f2) != 0) = false := bne_eq_false_iff_eq.mpr c66
                                  clear c66
                                  replace H := Option.bind_eq_some_iff.mp H
                                  obtain ⟨t811, A670, H⟩ := H
                                  replace H : (if t811 = true then (if x5_2 = true then (if ((rd_T88 l1 x23_2).f0) ≥ x6_2 then (impl_ReadsOk.l0 kj9 l1 true ((rd_T88 l1 x23_2).f0) l0 (l0.length : Int) (wrap64 (x23_2 + 1))) else (some false)) else (impl_ReadsOk.l0 kj9 l1 true ((rd_T88 l1 x23_2).f0) l0 (l0.length : Int) (wrap64 (x23_2 + 1)))) else (some false)) = some r := H
                                  have A67 := Aside0.mk A670
                                  clear A670
                                  by_cases c68 : t811 = true
                                  · subst c68
                                    have H1 : (if x5_2 = true then (if ((rd_T88 l1 x23_2).f0) ≥ x6_2 then (impl_ReadsOk.l0 kj9 l1 true ((rd_T88 l1 x23_2).f0) l0 (l0.length : Int) (wrap64 (x23_2 + 1))) else (some false)) else (impl_ReadsOk.l0 kj9 l1 true ((rd_T88 l1 x23_2).f0) l0 (l0.length : Int) (wrap64 (x23_2 + 1)))) = some r := by rw [if_pos rfl] at H; exact H
                                    clear H
                                    have H := H1
                                    clear H1
                                    by_cases c69 : x5_2 = true
                                    · subst c69
                                      have H1 : (if ((rd_T88 l1 x23_2).f0) ≥ x6_2 then (impl_ReadsOk.l0 kj9 l1 true ((rd_T88 l1 x23_2).f0) l0 (l0.length : Int) (wrap64 (x23_2 + 1))) else (some false)) = some r := by rw [if_pos rfl] at H; exact H
                                      clear H
                                      have H := H1
                                      clear H1
                                      by_cases c70 : ((rd_T88 l1 x23_2).f0) ≥ x6_2
                                      · rw [if_pos c70] at H
                                        have c70b0 : decide (x6_2 ≤ ((rd_T88 l1 x23_2).f0)) = true := decide_eq_true c70
                                        clear c70
                                        have H' := Aside0.mk H
                                        clear H
                                        have hnb71 := NB809_807.out
                                        have hnc71 := NB807_809.out
                                        have hcz72_0 : wc.cell? ⟨gb809, 0, none⟩ = some (.int .i64 ((rd_T88 l1 x23_2).f0)) := (blk_cell BK809.out 0).trans rfl
                                        have hcz72_1 : wc.cell? ⟨gb809, 1, none⟩ = some (.bool ((rd_T88 l1 x23_2).f1)) := (blk_cell BK809.out 1).trans rfl
                                        have hcz72_2 : wc.cell? ⟨gb809, 2, none⟩ = some (.int .i64 ((rd_T88 l1 x23_2).f2)) := (blk_cell BK809.out 2).trans rfl
                                        have hfz72_0 := blk_frozen BK809.out 0
                                        have hfz72_1 := blk_frozen BK809.out 1
                                        have hfz72_2 := blk_frozen BK809.out 2
                                        have hcz73_0 : wc.cell? ⟨gb807, 0, none⟩ = some (.bool ((rd_T83 l0 x23_2).f0)) := (blk_cell BK807.out 0).trans rfl
                                        have hcz73_1 : wc.cell? ⟨gb807, 1, none⟩ = some (.int .i64 ((rd_T83 l0 x23_2).f1.f0)) := (blk_cell BK807.out 1).trans rfl
                                        have hcz73_2 : wc.cell? ⟨gb807, 2, none⟩ = some (.int .i64 ((rd_T83 l0 x23_2).f1.f1)) := (blk_cell BK807.out 2).trans rfl
                                        have hfz73_0 := blk_frozen BK807.out 0
                                        have hfz73_1 := blk_frozen BK807.out 1
                                        have hfz73_2 := blk_frozen BK807.out 2
                                        go_wp2_with (first | (go_at_call 56; (with_reducible refine (impl_Holds.calls ((rd_T83 l0 x23_2).f1.f0) ((rd_T83 l0 x23_2).f1.f1) ((rd_T88 l1 x23_2).f0) true _ A67.out).mono ?_); rintro e w74 ⟨rfl, hb⟩; have n0_ := Aside0.mk (bb_ BK807.out hb); have n1_ := Aside0.mk (bb_ BK809.out hb); have n2_ := Aside0.mk (below_step (hb2_ HB.out GE807.out GE809.out) hb); clear BK807; clear BK809; clear HB; have BK807 := n0_; have BK809 := n1_; have HB := n2_; clear n0_ n1_ n2_; (try clear hb); (try clear hb2); (try clear hk); (try clear hi); have hcz75_0 : w74.cell? ⟨gb809, 0, none⟩ = some (.int .i64 ((rd_T88 l1 x23_2).f0)) := (blk_cell BK809.out 0).trans rfl; have hcz75_1 : w74.cell? ⟨gb809, 1, none⟩ = some (.bool ((rd_T88 l1 x23_2).f1)) := (blk_cell BK809.out 1).trans rfl; have hcz75_2 : w74.cell? ⟨gb809, 2, none⟩ = some (.int .i64 ((rd_T88 l1 x23_2).f2)) := (blk_cell BK809.out 2).trans rfl; have hfz75_0 := blk_frozen BK809.out 0; have hfz75_1 := blk_frozen BK809.out 1; have hfz75_2 := blk_frozen BK809.out 2))
                                        repeat (go_quiet (first | (go_at_call 56; (with_reducible refine (impl_Holds.calls ((rd_T83 l0 x23_2).f1.f0) ((rd_T83 l0 x23_2).f1.f1) ((rd_T88 l1 x23_2).f0) true _ A67.out).mono ?_); rintro e w74 ⟨rfl, hb⟩; have n0_ := Aside0.mk (bb_ BK807.out hb); have n1_ := Aside0.mk (bb_ BK809.out hb); have n2_ := Aside0.mk (below_step (hb2_ HB.out GE807.out GE809.out) hb); clear BK807; clear BK809; clear HB; have BK807 := n0_; have BK809 := n1_; have HB := n2_; clear n0_ n1_ n2_; (try clear hb); (try clear hb2); (try clear hk); (try clear hi); have hcz75_0 : w74.cell? ⟨gb809, 0, none⟩ = some (.int .i64 ((rd_T88 l1 x23_2).f0)) := (blk_cell BK809.out 0).trans rfl; have hcz75_1 : w74.cell? ⟨gb809, 1, none⟩ = some (.bool ((rd_T88 l1 x23_2).f1)) := (blk_cell BK809.out 1).trans rfl; have hcz75_2 : w74.cell? ⟨gb809, 2, none⟩ = some (.int .i64 ((rd_T88 l1 x23_2).f2)) := (blk_cell BK809.out 2).trans rfl; have hfz75_0 := blk_frozen BK809.out 0; have hfz75_1 := blk_frozen BK809.out 1; have hfz75_2 := blk_frozen BK809.out 2)); try go_wp2_with (first | (go_at_call 56; (with_reducible refine (impl_Holds.calls ((rd_T83 l0 x23_2).f1.f0) ((rd_T83 l0 x23_2).f1.f1) ((rd_T88 l1 x23_2).f0) true _ A67.out).mono ?_); rintro e w74 ⟨rfl, hb⟩; have n0_ := Aside0.mk (bb_ BK807.out hb); have n1_ := Aside0.mk (bb_ BK809.out hb); have n2_ := Aside0.mk (below_step (hb2_ HB.out GE807.out GE809.out) hb); clear BK807; clear BK809; clear HB; have BK807 := n0_; have BK809 := n1_; have HB := n2_; clear n0_ n1_ n2_; (try clear hb); (try clear hb2); (try clear hk); (try clear hi); have hcz75_0 : w74.cell? ⟨gb809, 0, none⟩ = some (.int .i64 ((rd_T88 l1 x23_2).f0)) := (blk_cell BK809.out 0).trans rfl; have hcz75_1 : w74.cell? ⟨gb809, 1, none⟩ = some (.bool ((rd_T88 l1 x23_2).f1)) := (blk_cell BK809.out 1).trans rfl; have hcz75_2 : w74.cell? ⟨gb809, 2, none⟩ = some (.int .i64 ((rd_T88 l1 x23_2).f2)) := (blk_cell BK809.out 2).trans rfl; have hfz75_0 := blk_frozen BK809.out 0; have hfz75_1 := blk_frozen BK809.out 1; have hfz75_2 := blk_frozen BK809.out 2)))
                                        go_roundg kj9
                                        case measure => have := HJ2.out; have := HK2.out; have := HJ9.out; omega
                                        case rel => (try rw [← Nbq16.out]); exact ⟨(true), (((rd_T88 l1 x23_2).f0)), (wrap64 (x23_2 + 1)), (by first | rfl | (simp; done) | (simp [*]; done)), (by first | rfl | (simp; done) | (simp [*]; done)), (by first | rfl | (simp; done) | (simp [*]; done)), H', ⟨by have := HJ2.out; have := HK2.out; have := HJ9.out; omega⟩, ⟨hb2_ HB.out GE807.out GE809.out⟩⟩
                                      · rw [if_neg c70] at H
                                        have c70b0 : decide (x6_2 ≤ ((rd_T88 l1 x23_2).f0)) = false := decide_eq_false c70
                                        clear c70
                                        obtain rfl := Option.some.inj H
                                        have hnb76 := NB809_807.out
                                        have hnc76 := NB807_809.out
                                        have hcz77_0 : wc.cell? ⟨gb809, 0, none⟩ = some (.int .i64 ((rd_T88 l1 x23_2).f0)) := (blk_cell BK809.out 0).trans rfl
                                        have hcz77_1 : wc.cell? ⟨gb809, 1, none⟩ = some (.bool ((rd_T88 l1 x23_2).f1)) := (blk_cell BK809.out 1).trans rfl
                                        have hcz77_2 : wc.cell? ⟨gb809, 2, none⟩ = some (.int .i64 ((rd_T88 l1 x23_2).f2)) := (blk_cell BK809.out 2).trans rfl
                                        have hfz77_0 := blk_frozen BK809.out 0
                                        have hfz77_1 := blk_frozen BK809.out 1
                                        have hfz77_2 := blk_frozen BK809.out 2
                                        have hcz78_0 : wc.cell? ⟨gb807, 0, none⟩ = some (.bool ((rd_T83 l0 x23_2).f0)) := (blk_cell BK807.out 0).trans rfl
                                        have hcz78_1 : wc.cell? ⟨gb807, 1, none⟩ = some (.int .i64 ((rd_T83 l0 x23_2).f1.f0)) := (blk_cell BK807.out 1).trans rfl
                                        have hcz78_2 : wc.cell? ⟨gb807, 2, none⟩ = some (.int .i64 ((rd_T83 l0 x23_2).f1.f1)) := (blk_cell BK807.out 2).trans rfl
                                        have hfz78_0 := blk_frozen BK807.out 0
                                        have hfz78_1 := blk_frozen BK807.out 1
                                        have hfz78_2 := blk_frozen BK807.out 2
                                        go_wp2_with (first | (go_at_call 56; (with_reducible refine (impl_Holds.calls ((rd_T83 l0 x23_2).f1.f0) ((rd_T83 l0 x23_2).f1.f1) ((rd_T88 l1 x23_2).f0) true _ A67.out).mono ?_); rintro e w79 ⟨rfl, hb⟩; have n0_ := Aside0.mk (bb_ BK807.out hb); have n1_ := Aside0.mk (bb_ BK809.out hb); have n2_ := Aside0.mk (below_step (hb2_ HB.out GE807.out GE809.out) hb); clear BK807; clear BK809; clear HB; have BK807 := n0_; have BK809 := n1_; have HB := n2_; clear n0_ n1_ n2_; (try clear hb); (try clear hb2); (try clear hk); (try clear hi); have hcz80_0 : w79.cell? ⟨gb809, 0, none⟩ = some (.int .i64 ((rd_T88 l1 x23_2).f0)) := (blk_cell BK809.out 0).trans rfl; have hcz80_1 : w79.cell? ⟨gb809, 1, none⟩ = some (.bool ((rd_T88 l1 x23_2).f1)) := (blk_cell BK809.out 1).trans rfl; have hcz80_2 : w79.cell? ⟨gb809, 2, none⟩ = some (.int .i64 ((rd_T88 l1 x23_2).f2)) := (blk_cell BK809.out 2).trans rfl; have hfz80_0 := blk_frozen BK809.out 0; have hfz80_1 := blk_frozen BK809.out 1; have hfz80_2 := blk_frozen BK809.out 2))
                                        repeat (go_quiet (first | (go_at_call 56; (with_reducible refine (impl_Holds.calls ((rd_T83 l0 x23_2).f1.f0) ((rd_T83 l0 x23_2).f1.f1) ((rd_T88 l1 x23_2).f0) true _ A67.out).mono ?_); rintro e w79 ⟨rfl, hb⟩; have n0_ := Aside0.mk (bb_ BK807.out hb); have n1_ := Aside0.mk (bb_ BK809.out hb); have n2_ := Aside0.mk (below_step (hb2_ HB.out GE807.out GE809.out) hb); clear BK807; clear BK809; clear HB; have BK807 := n0_; have BK809 := n1_; have HB := n2_; clear n0_ n1_ n2_; (try clear hb); (try clear hb2); (try clear hk); (try clear hi); have hcz80_0 : w79.cell? ⟨gb809, 0, none⟩ = some (.int .i64 ((rd_T88 l1 x23_2).f0)) := (blk_cell BK809.out 0).trans rfl; have hcz80_1 : w79.cell? ⟨gb809, 1, none⟩ = some (.bool ((rd_T88 l1 x23_2).f1)) := (blk_cell BK809.out 1).trans rfl; have hcz80_2 : w79.cell? ⟨gb809, 2, none⟩ = some (.int .i64 ((rd_T88 l1 x23_2).f2)) := (blk_cell BK809.out 2).trans rfl; have hfz80_0 := blk_frozen BK809.out 0; have hfz80_1 := blk_frozen BK809.out 1; have hfz80_2 := blk_frozen BK809.out 2)); try go_wp2_with (first | (go_at_call 56; (with_reducible refine (impl_Holds.calls ((rd_T83 l0 x23_2).f1.f0) ((rd_T83 l0 x23_2).f1.f1) ((rd_T88 l1 x23_2).f0) true _ A67.out).mono ?_); rintro e w79 ⟨rfl, hb⟩; have n0_ := Aside0.mk (bb_ BK807.out hb); have n1_ := Aside0.mk (bb_ BK809.out hb); have n2_ := Aside0.mk (below_step (hb2_ HB.out GE807.out GE809.out) hb); clear BK807; clear BK809; clear HB; have BK807 := n0_; have BK809 := n1_; have HB := n2_; clear n0_ n1_ n2_; (try clear hb); (try clear hb2); (try clear hk); (try clear hi); have hcz80_0 : w79.cell? ⟨gb809, 0, none⟩ = some (.int .i64 ((rd_T88 l1 x23_2).f0)) := (blk_cell BK809.out 0).trans rfl; have hcz80_1 : w79.cell? ⟨gb809, 1, none⟩ = some (.bool ((rd_T88 l1 x23_2).f1)) := (blk_cell BK809.out 1).trans rfl; have hcz80_2 : w79.cell? ⟨gb809, 2, none⟩ = some (.int .i64 ((rd_T88 l1 x23_2).f2)) := (blk_cell BK809.out 2).trans rfl; have hfz80_0 := blk_frozen BK809.out 0; have hfz80_1 := blk_frozen BK809.out 1; have hfz80_2 := blk_frozen BK809.out 2)))
                                        go_ret
                                        exact ⟨er_, hb2_ HB.out GE807.out GE809.out⟩
                                    · replace c69 := Bool.eq_false_iff.mpr c69
                                      subst c69
                                      have H1 : (impl_ReadsOk.l0 kj9 l1 true ((rd_T88 l1 x23_2).f0) l0 (l0.length : Int) (wrap64 (x23_2 + 1))) = some r := by rw [if_neg (show ¬ (false = true) by decide)] at H; exact H
                                      clear H
                                      have H := H1
                                      clear H1
                                      have H' := Aside0.mk H
                                      clear H
                                      have hnb81 := NB809_807.out
                                      have hnc81 := NB807_809.out
                                      have hcz82_0 : wc.cell? ⟨gb809, 0, none⟩ = some (.int .i64 ((rd_T88 l1 x23_2).f0)) := (blk_cell BK809.out 0).trans rfl
                                      have hcz82_1 : wc.cell? ⟨gb809, 1, none⟩ = some (.bool ((rd_T88 l1 x23_2).f1)) := (blk_cell BK809.out 1).trans rfl
                                      have hcz82_2 : wc.cell? ⟨gb809, 2, none⟩ = some (.int .i64 ((rd_T88 l1 x23_2).f2)) := (blk_cell BK809.out 2).trans rfl
                                      have hfz82_0 := blk_frozen BK809.out 0
                                      have hfz82_1 := blk_frozen BK809.out 1
                                      have hfz82_2 := blk_frozen BK809.out 2
                                      have hcz83_0 : wc.cell? ⟨gb807, 0, none⟩ = some (.bool ((rd_T83 l0 x23_2).f0)) := (blk_cell BK807.out 0).trans rfl
                                      have hcz83_1 : wc.cell? ⟨gb807, 1, none⟩ = some (.int .i64 ((rd_T83 l0 x23_2).f1.f0)) := (blk_cell BK807.out 1).trans rfl
                                      have hcz83_2 : wc.cell? ⟨gb807, 2, none⟩ = some (.int .i64 ((rd_T83 l0 x23_2).f1.f1)) := (blk_cell BK807.out 2).trans rfl
                                      have hfz83_0 := blk_frozen BK807.out 0
                                      have hfz83_1 := blk_frozen BK807.out 1
                                      have hfz83_2 := blk_frozen BK807.out 2
                                      go_wp2_with (first | (go_at_call 56; (with_reducible refine (impl_Holds.calls ((rd_T83 l0 x23_2).f1.f0) ((rd_T83 l0 x23_2).f1.f1) ((rd_T88 l1 x23_2).f0) true _ A67.out).mono ?_); rintro e w84 ⟨rfl, hb⟩; have n0_ := Aside0.mk (bb_ BK807.out hb); have n1_ := Aside0.mk (bb_ BK809.out hb); have n2_ := Aside0.mk (below_step (hb2_ HB.out GE807.out GE809.out) hb); clear BK807; clear BK809; clear HB; have BK807 := n0_; have BK809 := n1_; have HB := n2_; clear n0_ n1_ n2_; (try clear hb); (try clear hb2); (try clear hk); (try clear hi); have hcz85_0 : w84.cell? ⟨gb809, 0, none⟩ = some (.int .i64 ((rd_T88 l1 x23_2).f0)) := (blk_cell BK809.out 0).trans rfl; have hcz85_1 : w84.cell? ⟨gb809, 1, none⟩ = some (.bool ((rd_T88 l1 x23_2).f1)) := (blk_cell BK809.out 1).trans rfl; have hcz85_2 : w84.cell? ⟨gb809, 2, none⟩ = some (.int .i64 ((rd_T88 l1 x23_2).f2)) := (blk_cell BK809.out 2).trans rfl; have hfz85_0 := blk_frozen BK809.out 0; have hfz85_1 := blk_frozen BK809.out 1; have hfz85_2 := blk_frozen BK809.out 2))
                                      repeat (go_quiet (first | (go_at_call 56; (with_reducible refine (impl_Holds.calls ((rd_T83 l0 x23_2).f1.f0) ((rd_T83 l0 x23_2).f1.f1) ((rd_T88 l1 x23_2).f0) true _ A67.out).mono ?_); rintro e w84 ⟨rfl, hb⟩; have n0_ := Aside0.mk (bb_ BK807.out hb); have n1_ := Aside0.mk (bb_ BK809.out hb); have n2_ := Aside0.mk (below_step (hb2_ HB.out GE807.out GE809.out) hb); clear BK807; clear BK809; clear HB; have BK807 := n0_; have BK809 := n1_; have HB := n2_; clear n0_ n1_ n2_; (try clear hb); (try clear hb2); (try clear hk); (try clear hi); have hcz85_0 : w84.cell? ⟨gb809, 0, none⟩ = some (.int .i64 ((rd_T88 l1 x23_2).f0)) := (blk_cell BK809.out 0).trans rfl; have hcz85_1 : w84.cell? ⟨gb809, 1, none⟩ = some (.bool ((rd_T88 l1 x23_2).f1)) := (blk_cell BK809.out 1).trans rfl; have hcz85_2 : w84.cell? ⟨gb809, 2, none⟩ = some (.int .i64 ((rd_T88 l1 x23_2).f2)) := (blk_cell BK809.out 2).trans rfl; have hfz85_0 := blk_frozen BK809.out 0; have hfz85_1 := blk_frozen BK809.out 1; have hfz85_2 := blk_frozen BK809.out 2)); try go_wp2_with (first | (go_at_call 56; (with_reducible refine (impl_Holds.calls ((rd_T83 l0 x23_2).f1.f0) ((rd_T83 l0 x23_2).f1.f1) ((rd_T88 l1 x23_2).f0) true _ A67.out).mono ?_); rintro e w84 ⟨rfl, hb⟩; have n0_ := Aside0.mk (bb_ BK807.out hb); have n1_ := Aside0.mk (bb_ BK809.out hb); have n2_ := Aside0.mk (below_step (hb2_ HB.out GE807.out GE809.out) hb); clear BK807; clear BK809; clear HB; have BK807 := n0_; have BK809 := n1_; have HB := n2_; clear n0_ n1_ n2_; (try clear hb); (try clear hb2); (try clear hk); (try clear hi); have hcz85_0 : w84.cell? ⟨gb809, 0, none⟩ = some (.int .i64 ((rd_T88 l1 x23_2).f0)) := (blk_cell BK809.out 0).trans rfl; have hcz85_1 : w84.cell? ⟨gb809, 1, none⟩ = some (.bool ((rd_T88 l1 x23_2).f1)) := (blk_cell BK809.out 1).trans rfl; have hcz85_2 : w84.cell? ⟨gb809, 2, none⟩ = some (.int .i64 ((rd_T88 l1 x23_2).f2)) := (blk_cell BK809.out 2).trans rfl; have hfz85_0 := blk_frozen BK809.out 0; have hfz85_1 := blk_frozen BK809.out 1; have hfz85_2 := blk_frozen BK809.out 2)))
                                      go_roundg kj9
                                      case measure => have := HJ2.out; have := HK2.out; have := HJ9.out; omega
                                      case rel => (try rw [← Nbq16.out]); exact ⟨(true), (((rd_T88 l1 x23_2).f0)), (wrap64 (x23_2 + 1)), (by first | rfl | (simp; done) | (simp [*]; done)), (by first | rfl | (simp; done) | (simp [*]; done)), (by first | rfl | (simp; done) | (simp [*]; done)), H', ⟨by have := HJ2.out; have := HK2.out; have := HJ9.out; omega⟩, ⟨hb2_ HB.out GE807.out GE809.out⟩⟩
                                  · replace c68 := Bool.eq_false_iff.mpr c68
                                    subst c68
                                    have H1 : (some false) = some r := by rw [if_neg (show ¬ (false = true) by decide)] at H; exact H
                                    clear H
                                    have H := H1
                                    clear H1
                                    obtain rfl := Option.some.inj H
                                    have hnb86 := NB809_807.out
                                    have hnc86 := NB807_809.out
                                    have hcz87_0 : wc.cell? ⟨gb809, 0, none⟩ = some (.int .i64 ((rd_T88 l1 x23_2).f0)) := (blk_cell BK809.out 0).trans rfl
                                    have hcz87_1 : wc.cell? ⟨gb809, 1, none⟩ = some (.bool ((rd_T88 l1 x23_2).f1)) := (blk_cell BK809.out 1).trans rfl
                                    have hcz87_2 : wc.cell? ⟨gb809, 2, none⟩ = some (.int .i64 ((rd_T88 l1 x23_2).f2)) := (blk_cell BK809.out 2).trans rfl
                                    have hfz87_0 := blk_frozen BK809.out 0
                                    have hfz87_1 := blk_frozen BK809.out 1
                                    have hfz87_2 := blk_frozen BK809.out 2
                                    have hcz88_0 : wc.cell? ⟨gb807, 0, none⟩ = some (.bool ((rd_T83 l0 x23_2).f0)) := (blk_cell BK807.out 0).trans rfl
                                    have hcz88_1 : wc.cell? ⟨gb807, 1, none⟩ = some (.int .i64 ((rd_T83 l0 x23_2).f1.f0)) := (blk_cell BK807.out 1).trans rfl
                                    have hcz88_2 : wc.cell? ⟨gb807, 2, none⟩ = some (.int .i64 ((rd_T83 l0 x23_2).f1.f1)) := (blk_cell BK807.out 2).trans rfl
                                    have hfz88_0 := blk_frozen BK807.out 0
                                    have hfz88_1 := blk_frozen BK807.out 1
                                    have hfz88_2 := blk_frozen BK807.out 2
                                    go_wp2_with (first | (go_at_call 56; (with_reducible refine (impl_Holds.calls ((rd_T83 l0 x23_2).f1.f0) ((rd_T83 l0 x23_2).f1.f1) ((rd_T88 l1 x23_2).f0) false _ A67.out).mono ?_); rintro e w89 ⟨rfl, hb⟩; have n0_ := Aside0.mk (bb_ BK807.out hb); have n1_ := Aside0.mk (bb_ BK809.out hb); have n2_ := Aside0.mk (below_step (hb2_ HB.out GE807.out GE809.out) hb); clear BK807; clear BK809; clear HB; have BK807 := n0_; have BK809 := n1_; have HB := n2_; clear n0_ n1_ n2_; (try clear hb); (try clear hb2); (try clear hk); (try clear hi)))
                                    repeat (go_quiet (first | (go_at_call 56; (with_reducible refine (impl_Holds.calls ((rd_T83 l0 x23_2).f1.f0) ((rd_T83 l0 x23_2).f1.f1) ((rd_T88 l1 x23_2).f0) false _ A67.out).mono ?_); rintro e w89 ⟨rfl, hb⟩; have n0_ := Aside0.mk (bb_ BK807.out hb); have n1_ := Aside0.mk (bb_ BK809.out hb); have n2_ := Aside0.mk (below_step (hb2_ HB.out GE807.out GE809.out) hb); clear BK807; clear BK809; clear HB; have BK807 := n0_; have BK809 := n1_; have HB := n2_; clear n0_ n1_ n2_; (try clear hb); (try clear hb2); (try clear hk); (try clear hi))); try go_wp2_with (first | (go_at_call 56; (with_reducible refine (impl_Holds.calls ((rd_T83 l0 x23_2).f1.f0) ((rd_T83 l0 x23_2).f1.f1) ((rd_T88 l1 x23_2).f0) false _ A67.out).mono ?_); rintro e w89 ⟨rfl, hb⟩; have n0_ := Aside0.mk (bb_ BK807.out hb); have n1_ := Aside0.mk (bb_ BK809.out hb); have n2_ := Aside0.mk (below_step (hb2_ HB.out GE807.out GE809.out) hb); clear BK807; clear BK809; clear HB; have BK807 := n0_; have BK809 := n1_; have HB := n2_; clear n0_ n1_ n2_; (try clear hb); (try clear hb2); (try clear hk); (try clear hi))))
                                    go_ret
                                    exact ⟨er_, hb2_ HB.out GE807.out GE809.out⟩
                                · rw [if_neg c66] at H
                                  have c66b0 : (((rd_T88 l1 x23_2).f2) == 0) = false := beq_eq_false_iff_ne.mpr c66
                                  have c66b1 : (((rd_T88 l1 x23_2).f2) != 0) = true := bne_iff_ne.mpr c66
                                  obtain rfl := Option.some.inj H
                                  have hnb90 := NB809_807.out
                                  have hnc90 := NB807_809.out
                                  have hcz91_0 : wc.cell? ⟨gb809, 0, none⟩ = some (.int .i64 ((rd_T88 l1 x23_2).f0)) := (blk_cell BK809.out 0).trans rfl
                                  have hcz91_1 : wc.cell? ⟨gb809, 1, none⟩ = some (.bool ((rd_T88 l1 x23_2).f1)) := (blk_cell BK809.out 1).trans rfl
                                  have hcz91_2 : wc.cell? ⟨gb809, 2, none⟩ = some (.int .i64 ((rd_T88 l1 x23_2).f2)) := (blk_cell BK809.out 2).trans rfl
                                  have hfz91_0 := blk_frozen BK809.out 0
                                  have hfz91_1 := blk_frozen BK809.out 1
                                  have hfz91_2 := blk_frozen BK809.out 2
                                  have hcz92_0 : wc.cell? ⟨gb807, 0, none⟩ = some (.bool ((rd_T83 l0 x23_2).f0)) := (blk_cell BK807.out 0).trans rfl
                                  have hcz92_1 : wc.cell? ⟨gb807, 1, none⟩ = some (.int .i64 ((rd_T83 l0 x23_2).f1.f0)) := (blk_cell BK807.out 1).trans rfl
                                  have hcz92_2 : wc.cell? ⟨gb807, 2, none⟩ = some (.int .i64 ((rd_T83 l0 x23_2).f1.f1)) := (blk_cell BK807.out 2).trans rfl
                                  have hfz92_0 := blk_frozen BK807.out 0
                                  have hfz92_1 := blk_frozen BK807.out 1
                                  have hfz92_2 := blk_frozen BK807.out 2
                                  go_wp2
                                  repeat (go_quiet (fail); try go_wp2)
                                  go_ret
                                  exact ⟨er_, hb2_ HB.out GE807.out GE809.out⟩
                            · rw [if_neg c45] at H
                              have c45b0 : ((rd_T83 l0 x23_2).f0) = false := by simpa using c45
                              clear c45
                              by_cases c93 : ((rd_T88 l1 x23_2).f2) = 0
                              · rw [if_pos c93] at H
                                have c93b0 : (((rd_T88 l1 x23_2).f2) == 0) = true := beq_iff_eq.mpr c93
                                have c93b1 : (((rd_T88 l1 x23_2).f2) != 0) = false := bne_eq_false_iff_eq.mpr c93
                                clear c93
                                by_cases c94 : ((rd_T88 l1 x23_2).f1) = true
                                · rw [if_pos c94] at H
                                  have c94b0 : ((rd_T88 l1 x23_2).f1) = true := c94
                                  clear c94
                                  by_cases c95 : x5_2 = true
                                  · subst c95
                                    have H1 : (if ((rd_T88 l1 x23_2).f0) = x6_2 then (impl_ReadsOk.l0 kj9 l1 true ((rd_T88 l1 x23_2).f0) l0 (l0.length : Int) (wrap64 (x23_2 + 1))) else (some false)) = some r := by rw [if_pos rfl] at H; exact H
                                    clear H
                                    have H := H1
                                    clear H1
                                    by_cases c96 : ((rd_T88 l1 x23_2).f0) = x6_2
                                    · rw [if_pos c96] at H
                                      have c96b0 : (((rd_T88 l1 x23_2).f0) == x6_2) = true := beq_iff_eq.mpr c96
                                      have c96b1 : (((rd_T88 l1 x23_2).f0) != x6_2) = false := bne_eq_false_iff_eq.mpr c96
                                      clear c96
                                      have H' := Aside0.mk H
                                      clear H
                                      have hnb97 := NB809_807.out
                                      have hnc97 := NB807_809.out
                                      have hcz98_0 : wc.cell? ⟨gb809, 0, none⟩ = some (.int .i64 ((rd_T88 l1 x23_2).f0)) := (blk_cell BK809.out 0).trans rfl
                                      have hcz98_1 : wc.cell? ⟨gb809, 1, none⟩ = some (.bool ((rd_T88 l1 x23_2).f1)) := (blk_cell BK809.out 1).trans rfl
                                      have hcz98_2 : wc.cell? ⟨gb809, 2, none⟩ = some (.int .i64 ((rd_T88 l1 x23_2).f2)) := (blk_cell BK809.out 2).trans rfl
                                      have hfz98_0 := blk_frozen BK809.out 0
                                      have hfz98_1 := blk_frozen BK809.out 1
                                      have hfz98_2 := blk_frozen BK809.out 2
                                      have hcz99_0 : wc.cell? ⟨gb807, 0, none⟩ = some (.bool ((rd_T83 l0 x23_2).f0)) := (blk_cell BK807.out 0).trans rfl
                                      have hcz99_1 : wc.cell? ⟨gb807, 1, none⟩ = some (.int .i64 ((rd_T83 l0 x23_2).f1.f0)) := (blk_cell BK807.out 1).trans rfl
                                      have hcz99_2 : wc.cell? ⟨gb807, 2, none⟩ = some (.int .i64 ((rd_T83 l0 x23_2).f1.f1)) := (blk_cell BK807.out 2).trans rfl
                                      have hfz99_0 := blk_frozen BK807.out 0
                                      have hfz99_1 := blk_frozen BK807.out 1
                                      have hfz99_2 := blk_frozen BK807.out 2
                                      go_wp2
                                      repeat (go_quiet (fail); try go_wp2)
                                      go_roundg kj9
                                      case measure => have := HJ2.out; have := HK2.out; have := HJ9.out; omega
                                      case rel => (try rw [← Nbq16.out]); exact ⟨(true), (((rd_T88 l1 x23_2).f0)), (wrap64 (x23_2 + 1)), (by first | rfl | (simp; done) | (simp [*]; done)), (by first | rfl | (simp; done) | (simp [*]; done)), (by first | rfl | (simp; done) | (simp [*]; done)), H', ⟨by have := HJ2.out; have := HK2.out; have := HJ9.out; omega⟩, ⟨hb2_ HB.out GE807.out GE809.out⟩⟩
                                    · rw [if_neg c96] at H
                                      have c96b0 : (((rd_T88 l1 x23_2).f0) == x6_2) = false := beq_eq_false_iff_ne.mpr c96
                                      have c96b1 : (((rd_T88 l1 x23_2).f0) != x6_2) = true := bne_iff_ne.mpr c96
                                      obtain rfl := Option.some.inj H
                                      have hnb100 := NB809_807.out
                                      have hnc100 := NB807_809.out
                                      have hcz101_0 : wc.cell? ⟨gb809, 0, none⟩ = some (.int .i64 ((rd_T88 l1 x23_2).f0)) := (blk_cell BK809.out 0).trans rfl
                                      have hcz101_1 : wc.cell? ⟨gb809, 1, none⟩ = some (.bool ((rd_T88 l1 x23_2).f1)) := (blk_cell BK809.out 1).trans rfl
                                      have hcz101_2 : wc.cell? ⟨gb809, 2, none⟩ = some (.int .i64 ((rd_T88 l1 x23_2).f2)) := (blk_cell BK809.out 2).trans rfl
                                      have hfz101_0 := blk_frozen BK809.out 0
                                      have hfz101_1 := blk_frozen BK809.out 1
                                      have hfz101_2 := blk_frozen BK809.out 2
                                      have hcz102_0 : wc.cell? ⟨gb807, 0, none⟩ = some (.bool ((rd_T83 l0 x23_2).f0)) := (blk_cell BK807.out 0).trans rfl
                                      have hcz102_1 : wc.cell? ⟨gb807, 1, none⟩ = some (.int .i64 ((rd_T83 l0 x23_2).f1.f0)) := (blk_cell BK807.out 1).trans rfl
                                      have hcz102_2 : wc.cell? ⟨gb807, 2, none⟩ = some (.int .i64 ((rd_T83 l0 x23_2).f1.f1)) := (blk_cell BK807.out 2).trans rfl
                                      have hfz102_0 := blk_frozen BK807.out 0
                                      have hfz102_1 := blk_frozen BK807.out 1
                                      have hfz102_2 := blk_frozen BK807.out 2
                                      go_wp2
                                      repeat (go_quiet (fail); try go_wp2)
                                      go_ret
                                      exact ⟨er_, hb2_ HB.out GE807.out GE809.out⟩
                                  · replace c95 := Bool.eq_false_iff.mpr c95
                                    subst c95
                                    have H1 : (some false) = some r := by rw [if_neg (show ¬ (false = true) by decide)] at H; exact H
                                    clear H
                                    have H := H1
                                    clear H1
                                    obtain rfl := Option.some.inj H
                                    have hnb103 := NB809_807.out
                                    have hnc103 := NB807_809.out
                                    have hcz104_0 : wc.cell? ⟨gb809, 0, none⟩ = some (.int .i64 ((rd_T88 l1 x23_2).f0)) := (blk_cell BK809.out 0).trans rfl
                                    have hcz104_1 : wc.cell? ⟨gb809, 1, none⟩ = some (.bool ((rd_T88 l1 x23_2).f1)) := (blk_cell BK809.out 1).trans rfl
                                    have hcz104_2 : wc.cell? ⟨gb809, 2, none⟩ = some (.int .i64 ((rd_T88 l1 x23_2).f2)) := (blk_cell BK809.out 2).trans rfl
                                    have hfz104_0 := blk_frozen BK809.out 0
                                    have hfz104_1 := blk_frozen BK809.out 1
                                    have hfz104_2 := blk_frozen BK809.out 2
                                    have hcz105_0 : wc.cell? ⟨gb807, 0, none⟩ = some (.bool ((rd_T83 l0 x23_2).f0)) := (blk_cell BK807.out 0).trans rfl
                                    have hcz105_1 : wc.cell? ⟨gb807, 1, none⟩ = some (.int .i64 ((rd_T83 l0 x23_2).f1.f0)) := (blk_cell BK807.out 1).trans rfl
                                    have hcz105_2 : wc.cell? ⟨gb807, 2, none⟩ = some (.int .i64 ((rd_T83 l0 x23_2).f1.f1)) := (blk_cell BK807.out 2).trans rfl
                                    have hfz105_0 := blk_frozen BK807.out 0
                                    have hfz105_1 := blk_frozen BK807.out 1
                                    have hfz105_2 := blk_frozen BK807.out 2
                                    go_wp2
                                    repeat (go_quiet (fail); try go_wp2)
                                    go_ret
                                    exact ⟨er_, hb2_ HB.out GE807.out GE809.out⟩
                                · rw [if_neg c94] at H
                                  have c94b0 : ((rd_T88 l1 x23_2).f1) = false := by simpa using c94
                                  clear c94
                                  obtain rfl := Option.some.inj H
                                  have hnb106 := NB809_807.out
                                  have hnc106 := NB807_809.out
                                  have hcz107_0 : wc.cell? ⟨gb809, 0, none⟩ = some (.int .i64 ((rd_T88 l1 x23_2).f0)) := (blk_cell BK809.out 0).trans rfl
                                  have hcz107_1 : wc.cell? ⟨gb809, 1, none⟩ = some (.bool ((rd_T88 l1 x23_2).f1)) := (blk_cell BK809.out 1).trans rfl
                                  have hcz107_2 : wc.cell? ⟨gb809, 2, none⟩ = some (.int .i64 ((rd_T88 l1 x23_2).f2)) := (blk_cell BK809.out 2).trans rfl
                                  have hfz107_0 := blk_frozen BK809.out 0
                                  have hfz107_1 := blk_frozen BK809.out 1
                                  have hfz107_2 := blk_frozen BK809.out 2
                                  have hcz108_0 : wc.cell? ⟨gb807, 0, none⟩ = some (.bool ((rd_T83 l0 x23_2).f0)) := (blk_cell BK807.out 0).trans rfl
                                  have hcz108_1 : wc.cell? ⟨gb807, 1, none⟩ = some (.int .i64 ((rd_T83 l0 x23_2).f1.f0)) := (blk_cell BK807.out 1).trans rfl
                                  have hcz108_2 : wc.cell? ⟨gb807, 2, none⟩ = some (.int .i64 ((rd_T83 l0 x23_2).f1.f1)) := (blk_cell BK807.out 2).trans rfl
                                  have hfz108_0 := blk_frozen BK807.out 0
                                  have hfz108_1 := blk_frozen BK807.out 1
                                  have hfz108_2 := blk_frozen BK807.out 2
                                  go_wp2
                                  repeat (go_quiet (fail); try go_wp2)
                                  go_ret
                                  exact ⟨er_, hb2_ HB.out GE807.out GE809.out⟩
                              · rw [if_neg c93] at H
                                have c93b0 : (((rd_T88 l1 x23_2).f2) == 0) = false := beq_eq_false_iff_ne.mpr c93
                                have c93b1 : (((rd_T88 l1 x23_2).f2) != 0) = true := bne_iff_ne.mpr c93
                                obtain rfl := Option.some.inj H
                                have hnb109 := NB809_807.out
                                have hnc109 := NB807_809.out
                                have hcz110_0 : wc.cell? ⟨gb809, 0, none⟩ = some (.int .i64 ((rd_T88 l1 x23_2).f0)) := (blk_cell BK809.out 0).trans rfl
                                have hcz110_1 : wc.cell? ⟨gb809, 1, none⟩ = some (.bool ((rd_T88 l1 x23_2).f1)) := (blk_cell BK809.out 1).trans rfl
                                have hcz110_2 : wc.cell? ⟨gb809, 2, none⟩ = some (.int .i64 ((rd_T88 l1 x23_2).f2)) := (blk_cell BK809.out 2).trans rfl
                                have hfz110_0 := blk_frozen BK809.out 0
                                have hfz110_1 := blk_frozen BK809.out 1
                                have hfz110_2 := blk_frozen BK809.out 2
                                have hcz111_0 : wc.cell? ⟨gb807, 0, none⟩ = some (.bool ((rd_T83 l0 x23_2).f0)) := (blk_cell BK807.out 0).trans rfl
                                have hcz111_1 : wc.cell? ⟨gb807, 1, none⟩ = some (.int .i64 ((rd_T83 l0 x23_2).f1.f0)) := (blk_cell BK807.out 1).trans rfl
                                have hcz111_2 : wc.cell? ⟨gb807, 2, none⟩ = some (.int .i64 ((rd_T83 l0 x23_2).f1.f1)) := (blk_cell BK807.out 2).trans rfl
                                have hfz111_0 := blk_frozen BK807.out 0
                                have hfz111_1 := blk_frozen BK807.out 1
                                have hfz111_2 := blk_frozen BK807.out 2
                                go_wp2
                                repeat (go_quiet (fail); try go_wp2)
                                go_ret
                                exact ⟨er_, hb2_ HB.out GE807.out GE809.out⟩
                  · rw [if_neg c9] at H
                    exact absurd H (by simp)
                · rw [if_neg c8] at H
                  exact absurd H (by simp)
              · rw [if_neg c7] at H
                exact absurd H (by simp)
            · rw [if_neg c6] at H
              have c6b0 : decide (x23_2 < (l0.length : Int)) = false := decide_eq_false c6
              clear c6
              obtain rfl := Option.some.inj H
              go_wp2
              repeat (go_quiet (fail); try go_wp2)
              go_ret
              exact ⟨er_, hb_ HB.out⟩
end Go.Proofs.Ytcgdnfaclbnflaa.P

